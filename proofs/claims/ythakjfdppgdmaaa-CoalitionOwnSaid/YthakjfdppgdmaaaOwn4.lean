/- CoalitionOwn: an answer that is stable leaves no airline worse off, and no airline can better itself. -/
import Derived.Test.YthakjfdppgdmaaaOwn3
import Derived.Test.YthakjfdppgdmaaaRows
import Derived.WalkKit
import Derived.ShutString
set_option linter.unusedVariables false
set_option linter.unusedSimpArgs false
set_option maxRecDepth 100000
set_option maxHeartbeats 0
namespace Go.Fx
open Go Go.RowKit Go.Proofs
def m20_overflightlaw37_better_B1 (r_ : XRound) (slots : List Int) (members_1 : (List Int)) (v_1 : Int) (map_1 : List (Int × Int)) (sf35 : Int → (List (Int × Int)) → Option Bool) (sf56 : Bool → Int → Option Bool) (own_1 : Bool) (v_2 : Int) : Option Bool :=
 bif (decide (v_2 < (members_1.length : Int))) then
  ck ((0 : Int) ≤ v_2 ∧ v_2 < (members_1.length : Int)) <|
  jn (fun (own_2 : Bool) =>
   jn (fun (v_3 : Bool) =>
    bif v_3 then
     some false
    else
     sf56 own_2 (IntKind.wrap .i64 (v_2 + 1)))
   (fun k84 =>
    bif (decide (v_2 < v_1)) then
     ck ((0 : Int) ≤ v_2 ∧ v_2 < (slots.length : Int)) <|
     k84 (decide ((slots.getD v_2.toNat default) = (slots.getD v_1.toNat default)))
    else
     k84 false))
  (fun k74 =>
   bif own_1 then
    k74 true
   else
    k74 (decide ((members_1.getD v_2.toNat default) = (slots.getD v_1.toNat default))))
 else
  ck ((0 : Int) ≤ v_1 ∧ v_1 < (members_1.length : Int)) <|
  jn (fun (v_4 : Bool) =>
   bif v_4 then
    some false
   else
    ck ((0 : Int) ≤ (members_1.getD v_1.toNat default) ∧ (members_1.getD v_1.toNat default) < (r_.owners.length : Int)) <|
    ck ((0 : Int) ≤ (members_1.getD v_1.toNat default) ∧ (members_1.getD v_1.toNat default) < (r_.costs.length : Int)) <|
    ck ((0 : Int) ≤ (slots.getD v_1.toNat default) ∧ (slots.getD v_1.toNat default) < ((r_.costs.getD (members_1.getD v_1.toNat default).toNat default).length : Int)) <|
    sf35 (IntKind.wrap .i64 (v_1 + 1)) (mput map_1 (r_.owners.getD (members_1.getD v_1.toNat default).toNat default) (IntKind.wrap .i64 (((mget map_1 (r_.owners.getD (members_1.getD v_1.toNat default).toNat default)).getD 0) + ((r_.costs.getD (members_1.getD v_1.toNat default).toNat default).getD (slots.getD v_1.toNat default).toNat default)))))
  (fun k110 =>
   bif (!own_1) then
    k110 true
   else
    bif (decide ((slots.getD v_1.toNat default) < 0)) then
     k110 true
    else
     bif (decide ((r_.costs.length : Int) ≤ (members_1.getD v_1.toNat default))) then
      k110 true
     else
      ck ((0 : Int) ≤ (members_1.getD v_1.toNat default) ∧ (members_1.getD v_1.toNat default) < (r_.costs.length : Int)) <|
      bif (decide (((r_.costs.getD (members_1.getD v_1.toNat default).toNat default).length : Int) ≤ (slots.getD v_1.toNat default))) then
       k110 true
      else
       ck ((0 : Int) ≤ (members_1.getD v_1.toNat default) ∧ (members_1.getD v_1.toNat default) < (r_.costs.length : Int)) <|
       ck ((0 : Int) ≤ (slots.getD v_1.toNat default) ∧ (slots.getD v_1.toNat default) < ((r_.costs.getD (members_1.getD v_1.toNat default).toNat default).length : Int)) <|
       k110 (decide (((r_.costs.getD (members_1.getD v_1.toNat default).toNat default).getD (slots.getD v_1.toNat default).toNat default) < 0)))

def m20_overflightlaw37_better_B2 (group : List Int) (than : List Int) (map_1 : List (Int × Int)) (sf260 : Int → Option Bool) (v_5 : Int) : Option Bool :=
 bif (decide (v_5 < (group.length : Int))) then
  ck ((0 : Int) ≤ v_5 ∧ v_5 < (group.length : Int)) <|
  jn (fun (v_6 : Bool) =>
   bif v_6 then
    some false
   else
    sf260 (IntKind.wrap .i64 (v_5 + 1)))
  (fun k279 =>
   bif (decide ((group.getD v_5.toNat default) < 0)) then
    k279 true
   else
    bif (decide ((than.length : Int) ≤ (group.getD v_5.toNat default))) then
     k279 true
    else
     ck ((0 : Int) ≤ (group.getD v_5.toNat default) ∧ (group.getD v_5.toNat default) < (than.length : Int)) <|
     k279 (decide ((than.getD (group.getD v_5.toNat default).toNat default) ≤ ((mget map_1 (group.getD v_5.toNat default)).getD 0))))
 else
  some true

def m20_overflightlaw37_better_B0 (r_ : XRound) (group : List Int) (slots : List Int) (than : List Int) (members_1 : (List Int)) (sf35 : Int → (List (Int × Int)) → Option Bool) (v_1 : Int) (map_1 : List (Int × Int)) : Option Bool :=
 bif (decide (v_1 < (slots.length : Int))) then
  ck ((0 : Int) ≤ v_1 ∧ v_1 < (slots.length : Int)) <|
  loop2 (m20_overflightlaw37_better_B1 r_ slots members_1 v_1 map_1 sf35) (((members_1.length : Int) - 0).toNat + 1) false 0
 else
  loop1 (m20_overflightlaw37_better_B2 group than map_1) (((group.length : Int) - 0).toNat + 1) 0

def m20_overflightlaw37_better (r_ : XRound) (group : List Int) (slots : List Int) (than : List Int) : Option Bool :=
 (m21_overflightlaw37_members r_ group).bind fun members_1 =>
 bif (decide ((slots.length : Int) ≠ (members_1.length : Int))) then
  some false
 else
  loop2 (m20_overflightlaw37_better_B0 r_ group slots than members_1) (((slots.length : Int) - 0).toNat + 1) 0 ([] : List (Int × Int))

theorem c20_overflightlaw37_better {w : World} {O : List Nat} {r_ : XRound} {group : List Int} {slots : List Int} {than : List Int} {a_r__owners : Option Addr} {c_r__owners : Nat} {a_r__costs : Option Addr} {c_r__costs : Nat} {a_group : Option Addr} {c_group : Nat} {a_slots : Option Addr} {c_slots : Nat} {a_than : Option Addr} {c_than : Nat} (hO : ∀ k ∈ O, k < w.heap.size) (r_r__slots : InK .i64 r_.slots) (f_r__owners : SlR (rInt .i64) w O a_r__owners c_r__owners r_.owners) (f_r__costs : SlR (rSl (rInt .i64)) w O a_r__costs c_r__costs r_.costs) (f_group : SlR (rInt .i64) w O a_group c_group group) (f_slots : SlR (rInt .i64) w O a_slots c_slots slots) (f_than : SlR (rInt .i64) w O a_than c_than than) {x : Bool} (hm : m20_overflightlaw37_better r_ group slots than = some x) :
  Ok Try.prog 20 [(Value.agg [(Value.int .i64 r_.slots), (Value.slice a_r__owners r_.owners.length c_r__owners), (Value.slice a_r__costs r_.costs.length c_r__costs)].toArray), (Value.slice a_group group.length c_group), (Value.slice a_slots slots.length c_slots), (Value.slice a_than than.length c_than)] w O vB x := by
 unfold m20_overflightlaw37_better at hm
 refine Fn_of_Wp (n := 140) (xs := [.tmp 8]) Try.func20 rfl Try.ntmps20 Try.results20 rfl ?_
 have hs := St.start hO
 refine Wp_seq ?_
 refine Wp_region ?_
 refine Rg_op rfl (op_box (cs := [(Value.int .i64 r_.slots), (Value.slice a_r__owners r_.owners.length c_r__owners), (Value.slice a_r__costs r_.costs.length c_r__costs)]) hs rfl rfl ?_)
 intro b1 w2 _ p3 hs4
 replace f_r__owners := f_r__owners.step p3; replace f_r__costs := f_r__costs.step p3; replace f_group := f_group.step p3; replace f_slots := f_slots.step p3; replace f_than := f_than.step p3; clear p3
 refine Rg_op rfl (op_assign (v := (Value.bool false)) rfl ?_)
 refine Rg_nil ?_
 refine Wp_seq ?_
 refine Wp_region ?_
 refine Rg_op rfl (op_loadA (cs := [(Value.int .i64 r_.slots), (Value.slice a_r__owners r_.owners.length c_r__owners), (Value.slice a_r__costs r_.costs.length c_r__costs)]) (vs := [(Value.int .i64 r_.slots), (Value.slice a_r__owners r_.owners.length c_r__owners), (Value.slice a_r__costs r_.costs.length c_r__costs)]) (i := 0) ty25 hs4 rfl rfl rfl rfl ?_)
 refine Rg_op rfl (op_move (v := (Value.slice a_group group.length c_group)) rfl ?_)
 replace hm := bd hm; obtain ⟨members_1, hv6, hm⟩ := hm
 refine Rg_op rfl (op_call Try.call21 (g21_overflightlaw37_members (r_ := r_) (group := group) hs4.ltw r_r__slots f_r__owners f_r__costs f_group hv6) rfl ?_)
 rintro _ w8 ⟨hx9, a12, c13, k14, o15, rfl, hk16, f17⟩
 obtain ⟨hs11, p18⟩ := hs4.callG (o := o15) hx9 hk16
 rw [← ks_cons (o := o15)] at f17
 replace f_r__owners := f_r__owners.step p18; replace f_r__costs := f_r__costs.step p18; replace f_group := f_group.step p18; replace f_slots := f_slots.step p18; replace f_than := f_than.step p18; clear p18 hs4
 refine Rg_op rfl (op_assign (v := (Value.slice a12 members_1.length c13)) rfl ?_)
 refine Rg_nil ?_
 refine Wp_seq ?_
 refine Wp_seq ?_
 refine Wp_region ?_
 refine Rg_op rfl (op_move (v := (Value.slice a_slots slots.length c_slots)) rfl ?_)
 refine Rg_op rfl (op_len Try.underlying22 rfl ?_)
 have rl20 := inK_len f_slots
 refine Rg_op rfl (op_move (v := (Value.slice a12 members_1.length c13)) rfl ?_)
 refine Rg_op rfl (op_len Try.underlying22 rfl ?_)
 have rl21 := inK_lenG f17
 refine Rg_op rfl (op_neq rfl rfl ?_)
 refine Rg_nil ?_
 refine Wp_cond rfl (fun hc22 => ?_) (fun hc22 => ?_)
 ·
  replace hm := bif_t hm hc22
  refine Wp_seq ?_
  obtain ⟨hs23, p24⟩ := hs11.sub (bs' := []) (.cons _ (.cons _ List.Sublist.slnil))
  clear f_r__owners f_r__costs f_group f_slots f_than f17
  clear p24 hs11
  refine Wp_region ?_
  refine Rg_op rfl (op_assign (v := (Value.bool false)) rfl ?_)
  refine Rg_nil ?_
  refine Wp_ret ?_
  have hz := step_all hs23
  refine ⟨_, (show Closes [] _ _ from rfl), [(Value.bool false)], ⟨rfl, trivial⟩, hs23.ext, ?_⟩
  exact Vr.eq (a := vB) (x := false) rfl (Option.some.inj hm)
 ·
  replace hm := bif_f hm hc22
  refine Wp_skip ?_
  refine Wp_seq ?_
  refine Wp_region ?_
  refine Rg_op rfl (op_makeMap hs11 ?_)
  intro b25 w26 p27 hs28
  replace f_r__owners := f_r__owners.step p27; replace f_r__costs := f_r__costs.step p27; replace f_group := f_group.step p27; replace f_slots := f_slots.step p27; replace f_than := f_than.step p27; replace f17 := f17.step p27; clear p27 hs11
  have M29 : Mo .i64 (mvI .i64) (Obj.map #[] 0) ([] : List (Int × Int)) := Mo.nil_
  refine Rg_op rfl (op_assign (v := (Value.map (some b25))) rfl ?_)
  refine Rg_nil ?_
  refine Wp_seq ?_
  refine Wp_seq ?_
  refine Wp_region ?_
  refine Rg_op rfl (op_move (v := (Value.slice a_slots slots.length c_slots)) rfl ?_)
  refine Rg_op rfl (op_len Try.underlying22 rfl ?_)
  have rl31 := inK_len f_slots
  refine Rg_op rfl (op_move (v := (Value.int .i64 0)) rfl ?_)
  refine Rg_nil ?_
  refine Wp_block ?_
  refine Wp_reset [] [(1, (Value.slice a_group group.length c_group)), (2, (Value.slice a_slots slots.length c_slots)), (3, (Value.slice a_than than.length c_than)), (4, (Value.pointer (some ⟨b1, 0, none⟩))), (9, (Value.slice a12 members_1.length c13)), (10, (Value.map (some b25))), (28, (Value.slice a_slots slots.length c_slots)), (29, (Value.int .i64 (slots.length : Int))), (30, (Value.int .i64 0))] rfl ⟨rfl, rfl, rfl, rfl, rfl, rfl, rfl, rfl, rfl, trivial⟩ fun ξ34 => ?_
  refine Wp_loopM [8, 11, 12, 13, 14, 15, 16, 30, 31, 32, 33, 34, 35, 36, 37, 38, 39, 40, 41, 42, 43, 44, 45, 46, 47, 48, 49, 50, 51, 52, 53, 54, 55, 56, 57, 58, 59, 60, 61, 62, 63, 64, 65, 66, 67, 68, 69, 70, 71, 72, 73, 74, 75, 76, 77, 78, 79, 80, 81, 82, 83, 84, 85, 86, 87, 88, 89, 90, 91, 92, 93, 94, 95, 96, 97, 98, 99, 100, 101, 102, 103, 104, 105, 106, 107, 108, 109, 110, 111, 112, 113, 114] (fun m fr w' => ∃ (v_1 : Int) (map_1 : List (Int × Int)) (o_g33 : Obj) (Ebs : Ents), Ebs = [(some b25, o_g33), (k14, o15), (some b1, Obj.cells [(Value.int .i64 r_.slots), (Value.slice a_r__owners r_.owners.length c_r__owners), (Value.slice a_r__costs r_.costs.length c_r__costs)].toArray 25)] ∧ fr [] [(30, (Value.int .i64 v_1))] ∧ Step (ks [(some b25, (Obj.map #[] 0)), (k14, o15), (some b1, Obj.cells [(Value.int .i64 r_.slots), (Value.slice a_r__owners r_.owners.length c_r__owners), (Value.slice a_r__costs r_.costs.length c_r__costs)].toArray 25)] O) w26 (ks Ebs O) w' ∧ St ⟨w, [], []⟩ O w' Ebs ∧ InK .i64 v_1 ∧ Mo .i64 (mvI .i64) o_g33 map_1 ∧ loop2 (m20_overflightlaw37_better_B0 r_ group slots than members_1) m v_1 map_1 = some x) (((slots.length : Int) - 0).toNat + 1) ⟨0, ([] : List (Int × Int)), (Obj.map #[] 0), _, rfl, ⟨Out.refl _ _, rfl, rfl, trivial⟩, Step.refl _ _, hs28, (show InK .i64 0 from by decide), M29, hm⟩ ?_ ?_
  · rintro _ _ ⟨_, _, _, _, _, _, _, _, _, _, hm⟩; exact loop2_z hm
  ·
   rintro m38 K37 hK37 ρ43 w39 ⟨v_1, map_1, o_g33, Ebs, hEbs, hfr42, hst41, hs40, r_y32, M_g33, hm⟩
   obtain ⟨sf35, hsf36, hm⟩ := loop2_s hm; unfold m20_overflightlaw37_better_B0 at hm
   subst hEbs; rw [hfr42.eq]; clear hfr42
   replace f_r__owners := f_r__owners.step hst41; replace f_r__costs := f_r__costs.step hst41; replace f_group := f_group.step hst41; replace f_slots := f_slots.step hst41; replace f_than := f_than.step hst41; replace f17 := f17.step hst41
   have ch44 := hst41
   refine Wp_seq ?_
   refine Wp_region ?_
   refine Rg_op rfl (op_lss rfl rfl ?_)
   refine Rg_nil ?_
   refine Wp_seq ?_
   refine Wp_cond rfl (fun hc45 => ?_) (fun hc45 => ?_)
   ·
    replace hm := bif_t hm hc45
    refine Wp_skip ?_
    refine Wp_seq ?_
    refine Wp_block ?_
    refine Wp_seq ?_
    refine Wp_region ?_
    refine Rg_op rfl (op_move (v := (Value.int .i64 v_1)) rfl ?_)
    replace hm := ck_some hm; obtain ⟨hc46, hm⟩ := hm
    refine Rg_op rfl (op_indexAddr (q := (rInt .i64)) ty22 ty3 rfl rfl f_slots rfl hc46.1 hc46.2 ?_)
    intro p47 f48
    refine Rg_op rfl (op_loadP ty3 rfl f48 rfl ?_)
    intro v49 h50
    obtain ⟨rfl, r_y51⟩ := un_int h50
    refine Rg_op rfl (op_assign (v := (Value.int .i64 v_1)) rfl ?_)
    refine Rg_op rfl (op_assign (v := (Value.int .i64 (slots.getD v_1.toNat default))) rfl ?_)
    refine Rg_nil ?_
    refine Wp_seq ?_
    clear f48
    refine Wp_region ?_
    refine Rg_op rfl (op_assign (v := (Value.bool false)) rfl ?_)
    refine Rg_nil ?_
    refine Wp_seq ?_
    refine Wp_seq ?_
    refine Wp_region ?_
    refine Rg_op rfl (op_move (v := (Value.slice a12 members_1.length c13)) rfl ?_)
    refine Rg_op rfl (op_len Try.underlying22 rfl ?_)
    have rl52 := inK_lenG f17
    refine Rg_op rfl (op_move (v := (Value.int .i64 0)) rfl ?_)
    refine Rg_nil ?_
    refine Wp_block ?_
    refine Wp_reset2 [8, 11, 12, 13, 14, 15, 16, 30, 31, 32, 33, 34, 35, 36, 37, 38, 39, 40, 41, 42, 43, 44, 45, 46, 47, 48, 49, 50, 51, 52, 53, 54, 55, 56, 57, 58, 59, 60, 61, 62, 63, 64, 65, 66, 67, 68, 69, 70, 71, 72, 73, 74, 75, 76, 77, 78, 79, 80, 81, 82, 83, 84, 85, 86, 87, 88, 89, 90, 91, 92, 93, 94, 95, 96, 97, 98, 99, 100, 101, 102, 103, 104, 105, 106, 107, 108, 109, 110, 111, 112, 113, 114] [] (updL ⟨ξ34, []⟩ [(1, (Value.slice a_group group.length c_group)), (2, (Value.slice a_slots slots.length c_slots)), (3, (Value.slice a_than than.length c_than)), (4, (Value.pointer (some ⟨b1, 0, none⟩))), (9, (Value.slice a12 members_1.length c13)), (10, (Value.map (some b25))), (28, (Value.slice a_slots slots.length c_slots)), (29, (Value.int .i64 (slots.length : Int))), (30, (Value.int .i64 0))]) [(11, (Value.int .i64 v_1)), (12, (Value.int .i64 (slots.getD v_1.toNat default))), (13, (Value.bool false)), (30, (Value.int .i64 v_1)), (35, (Value.slice a12 members_1.length c13)), (36, (Value.int .i64 (members_1.length : Int))), (37, (Value.int .i64 0))] (by repeat (first | with_reducible exact Out.refl _ _ | refine Out.upd ?_ rfl | refine Out.updL ?_ rfl | refine Out.mix' ?_ rfl | exact Out.refl _ _)) rfl ⟨rfl, rfl, rfl, rfl, rfl, rfl, rfl, trivial⟩ fun ξ55 => ?_
    refine Wp_loopM [8, 13, 14, 15, 37, 38, 39, 40, 41, 42, 43, 44, 45, 46, 47, 48, 49, 50, 51, 52, 53, 54, 55, 56, 57, 58, 59] (fun m fr w' => ∃ (own_1 : Bool) (v_2 : Int) (Ebs : Ents), Ebs = [(some b25, o_g33), (k14, o15), (some b1, Obj.cells [(Value.int .i64 r_.slots), (Value.slice a_r__owners r_.owners.length c_r__owners), (Value.slice a_r__costs r_.costs.length c_r__costs)].toArray 25)] ∧ fr [] [(13, (Value.bool own_1)), (37, (Value.int .i64 v_2))] ∧ Step (ks [(some b25, o_g33), (k14, o15), (some b1, Obj.cells [(Value.int .i64 r_.slots), (Value.slice a_r__owners r_.owners.length c_r__owners), (Value.slice a_r__costs r_.costs.length c_r__costs)].toArray 25)] O) w39 (ks Ebs O) w' ∧ St ⟨w, [], []⟩ O w' Ebs ∧ InK .i64 v_2 ∧ loop2 (m20_overflightlaw37_better_B1 r_ slots members_1 v_1 map_1 sf35) m own_1 v_2 = some x) (((members_1.length : Int) - 0).toNat + 1) ⟨false, 0, _, rfl, ⟨Out.refl _ _, rfl, rfl, rfl, trivial⟩, Step.refl _ _, hs40, (show InK .i64 0 from by decide), hm⟩ ?_ ?_
    · rintro _ _ ⟨_, _, _, _, _, _, _, _, hm⟩; exact loop2_z hm
    ·
     rintro m59 K58 hK58 ρ64 w60 ⟨own_1, v_2, Ebs, hEbs, hfr63, hst62, hs61, r_y54, hm⟩
     obtain ⟨sf56, hsf57, hm⟩ := loop2_s hm; unfold m20_overflightlaw37_better_B1 at hm
     subst hEbs; rw [hfr63.eq]; clear hfr63
     replace f_r__owners := f_r__owners.step hst62; replace f_r__costs := f_r__costs.step hst62; replace f_group := f_group.step hst62; replace f_slots := f_slots.step hst62; replace f_than := f_than.step hst62; replace f17 := f17.step hst62; replace ch44 := ch44.trans hst62
     have ch65 := hst62
     refine Wp_seq ?_
     refine Wp_region ?_
     refine Rg_op rfl (op_lss rfl rfl ?_)
     refine Rg_nil ?_
     refine Wp_seq ?_
     refine Wp_cond rfl (fun hc66 => ?_) (fun hc66 => ?_)
     ·
      replace hm := bif_t hm hc66
      refine Wp_skip ?_
      refine Wp_seq ?_
      refine Wp_block ?_
      refine Wp_seq ?_
      refine Wp_region ?_
      refine Rg_op rfl (op_move (v := (Value.int .i64 v_2)) rfl ?_)
      replace hm := ck_some hm; obtain ⟨hc67, hm⟩ := hm
      refine Rg_op rfl (op_indexAddrG ty22 ty3 rfl rfl f17 hc67 ?_)
      rintro b68 rfl rfl
      refine Rg_op rfl (op_loadG (i := 1) ty3 rfl hs61 rfl rfl f17 hc67 ?_)
      intro v69 h70
      obtain ⟨rfl, r_y71⟩ := un_int h70
      refine Rg_op rfl (op_assign (v := (Value.int .i64 v_2)) rfl ?_)
      refine Rg_op rfl (op_assign (v := (Value.int .i64 (members_1.getD v_2.toNat default))) rfl ?_)
      refine Rg_nil ?_
      refine Wp_reset2 [8, 13, 14, 15, 37, 38, 39, 40, 41, 42, 43, 44, 45, 46, 47, 48, 49, 50, 51, 52, 53, 54, 55, 56, 57, 58, 59] [] (updL (mix [8, 11, 12, 13, 14, 15, 16, 30, 31, 32, 33, 34, 35, 36, 37, 38, 39, 40, 41, 42, 43, 44, 45, 46, 47, 48, 49, 50, 51, 52, 53, 54, 55, 56, 57, 58, 59, 60, 61, 62, 63, 64, 65, 66, 67, 68, 69, 70, 71, 72, 73, 74, 75, 76, 77, 78, 79, 80, 81, 82, 83, 84, 85, 86, 87, 88, 89, 90, 91, 92, 93, 94, 95, 96, 97, 98, 99, 100, 101, 102, 103, 104, 105, 106, 107, 108, 109, 110, 111, 112, 113, 114] [] ξ55 (updL ⟨ξ34, []⟩ [(1, (Value.slice a_group group.length c_group)), (2, (Value.slice a_slots slots.length c_slots)), (3, (Value.slice a_than than.length c_than)), (4, (Value.pointer (some ⟨b1, 0, none⟩))), (9, (Value.slice (some ⟨b68, 0, none⟩) members_1.length c13)), (10, (Value.map (some b25))), (28, (Value.slice a_slots slots.length c_slots)), (29, (Value.int .i64 (slots.length : Int))), (30, (Value.int .i64 0))])) [(11, (Value.int .i64 v_1)), (12, (Value.int .i64 (slots.getD v_1.toNat default))), (13, (Value.bool false)), (30, (Value.int .i64 v_1)), (35, (Value.slice (some ⟨b68, 0, none⟩) members_1.length c13)), (36, (Value.int .i64 (members_1.length : Int))), (37, (Value.int .i64 0))]) [(13, (Value.bool own_1)), (14, (Value.int .i64 v_2)), (15, (Value.int .i64 (members_1.getD v_2.toNat default))), (37, (Value.int .i64 v_2))] (by repeat (first | with_reducible exact Out.refl _ _ | refine Out.upd ?_ rfl | refine Out.updL ?_ rfl | refine Out.mix' ?_ rfl | exact Out.refl _ _)) rfl ⟨rfl, rfl, rfl, rfl, trivial⟩ fun ξ72 => ?_
      replace hm := jn_elim hm; obtain ⟨k74, hk75, hm⟩ := hm
      refine Wp_seqJ [13, 42, 43, 44, 45, 46, 47] (fun fr w' => ∃ (own_2 : Bool) (Ebs : Ents), Ebs = [(some b25, o_g33), (some b68, o15), (some b1, Obj.cells [(Value.int .i64 r_.slots), (Value.slice a_r__owners r_.owners.length c_r__owners), (Value.slice a_r__costs r_.costs.length c_r__costs)].toArray 25)] ∧ fr [] [(13, (Value.bool own_2))] ∧ Step (ks [(some b25, o_g33), (some b68, o15), (some b1, Obj.cells [(Value.int .i64 r_.slots), (Value.slice a_r__owners r_.owners.length c_r__owners), (Value.slice a_r__costs r_.costs.length c_r__costs)].toArray 25)] O) w60 (ks Ebs O) w' ∧ St ⟨w, [], []⟩ O w' Ebs ∧ k74 own_2 = some x) ?_ ?_
      ·
       rintro ρ81 w77 ⟨own_2, Ebs, hEbs, hfr80, hst79, hs78, hm⟩
       replace hm := jnE1 hk75 hm
       subst hEbs; rw [hfr80.eq]; clear hfr80
       replace f_r__owners := f_r__owners.step hst79; replace f_r__costs := f_r__costs.step hst79; replace f_group := f_group.step hst79; replace f_slots := f_slots.step hst79; replace f_than := f_than.step hst79; replace f17 := f17.step hst79; replace ch44 := ch44.trans hst79; replace ch65 := ch65.trans hst79; clear hst79 hs61
       refine Wp_reset2 [8, 13, 14, 15, 37, 38, 39, 40, 41, 42, 43, 44, 45, 46, 47, 48, 49, 50, 51, 52, 53, 54, 55, 56, 57, 58, 59] [] (updL (mix [8, 11, 12, 13, 14, 15, 16, 30, 31, 32, 33, 34, 35, 36, 37, 38, 39, 40, 41, 42, 43, 44, 45, 46, 47, 48, 49, 50, 51, 52, 53, 54, 55, 56, 57, 58, 59, 60, 61, 62, 63, 64, 65, 66, 67, 68, 69, 70, 71, 72, 73, 74, 75, 76, 77, 78, 79, 80, 81, 82, 83, 84, 85, 86, 87, 88, 89, 90, 91, 92, 93, 94, 95, 96, 97, 98, 99, 100, 101, 102, 103, 104, 105, 106, 107, 108, 109, 110, 111, 112, 113, 114] [] ξ55 (updL ⟨ξ34, []⟩ [(1, (Value.slice a_group group.length c_group)), (2, (Value.slice a_slots slots.length c_slots)), (3, (Value.slice a_than than.length c_than)), (4, (Value.pointer (some ⟨b1, 0, none⟩))), (9, (Value.slice (some ⟨b68, 0, none⟩) members_1.length c13)), (10, (Value.map (some b25))), (28, (Value.slice a_slots slots.length c_slots)), (29, (Value.int .i64 (slots.length : Int))), (30, (Value.int .i64 0))])) [(11, (Value.int .i64 v_1)), (12, (Value.int .i64 (slots.getD v_1.toNat default))), (13, (Value.bool false)), (30, (Value.int .i64 v_1)), (35, (Value.slice (some ⟨b68, 0, none⟩) members_1.length c13)), (36, (Value.int .i64 (members_1.length : Int))), (37, (Value.int .i64 0))]) [(13, (Value.bool own_2)), (14, (Value.int .i64 v_2)), (37, (Value.int .i64 v_2))] (by repeat (first | with_reducible exact Out.refl _ _ | refine Out.upd ?_ rfl | refine Out.updL ?_ rfl | refine Out.mix' ?_ rfl | exact Out.refl _ _)) rfl ⟨rfl, rfl, rfl, trivial⟩ fun ξ82 => ?_
       replace hm := jn_elim hm; obtain ⟨k84, hk85, hm⟩ := hm
       refine Wp_seqJ [48, 49, 50, 51, 52, 53, 54, 55, 56, 57, 58] (fun fr w' => ∃ (v_3 : Bool) (Ebs : Ents), Ebs = [(some b25, o_g33), (some b68, o15), (some b1, Obj.cells [(Value.int .i64 r_.slots), (Value.slice a_r__owners r_.owners.length c_r__owners), (Value.slice a_r__costs r_.costs.length c_r__costs)].toArray 25)] ∧ fr [] [(58, (Value.bool v_3))] ∧ Step (ks [(some b25, o_g33), (some b68, o15), (some b1, Obj.cells [(Value.int .i64 r_.slots), (Value.slice a_r__owners r_.owners.length c_r__owners), (Value.slice a_r__costs r_.costs.length c_r__costs)].toArray 25)] O) w77 (ks Ebs O) w' ∧ St ⟨w, [], []⟩ O w' Ebs ∧ k84 v_3 = some x) ?_ ?_
       ·
        rintro ρ91 w87 ⟨v_3, Ebs, hEbs, hfr90, hst89, hs88, hm⟩
        replace hm := jnE1 hk85 hm
        subst hEbs; rw [hfr90.eq]; clear hfr90
        replace f_r__owners := f_r__owners.step hst89; replace f_r__costs := f_r__costs.step hst89; replace f_group := f_group.step hst89; replace f_slots := f_slots.step hst89; replace f_than := f_than.step hst89; replace f17 := f17.step hst89; replace ch44 := ch44.trans hst89; replace ch65 := ch65.trans hst89; clear hst89 hs78
        refine Wp_cond rfl (fun hc92 => ?_) (fun hc92 => ?_)
        ·
         replace hm := bif_t hm hc92
         refine Wp_seq ?_
         clear f_group f_slots f_than f17
         refine Wp_region ?_
         refine Rg_op rfl (op_assign (v := (Value.bool false)) rfl ?_)
         refine Rg_nil ?_
         refine Wp_ret ?_
         have hz := step_all hs88
         replace f_r__owners := f_r__owners.step hz; replace f_r__costs := f_r__costs.step hz
         refine ⟨_, (show Closes [] _ _ from rfl), [(Value.bool false)], ⟨rfl, trivial⟩, hs88.ext, ?_⟩
         exact Vr.eq (a := vB) (x := false) rfl (Option.some.inj hm)
        ·
         replace hm := bif_f hm hc92
         refine Wp_skip ?_
         refine Wp_region ?_
         refine Rg_op rfl (op_addw rfl rfl ?_)
         refine Rg_op rfl (op_move (v := (Value.int .i64 (IntKind.wrap .i64 (v_2 + 1)))) rfl ?_)
         refine Rg_nil ?_
         exact hK58 _ _ ⟨own_2, (IntKind.wrap .i64 (v_2 + 1)), _, rfl, ⟨(by repeat (first | with_reducible exact Out.refl _ _ | refine Out.upd ?_ rfl | refine Out.updL ?_ rfl | refine Out.mix' ?_ rfl | exact Out.refl _ _)), rfl, rfl, rfl, trivial⟩, ch65, hs88, (inK_wrap .i64 _), jnE2 hsf57 hm⟩
       ·
        intro K86 hK86
        have ch93 := Step.refl (ks [(some b25, o_g33), (some b68, o15), (some b1, Obj.cells [(Value.int .i64 r_.slots), (Value.slice a_r__owners r_.owners.length c_r__owners), (Value.slice a_r__costs r_.costs.length c_r__costs)].toArray 25)] O) w77
        refine Wp_region ?_
        refine Rg_op rfl (op_move (v := (Value.int .i64 v_2)) rfl ?_)
        refine Rg_op rfl (op_move (v := (Value.int .i64 v_1)) rfl ?_)
        refine Rg_op rfl (op_lss rfl rfl ?_)
        refine Rg_op rfl (op_move (v := (Value.bool (decide (v_2 < v_1)))) rfl ?_)
        refine Rg_case (fun hg94 => ?_) (fun hg94 => ?_)
        ·
         replace hm := bif_t hm hg94
         refine Rg_opg rfl rfl rfl (op_move (v := (Value.slice a_slots slots.length c_slots)) rfl ?_)
         refine Rg_opg rfl rfl rfl (op_move (v := (Value.int .i64 v_2)) rfl ?_)
         replace hm := ck_some hm; obtain ⟨hc95, hm⟩ := hm
         refine Rg_opg rfl rfl rfl (op_indexAddr (q := (rInt .i64)) ty22 ty3 rfl rfl f_slots rfl hc95.1 hc95.2 ?_)
         intro p96 f97
         refine Rg_opg rfl rfl rfl (op_loadP ty3 rfl f97 rfl ?_)
         intro v98 h99
         obtain ⟨rfl, r_y100⟩ := un_int h99
         refine Rg_opg rfl rfl rfl (op_move (v := (Value.int .i64 (slots.getD v_1.toNat default))) rfl ?_)
         refine Rg_opg rfl rfl rfl (op_eql rfl rfl ?_)
         refine Rg_op rfl (op_pick_t (v := (Value.bool (decide ((slots.getD v_2.toNat default) = (slots.getD v_1.toNat default))))) rfl rfl ?_)
         refine Rg_nil ?_
         exact hK86 _ _ ⟨(decide ((slots.getD v_2.toNat default) = (slots.getD v_1.toNat default))), _, rfl, ⟨(by repeat (first | with_reducible exact Out.refl _ _ | refine Out.upd ?_ rfl | refine Out.updL ?_ rfl | refine Out.mix' ?_ rfl | exact Out.refl _ _)), rfl, rfl, trivial⟩, ch93, hs78, hm⟩
        ·
         replace hm := bif_f hm hg94
         iterate 6 refine Rg_opx rfl (asB_ne rfl rfl) rfl ?_
         refine Rg_op rfl (op_pick_f (v := (Value.bool false)) rfl rfl ?_)
         refine Rg_nil ?_
         exact hK86 _ _ ⟨false, _, rfl, ⟨(by repeat (first | with_reducible exact Out.refl _ _ | refine Out.upd ?_ rfl | refine Out.updL ?_ rfl | refine Out.mix' ?_ rfl | exact Out.refl _ _)), rfl, rfl, trivial⟩, ch93, hs78, hm⟩
      ·
       intro K76 hK76
       have ch101 := Step.refl (ks [(some b25, o_g33), (some b68, o15), (some b1, Obj.cells [(Value.int .i64 r_.slots), (Value.slice a_r__owners r_.owners.length c_r__owners), (Value.slice a_r__costs r_.costs.length c_r__costs)].toArray 25)] O) w60
       refine Wp_region ?_
       refine Rg_op rfl (op_move (v := (Value.bool own_1)) rfl ?_)
       refine Rg_op rfl (op_move (v := (Value.bool own_1)) rfl ?_)
       refine Rg_case (fun hg102 => ?_) (fun hg102 => ?_)
       ·
        replace hm := bif_t hm hg102
        iterate 3 refine Rg_opx rfl (asB_ne rfl rfl) rfl ?_
        refine Rg_op rfl (op_pick_t (v := (Value.bool true)) rfl rfl ?_)
        refine Rg_op rfl (op_assign (v := (Value.bool true)) rfl ?_)
        refine Rg_nil ?_
        exact hK76 _ _ ⟨true, _, rfl, ⟨(by repeat (first | with_reducible exact Out.refl _ _ | refine Out.upd ?_ rfl | refine Out.updL ?_ rfl | refine Out.mix' ?_ rfl | exact Out.refl _ _)), rfl, rfl, trivial⟩, ch101, hs61, hm⟩
       ·
        replace hm := bif_f hm hg102
        refine Rg_opg rfl rfl rfl (op_move (v := (Value.int .i64 (members_1.getD v_2.toNat default))) rfl ?_)
        refine Rg_opg rfl rfl rfl (op_move (v := (Value.int .i64 (slots.getD v_1.toNat default))) rfl ?_)
        refine Rg_opg rfl rfl rfl (op_eql rfl rfl ?_)
        refine Rg_op rfl (op_pick_f (v := (Value.bool (decide ((members_1.getD v_2.toNat default) = (slots.getD v_1.toNat default))))) rfl rfl ?_)
        refine Rg_op rfl (op_assign (v := (Value.bool (decide ((members_1.getD v_2.toNat default) = (slots.getD v_1.toNat default))))) rfl ?_)
        refine Rg_nil ?_
        exact hK76 _ _ ⟨(decide ((members_1.getD v_2.toNat default) = (slots.getD v_1.toNat default))), _, rfl, ⟨(by repeat (first | with_reducible exact Out.refl _ _ | refine Out.upd ?_ rfl | refine Out.updL ?_ rfl | refine Out.mix' ?_ rfl | exact Out.refl _ _)), rfl, rfl, trivial⟩, ch101, hs61, hm⟩
     ·
      replace hm := bif_f hm hc66
      refine Wp_exit ?_
      refine Wp_seq ?_
      refine Wp_region ?_
      refine Rg_op rfl (op_move (v := (Value.slice a12 members_1.length c13)) rfl ?_)
      refine Rg_op rfl (op_move (v := (Value.int .i64 v_1)) rfl ?_)
      replace hm := ck_some hm; obtain ⟨hc103, hm⟩ := hm
      refine Rg_op rfl (op_indexAddrG ty22 ty3 rfl rfl f17 hc103 ?_)
      rintro b104 rfl rfl
      refine Rg_op rfl (op_loadG (i := 1) ty3 rfl hs61 rfl rfl f17 hc103 ?_)
      intro v105 h106
      obtain ⟨rfl, r_y107⟩ := un_int h106
      refine Rg_op rfl (op_assign (v := (Value.int .i64 (members_1.getD v_1.toNat default))) rfl ?_)
      refine Rg_nil ?_
      refine Wp_seq ?_
      refine Wp_reset2 [8, 11, 12, 13, 14, 15, 16, 30, 31, 32, 33, 34, 35, 36, 37, 38, 39, 40, 41, 42, 43, 44, 45, 46, 47, 48, 49, 50, 51, 52, 53, 54, 55, 56, 57, 58, 59, 60, 61, 62, 63, 64, 65, 66, 67, 68, 69, 70, 71, 72, 73, 74, 75, 76, 77, 78, 79, 80, 81, 82, 83, 84, 85, 86, 87, 88, 89, 90, 91, 92, 93, 94, 95, 96, 97, 98, 99, 100, 101, 102, 103, 104, 105, 106, 107, 108, 109, 110, 111, 112, 113, 114] [] (updL ⟨ξ34, []⟩ [(1, (Value.slice a_group group.length c_group)), (2, (Value.slice a_slots slots.length c_slots)), (3, (Value.slice a_than than.length c_than)), (4, (Value.pointer (some ⟨b1, 0, none⟩))), (9, (Value.slice (some ⟨b104, 0, none⟩) members_1.length c13)), (10, (Value.map (some b25))), (28, (Value.slice a_slots slots.length c_slots)), (29, (Value.int .i64 (slots.length : Int))), (30, (Value.int .i64 0))]) [(12, (Value.int .i64 (slots.getD v_1.toNat default))), (13, (Value.bool own_1)), (16, (Value.int .i64 (members_1.getD v_1.toNat default))), (30, (Value.int .i64 v_1))] (by repeat (first | with_reducible exact Out.refl _ _ | refine Out.upd ?_ rfl | refine Out.updL ?_ rfl | refine Out.mix' ?_ rfl | exact Out.refl _ _)) rfl ⟨rfl, rfl, rfl, rfl, trivial⟩ fun ξ108 => ?_
      replace hm := jn_elim hm; obtain ⟨k110, hk111, hm⟩ := hm
      refine Wp_seqJ [64, 65, 66, 67, 68, 69, 70, 71, 72, 73, 74, 75, 76, 77, 78, 79, 80, 81, 82, 83, 84, 85, 86, 87, 88, 89, 90, 91, 92, 93, 94, 95, 96, 97] (fun fr w' => ∃ (v_4 : Bool) (Ebs : Ents), Ebs = [(some b25, o_g33), (some b104, o15), (some b1, Obj.cells [(Value.int .i64 r_.slots), (Value.slice a_r__owners r_.owners.length c_r__owners), (Value.slice a_r__costs r_.costs.length c_r__costs)].toArray 25)] ∧ fr [] [(97, (Value.bool v_4))] ∧ Step (ks [(some b25, o_g33), (some b104, o15), (some b1, Obj.cells [(Value.int .i64 r_.slots), (Value.slice a_r__owners r_.owners.length c_r__owners), (Value.slice a_r__costs r_.costs.length c_r__costs)].toArray 25)] O) w60 (ks Ebs O) w' ∧ St ⟨w, [], []⟩ O w' Ebs ∧ k110 v_4 = some x) ?_ ?_
      ·
       rintro ρ117 w113 ⟨v_4, Ebs, hEbs, hfr116, hst115, hs114, hm⟩
       replace hm := jnE1 hk111 hm
       subst hEbs; rw [hfr116.eq]; clear hfr116
       replace f_r__owners := f_r__owners.step hst115; replace f_r__costs := f_r__costs.step hst115; replace f_group := f_group.step hst115; replace f_slots := f_slots.step hst115; replace f_than := f_than.step hst115; replace f17 := f17.step hst115; replace ch44 := ch44.trans hst115; replace ch65 := ch65.trans hst115; clear hst115 hs61
       refine Wp_cond rfl (fun hc118 => ?_) (fun hc118 => ?_)
       ·
        replace hm := bif_t hm hc118
        refine Wp_seq ?_
        clear f_group f_slots f_than f17
        refine Wp_region ?_
        refine Rg_op rfl (op_assign (v := (Value.bool false)) rfl ?_)
        refine Rg_nil ?_
        refine Wp_ret ?_
        have hz := step_all hs114
        replace f_r__owners := f_r__owners.step hz; replace f_r__costs := f_r__costs.step hz
        refine ⟨_, (show Closes [] _ _ from rfl), [(Value.bool false)], ⟨rfl, trivial⟩, hs114.ext, ?_⟩
        exact Vr.eq (a := vB) (x := false) rfl (Option.some.inj hm)
       ·
        replace hm := bif_f hm hc118
        refine Wp_skip ?_
        refine Wp_drawR (g0 := []) (m := 15) (fl := []) (TS_inv hs114) rfl (.inl rfl) rfl (by decide +kernel) ?_  -- 19
        refine Dw_eq (Value.map (some b25)) (fun ρ119 w120 g hle hi ht => ?_) ?_
        ·
         obtain ⟨-, hst, -⟩ := hle
         refine StepOp_plain (op_move (v := (Value.map (some b25))) (ht 10 rfl) ?_)
         exact Goes.same hi rfl
        refine Dw_eq (Value.pointer (some ⟨b1, 1, none⟩)) (fun ρ122 w123 g hle hi ht => ?_) ?_
        ·
         obtain ⟨-, hst, -⟩ := hle
         refine StepOp_plain (op_fieldAddr ty25 rfl ty22 (by decide) (ht 4 rfl) (rfl : _ = (⟨_, 1, none⟩ : Addr)) ?_)
         exact Goes.same hi rfl
        refine Dw_eq (Value.slice a_r__owners r_.owners.length c_r__owners) (fun ρ125 w126 g hle hi ht => ?_) ?_
        ·
         obtain ⟨-, hst, -⟩ := hle
         have hsn := (Step.nx hi).1
         refine StepOp_plain (op_load (cs := [(Value.int .i64 r_.slots), (Value.slice a_r__owners r_.owners.length c_r__owners), (Value.slice a_r__costs r_.costs.length c_r__costs)]) (i := 2) ty22 hsn (ht 99 rfl) rfl rfl ?_)
         exact Goes.same hi rfl
        refine Dw_eq (Value.int .i64 (members_1.getD v_1.toNat default)) (fun ρ128 w129 g hle hi ht => ?_) ?_
        ·
         obtain ⟨-, hst, -⟩ := hle
         refine StepOp_plain (op_move (v := (Value.int .i64 (members_1.getD v_1.toNat default))) (ht 16 rfl) ?_)
         exact Goes.same hi rfl
        replace hm := ck_some hm; obtain ⟨hc134, hm⟩ := hm
        refine Dw_op (VP O [(some b25, o_g33), (some b104, o15), (some b1, Obj.cells [(Value.int .i64 r_.slots), (Value.slice a_r__owners r_.owners.length c_r__owners), (Value.slice a_r__costs r_.costs.length c_r__costs)].toArray 25)] (rInt .i64) (r_.owners.getD (members_1.getD v_1.toNat default).toNat default)) (VP.stab _ _) (fun ρ131 w132 g hle hi ht => ?_) ?_
        ·
         obtain ⟨-, hst, -⟩ := hle
         replace f_r__owners := f_r__owners.step hst
         refine StepOp_plain (op_indexAddr (q := (rInt .i64)) ty22 ty3 (ht 100 rfl) (ht 101 rfl) f_r__owners rfl hc134.1 hc134.2 ?_)
         intro p135 f136
         exact Goes.same hi ⟨_, rfl, f136⟩
        refine Dw_op (VD O [(some b25, o_g33), (some b104, o15), (some b1, Obj.cells [(Value.int .i64 r_.slots), (Value.slice a_r__owners r_.owners.length c_r__owners), (Value.slice a_r__costs r_.costs.length c_r__costs)].toArray 25)] (vI .i64) (r_.owners.getD (members_1.getD v_1.toNat default).toNat default)) (VD.stab _ _) (fun ρ137 w138 g hle hi ht => ?_) ?_
        ·
         obtain ⟨-, hst, -⟩ := hle
         obtain ⟨p140, q141, f142⟩ := ht 102 rfl
         refine StepOp_plain (op_loadP ty3 q141 f142 rfl ?_)
         intro v143 h144
         obtain ⟨rfl, r_y145⟩ := un_int h144
         exact Goes.same hi (show Vr.vd (vI .i64) _ _ _ _ from ⟨rfl, r_y145⟩)
        refine Dw_eq (Value.int .i64 ((mget map_1 (r_.owners.getD (members_1.getD v_1.toNat default).toNat default)).getD 0)) (fun ρ146 w147 g hle hi ht => ?_) ?_
        ·
         obtain ⟨-, hst, -⟩ := hle
         have hsn := (Step.nx hi).1
         have h149 : Vr.vd (vI .i64) _ _ _ _ := ht 103 rfl
         obtain ⟨q150, r_y151⟩ := h149
         refine StepOp_plain (op_lookup (q := .i64) (m := (mvI .i64)) (z := 0) Try.underlying55 Try.underlying3 Try.zeroValue3 (hsn.get (i := 0) rfl) M_g33 (ht 98 rfl) q150 ?_)
         exact Goes.same hi rfl
        refine Dw_eq (Value.pointer (some ⟨b1, 2, none⟩)) (fun ρ152 w153 g hle hi ht => ?_) ?_
        ·
         obtain ⟨-, hst, -⟩ := hle
         refine StepOp_plain (op_fieldAddr ty25 rfl ty23 (by decide) (ht 4 rfl) (rfl : _ = (⟨_, 2, none⟩ : Addr)) ?_)
         exact Goes.same hi rfl
        refine Dw_eq (Value.slice a_r__costs r_.costs.length c_r__costs) (fun ρ155 w156 g hle hi ht => ?_) ?_
        ·
         obtain ⟨-, hst, -⟩ := hle
         have hsn := (Step.nx hi).1
         refine StepOp_plain (op_load (cs := [(Value.int .i64 r_.slots), (Value.slice a_r__owners r_.owners.length c_r__owners), (Value.slice a_r__costs r_.costs.length c_r__costs)]) (i := 2) ty23 hsn (ht 105 rfl) rfl rfl ?_)
         exact Goes.same hi rfl
        refine Dw_eq (Value.int .i64 (members_1.getD v_1.toNat default)) (fun ρ158 w159 g hle hi ht => ?_) ?_
        ·
         obtain ⟨-, hst, -⟩ := hle
         refine StepOp_plain (op_move (v := (Value.int .i64 (members_1.getD v_1.toNat default))) (ht 16 rfl) ?_)
         exact Goes.same hi rfl
        replace hm := ck_some hm; obtain ⟨hc164, hm⟩ := hm
        refine Dw_op (VP O [(some b25, o_g33), (some b104, o15), (some b1, Obj.cells [(Value.int .i64 r_.slots), (Value.slice a_r__owners r_.owners.length c_r__owners), (Value.slice a_r__costs r_.costs.length c_r__costs)].toArray 25)] (rSl (rInt .i64)) (r_.costs.getD (members_1.getD v_1.toNat default).toNat default)) (VP.stab _ _) (fun ρ161 w162 g hle hi ht => ?_) ?_
        ·
         obtain ⟨-, hst, -⟩ := hle
         replace f_r__costs := f_r__costs.step hst
         refine StepOp_plain (op_indexAddr (q := (rSl (rInt .i64))) ty23 ty22 (ht 106 rfl) (ht 107 rfl) f_r__costs rfl hc164.1 hc164.2 ?_)
         intro p165 f166
         exact Goes.same hi ⟨_, rfl, f166⟩
        refine Dw_op (VD O [(some b25, o_g33), (some b104, o15), (some b1, Obj.cells [(Value.int .i64 r_.slots), (Value.slice a_r__owners r_.owners.length c_r__owners), (Value.slice a_r__costs r_.costs.length c_r__costs)].toArray 25)] (vC (rSl (rInt .i64))) (r_.costs.getD (members_1.getD v_1.toNat default).toNat default)) (VD.stab _ _) (fun ρ167 w168 g hle hi ht => ?_) ?_
        ·
         obtain ⟨-, hst, -⟩ := hle
         obtain ⟨p170, q171, f172⟩ := ht 108 rfl
         refine StepOp_plain (op_loadP ty22 q171 f172 rfl ?_)
         intro v173 h174
         obtain ⟨a_y175, c_y175, rfl, f_y175⟩ := un_sl h174
         exact Goes.same hi (show Vr.vd (vC (rSl (rInt .i64))) _ _ _ _ from (mkC (mk_sl f_y175)))
        refine Dw_eq (Value.int .i64 (slots.getD v_1.toNat default)) (fun ρ176 w177 g hle hi ht => ?_) ?_
        ·
         obtain ⟨-, hst, -⟩ := hle
         refine StepOp_plain (op_move (v := (Value.int .i64 (slots.getD v_1.toNat default))) (ht 12 rfl) ?_)
         exact Goes.same hi rfl
        replace hm := ck_some hm; obtain ⟨hc185, hm⟩ := hm
        refine Dw_op (VP O [(some b25, o_g33), (some b104, o15), (some b1, Obj.cells [(Value.int .i64 r_.slots), (Value.slice a_r__owners r_.owners.length c_r__owners), (Value.slice a_r__costs r_.costs.length c_r__costs)].toArray 25)] (rInt .i64) ((r_.costs.getD (members_1.getD v_1.toNat default).toNat default).getD (slots.getD v_1.toNat default).toNat default)) (VP.stab _ _) (fun ρ179 w180 g hle hi ht => ?_) ?_
        ·
         obtain ⟨-, hst, -⟩ := hle
         have h182 : Vr.vd (vC (rSl (rInt .i64))) _ _ _ _ := ht 109 rfl
         obtain ⟨a_y184, c_y184, q183, f_y184⟩ := un_sl h182
         refine StepOp_plain (op_indexAddr (q := (rInt .i64)) ty22 ty3 q183 (ht 110 rfl) f_y184 rfl hc185.1 hc185.2 ?_)
         intro p186 f187
         exact Goes.same hi ⟨_, rfl, f187⟩
        refine Dw_op (VD O [(some b25, o_g33), (some b104, o15), (some b1, Obj.cells [(Value.int .i64 r_.slots), (Value.slice a_r__owners r_.owners.length c_r__owners), (Value.slice a_r__costs r_.costs.length c_r__costs)].toArray 25)] (vI .i64) ((r_.costs.getD (members_1.getD v_1.toNat default).toNat default).getD (slots.getD v_1.toNat default).toNat default)) (VD.stab _ _) (fun ρ188 w189 g hle hi ht => ?_) ?_
        ·
         obtain ⟨-, hst, -⟩ := hle
         obtain ⟨p191, q192, f193⟩ := ht 111 rfl
         refine StepOp_plain (op_loadP ty3 q192 f193 rfl ?_)
         intro v194 h195
         obtain ⟨rfl, r_y196⟩ := un_int h195
         exact Goes.same hi (show Vr.vd (vI .i64) _ _ _ _ from ⟨rfl, r_y196⟩)
        refine Dw_nil fun w201 g202 hl203 hi204 => ?_
        obtain ⟨-, hst205, -⟩ := hl203
        obtain ⟨hs207, p206⟩ := Step.nx hi204
        rintro v208 h209
        replace h209 : Vr.vd (vI .i64) _ _ _ _ := h209
        obtain ⟨rfl, r_y210⟩ := h209
        rintro _ ⟨p211, rfl, f212⟩
        rintro _ rfl
        rintro v213 h214
        replace h214 : Vr.vd (vC (rSl (rInt .i64))) _ _ _ _ := h214
        obtain ⟨a_y215, c_y215, rfl, f_y215⟩ := un_sl h214
        rintro _ ⟨p216, rfl, f217⟩
        rintro _ rfl
        rintro _ rfl
        rintro _ rfl
        rintro _ rfl
        rintro v218 h219
        replace h219 : Vr.vd (vI .i64) _ _ _ _ := h219
        obtain ⟨rfl, r_y220⟩ := h219
        rintro _ ⟨p221, rfl, f222⟩
        rintro _ rfl
        rintro _ rfl
        rintro _ rfl
        rintro _ rfl
        have p223 : Step (ks [(some b25, o_g33), (some b104, o15), (some b1, Obj.cells [(Value.int .i64 r_.slots), (Value.slice a_r__owners r_.owners.length c_r__owners), (Value.slice a_r__costs r_.costs.length c_r__costs)].toArray 25)] O) w113 (ks [(some b25, o_g33), (some b104, o15), (some b1, Obj.cells [(Value.int .i64 r_.slots), (Value.slice a_r__owners r_.owners.length c_r__owners), (Value.slice a_r__costs r_.costs.length c_r__costs)].toArray 25)] O) w201 := hst205.trans p206
        replace f212 := f212.step p206; replace f_y215 := f_y215.step p206; replace f217 := f217.step p206; replace f222 := f222.step p206; replace f_r__owners := f_r__owners.step p223; replace f_r__costs := f_r__costs.step p223; replace f_group := f_group.step p223; replace f_slots := f_slots.step p223; replace f_than := f_than.step p223; replace f17 := f17.step p223; replace ch44 := ch44.trans p223; replace ch65 := ch65.trans p223; clear p223 hs114
        refine Rg_op rfl (op_addw rfl rfl ?_)
        refine Rg_op_ (op_mapUpdate (q := .i64) (m := (mvI .i64)) (v := (IntKind.wrap .i64 (((mget map_1 (r_.owners.getD (members_1.getD v_1.toNat default).toNat default)).getD 0) + ((r_.costs.getD (members_1.getD v_1.toNat default).toNat default).getD (slots.getD v_1.toNat default).toNat default)))) (i := 0) Try.underlying55 Try.underlying3 hs207 rfl M_g33 rfl rfl rfl rfl r_y220 (inK_wrap .i64 _) ?_)
        intro o224 w225 p226 hs227 M228
        replace f_r__owners := f_r__owners.step p226; replace f_r__costs := f_r__costs.step p226; replace f_group := f_group.step p226; replace f_slots := f_slots.step p226; replace f_than := f_than.step p226; replace f17 := f17.step p226; replace f212 := f212.step p226; replace f_y215 := f_y215.step p226; replace f217 := f217.step p226; replace f222 := f222.step p226; replace ch44 := ch44.trans p226; replace ch65 := ch65.trans p226; clear p226 hs207
        refine Rg_nil ?_
        clear f212 f_y215 f217 f222
        refine Wp_reset2 [8, 11, 12, 13, 14, 15, 16, 30, 31, 32, 33, 34, 35, 36, 37, 38, 39, 40, 41, 42, 43, 44, 45, 46, 47, 48, 49, 50, 51, 52, 53, 54, 55, 56, 57, 58, 59, 60, 61, 62, 63, 64, 65, 66, 67, 68, 69, 70, 71, 72, 73, 74, 75, 76, 77, 78, 79, 80, 81, 82, 83, 84, 85, 86, 87, 88, 89, 90, 91, 92, 93, 94, 95, 96, 97, 98, 99, 100, 101, 102, 103, 104, 105, 106, 107, 108, 109, 110, 111, 112, 113, 114] [] (updL ⟨ξ34, []⟩ [(1, (Value.slice a_group group.length c_group)), (2, (Value.slice a_slots slots.length c_slots)), (3, (Value.slice a_than than.length c_than)), (4, (Value.pointer (some ⟨b1, 0, none⟩))), (9, (Value.slice (some ⟨b104, 0, none⟩) members_1.length c13)), (10, (Value.map (some b25))), (28, (Value.slice a_slots slots.length c_slots)), (29, (Value.int .i64 (slots.length : Int))), (30, (Value.int .i64 0))]) [(30, (Value.int .i64 v_1))] (by repeat (first | with_reducible exact Out.refl _ _ | refine Out.upd ?_ rfl | refine Out.updL ?_ rfl | refine Out.mix' ?_ rfl | exact Out.refl _ _)) rfl ⟨rfl, trivial⟩ fun ξ229 => ?_
        refine Wp_region ?_
        refine Rg_op rfl (op_addw rfl rfl ?_)
        refine Rg_op rfl (op_move (v := (Value.int .i64 (IntKind.wrap .i64 (v_1 + 1)))) rfl ?_)
        refine Rg_nil ?_
        exact hK37 _ _ ⟨(IntKind.wrap .i64 (v_1 + 1)), (mput map_1 (r_.owners.getD (members_1.getD v_1.toNat default).toNat default) (IntKind.wrap .i64 (((mget map_1 (r_.owners.getD (members_1.getD v_1.toNat default).toNat default)).getD 0) + ((r_.costs.getD (members_1.getD v_1.toNat default).toNat default).getD (slots.getD v_1.toNat default).toNat default)))), o224, _, rfl, ⟨(by repeat (first | with_reducible exact Out.refl _ _ | refine Out.upd ?_ rfl | refine Out.updL ?_ rfl | refine Out.mix' ?_ rfl | exact Out.refl _ _)), rfl, rfl, trivial⟩, ch44, hs227, (inK_wrap .i64 _), M228, jnE2 hsf36 hm⟩
      ·
       intro K112 hK112
       have ch230 := Step.refl (ks [(some b25, o_g33), (some b104, o15), (some b1, Obj.cells [(Value.int .i64 r_.slots), (Value.slice a_r__owners r_.owners.length c_r__owners), (Value.slice a_r__costs r_.costs.length c_r__costs)].toArray 25)] O) w60
       refine Wp_region ?_
       refine Rg_op rfl (op_move (v := (Value.bool own_1)) rfl ?_)
       refine Rg_op rfl (op_not rfl ?_)
       refine Rg_op rfl (op_move (v := (Value.bool (!own_1))) rfl ?_)
       refine Rg_case (fun hg231 => ?_) (fun hg231 => ?_)
       ·
        replace hm := bif_t hm hg231
        iterate 2 refine Rg_opx rfl (asB_ne rfl rfl) rfl ?_
        refine Rg_op rfl (op_pick_t (v := (Value.bool true)) rfl rfl ?_)
        refine Rg_op rfl (op_move (v := (Value.bool true)) rfl ?_)
        iterate 5 refine Rg_opx rfl (asB_ne rfl rfl) rfl ?_
        refine Rg_op rfl (op_pick_t (v := (Value.bool true)) rfl rfl ?_)
        refine Rg_op rfl (op_move (v := (Value.bool true)) rfl ?_)
        iterate 8 refine Rg_opx rfl (asB_ne rfl rfl) rfl ?_
        refine Rg_op rfl (op_pick_t (v := (Value.bool true)) rfl rfl ?_)
        refine Rg_op rfl (op_move (v := (Value.bool true)) rfl ?_)
        iterate 9 refine Rg_opx rfl (asB_ne rfl rfl) rfl ?_
        refine Rg_op rfl (op_pick_t (v := (Value.bool true)) rfl rfl ?_)
        refine Rg_nil ?_
        exact hK112 _ _ ⟨true, _, rfl, ⟨(by repeat (first | with_reducible exact Out.refl _ _ | refine Out.upd ?_ rfl | refine Out.updL ?_ rfl | refine Out.mix' ?_ rfl | exact Out.refl _ _)), rfl, rfl, trivial⟩, ch230, hs61, hm⟩
       ·
        replace hm := bif_f hm hg231
        refine Rg_opg rfl rfl rfl (op_move (v := (Value.int .i64 (slots.getD v_1.toNat default))) rfl ?_)
        refine Rg_opg rfl rfl rfl (op_lss rfl rfl ?_)
        refine Rg_op rfl (op_pick_f (v := (Value.bool (decide ((slots.getD v_1.toNat default) < 0)))) rfl rfl ?_)
        refine Rg_op rfl (op_move (v := (Value.bool (decide ((slots.getD v_1.toNat default) < 0)))) rfl ?_)
        refine Rg_case (fun hg232 => ?_) (fun hg232 => ?_)
        ·
         replace hm := bif_t hm hg232
         iterate 5 refine Rg_opx rfl (asB_ne rfl rfl) rfl ?_
         refine Rg_op rfl (op_pick_t (v := (Value.bool true)) rfl rfl ?_)
         refine Rg_op rfl (op_move (v := (Value.bool true)) rfl ?_)
         iterate 8 refine Rg_opx rfl (asB_ne rfl rfl) rfl ?_
         refine Rg_op rfl (op_pick_t (v := (Value.bool true)) rfl rfl ?_)
         refine Rg_op rfl (op_move (v := (Value.bool true)) rfl ?_)
         iterate 9 refine Rg_opx rfl (asB_ne rfl rfl) rfl ?_
         refine Rg_op rfl (op_pick_t (v := (Value.bool true)) rfl rfl ?_)
         refine Rg_nil ?_
         exact hK112 _ _ ⟨true, _, rfl, ⟨(by repeat (first | with_reducible exact Out.refl _ _ | refine Out.upd ?_ rfl | refine Out.updL ?_ rfl | refine Out.mix' ?_ rfl | exact Out.refl _ _)), rfl, rfl, trivial⟩, ch230, hs61, hm⟩
        ·
         replace hm := bif_f hm hg232
         refine Rg_opg rfl rfl rfl (op_move (v := (Value.int .i64 (members_1.getD v_1.toNat default))) rfl ?_)
         refine Rg_opg rfl rfl rfl (op_fieldAddr ty25 rfl ty23 (by decide) rfl (rfl : _ = (⟨_, 2, none⟩ : Addr)) ?_)
         refine Rg_opg rfl rfl rfl (op_load (cs := [(Value.int .i64 r_.slots), (Value.slice a_r__owners r_.owners.length c_r__owners), (Value.slice a_r__costs r_.costs.length c_r__costs)]) (i := 2) ty23 hs61 rfl rfl rfl ?_)
         refine Rg_opg rfl rfl rfl (op_len Try.underlying23 rfl ?_)
         have rl233 := inK_len f_r__costs
         refine Rg_opg rfl rfl rfl (op_geq rfl rfl ?_)
         refine Rg_op rfl (op_pick_f (v := (Value.bool (decide ((r_.costs.length : Int) ≤ (members_1.getD v_1.toNat default))))) rfl rfl ?_)
         refine Rg_op rfl (op_move (v := (Value.bool (decide ((r_.costs.length : Int) ≤ (members_1.getD v_1.toNat default))))) rfl ?_)
         refine Rg_case (fun hg234 => ?_) (fun hg234 => ?_)
         ·
          replace hm := bif_t hm hg234
          iterate 8 refine Rg_opx rfl (asB_ne rfl rfl) rfl ?_
          refine Rg_op rfl (op_pick_t (v := (Value.bool true)) rfl rfl ?_)
          refine Rg_op rfl (op_move (v := (Value.bool true)) rfl ?_)
          iterate 9 refine Rg_opx rfl (asB_ne rfl rfl) rfl ?_
          refine Rg_op rfl (op_pick_t (v := (Value.bool true)) rfl rfl ?_)
          refine Rg_nil ?_
          exact hK112 _ _ ⟨true, _, rfl, ⟨(by repeat (first | with_reducible exact Out.refl _ _ | refine Out.upd ?_ rfl | refine Out.updL ?_ rfl | refine Out.mix' ?_ rfl | exact Out.refl _ _)), rfl, rfl, trivial⟩, ch230, hs61, hm⟩
         ·
          replace hm := bif_f hm hg234
          refine Rg_opg rfl rfl rfl (op_move (v := (Value.int .i64 (slots.getD v_1.toNat default))) rfl ?_)
          refine Rg_opg rfl rfl rfl (op_fieldAddr ty25 rfl ty23 (by decide) rfl (rfl : _ = (⟨_, 2, none⟩ : Addr)) ?_)
          refine Rg_opg rfl rfl rfl (op_load (cs := [(Value.int .i64 r_.slots), (Value.slice a_r__owners r_.owners.length c_r__owners), (Value.slice a_r__costs r_.costs.length c_r__costs)]) (i := 2) ty23 hs61 rfl rfl rfl ?_)
          refine Rg_opg rfl rfl rfl (op_move (v := (Value.int .i64 (members_1.getD v_1.toNat default))) rfl ?_)
          replace hm := ck_some hm; obtain ⟨hc235, hm⟩ := hm
          refine Rg_opg rfl rfl rfl (op_indexAddr (q := (rSl (rInt .i64))) ty23 ty22 rfl rfl f_r__costs rfl hc235.1 hc235.2 ?_)
          intro p236 f237
          refine Rg_opg rfl rfl rfl (op_loadP ty22 rfl f237 rfl ?_)
          intro v238 h239
          obtain ⟨a_y240, c_y240, rfl, f_y240⟩ := un_sl h239
          refine Rg_opg rfl rfl rfl (op_len Try.underlying22 rfl ?_)
          have rl241 := inK_len f_y240
          refine Rg_opg rfl rfl rfl (op_geq rfl rfl ?_)
          refine Rg_op rfl (op_pick_f (v := (Value.bool (decide (((r_.costs.getD (members_1.getD v_1.toNat default).toNat default).length : Int) ≤ (slots.getD v_1.toNat default))))) rfl rfl ?_)
          refine Rg_op rfl (op_move (v := (Value.bool (decide (((r_.costs.getD (members_1.getD v_1.toNat default).toNat default).length : Int) ≤ (slots.getD v_1.toNat default))))) rfl ?_)
          refine Rg_case (fun hg242 => ?_) (fun hg242 => ?_)
          ·
           replace hm := bif_t hm hg242
           iterate 9 refine Rg_opx rfl (asB_ne rfl rfl) rfl ?_
           refine Rg_op rfl (op_pick_t (v := (Value.bool true)) rfl rfl ?_)
           refine Rg_nil ?_
           exact hK112 _ _ ⟨true, _, rfl, ⟨(by repeat (first | with_reducible exact Out.refl _ _ | refine Out.upd ?_ rfl | refine Out.updL ?_ rfl | refine Out.mix' ?_ rfl | exact Out.refl _ _)), rfl, rfl, trivial⟩, ch230, hs61, hm⟩
          ·
           replace hm := bif_f hm hg242
           refine Rg_opg rfl rfl rfl (op_fieldAddr ty25 rfl ty23 (by decide) rfl (rfl : _ = (⟨_, 2, none⟩ : Addr)) ?_)
           refine Rg_opg rfl rfl rfl (op_load (cs := [(Value.int .i64 r_.slots), (Value.slice a_r__owners r_.owners.length c_r__owners), (Value.slice a_r__costs r_.costs.length c_r__costs)]) (i := 2) ty23 hs61 rfl rfl rfl ?_)
           refine Rg_opg rfl rfl rfl (op_move (v := (Value.int .i64 (members_1.getD v_1.toNat default))) rfl ?_)
           replace hm := ck_some hm; obtain ⟨hc243, hm⟩ := hm
           refine Rg_opg rfl rfl rfl (op_indexAddr (q := (rSl (rInt .i64))) ty23 ty22 rfl rfl f_r__costs rfl hc243.1 hc243.2 ?_)
           intro p244 f245
           refine Rg_opg rfl rfl rfl (op_loadP ty22 rfl f245 rfl ?_)
           intro v246 h247
           obtain ⟨a_y248, c_y248, rfl, f_y248⟩ := un_sl h247
           refine Rg_opg rfl rfl rfl (op_move (v := (Value.int .i64 (slots.getD v_1.toNat default))) rfl ?_)
           replace hm := ck_some hm; obtain ⟨hc249, hm⟩ := hm
           refine Rg_opg rfl rfl rfl (op_indexAddr (q := (rInt .i64)) ty22 ty3 rfl rfl f_y248 rfl hc249.1 hc249.2 ?_)
           intro p250 f251
           refine Rg_opg rfl rfl rfl (op_loadP ty3 rfl f251 rfl ?_)
           intro v252 h253
           obtain ⟨rfl, r_y254⟩ := un_int h253
           refine Rg_opg rfl rfl rfl (op_lss rfl rfl ?_)
           refine Rg_op rfl (op_pick_f (v := (Value.bool (decide (((r_.costs.getD (members_1.getD v_1.toNat default).toNat default).getD (slots.getD v_1.toNat default).toNat default) < 0)))) rfl rfl ?_)
           refine Rg_nil ?_
           exact hK112 _ _ ⟨(decide (((r_.costs.getD (members_1.getD v_1.toNat default).toNat default).getD (slots.getD v_1.toNat default).toNat default) < 0)), _, rfl, ⟨(by repeat (first | with_reducible exact Out.refl _ _ | refine Out.upd ?_ rfl | refine Out.updL ?_ rfl | refine Out.mix' ?_ rfl | exact Out.refl _ _)), rfl, rfl, trivial⟩, ch230, hs61, hm⟩
   ·
    replace hm := bif_f hm hc45
    refine Wp_exit ?_
    refine Wp_seq ?_
    refine Wp_seq ?_
    obtain ⟨hs255, p256⟩ := hs40.sub (bs' := [(some b25, o_g33)]) (.cons_cons _ (.cons _ (.cons _ List.Sublist.slnil)))
    clear f_r__owners f_r__costs f_slots f17
    replace f_group := f_group.step p256; replace f_than := f_than.step p256; replace ch44 := ch44.trans p256; clear p256 hs40
    refine Wp_region ?_
    refine Rg_op rfl (op_move (v := (Value.slice a_group group.length c_group)) rfl ?_)
    refine Rg_op rfl (op_len Try.underlying22 rfl ?_)
    have rl257 := inK_len f_group
    refine Rg_op rfl (op_move (v := (Value.int .i64 0)) rfl ?_)
    refine Rg_nil ?_
    refine Wp_block ?_
    refine Wp_reset [] [(3, (Value.slice a_than than.length c_than)), (10, (Value.map (some b25))), (115, (Value.slice a_group group.length c_group)), (116, (Value.int .i64 (group.length : Int))), (117, (Value.int .i64 0))] rfl ⟨rfl, rfl, rfl, rfl, rfl, trivial⟩ fun ξ259 => ?_
    refine Wp_loopM [8, 18, 117, 118, 119, 120, 121, 122, 123, 124, 125, 126, 127, 128, 129, 130, 131, 132, 133, 134, 135, 136, 137, 138, 139] (fun m fr w' => ∃ (v_5 : Int) (Ebs : Ents), Ebs = [(some b25, o_g33)] ∧ fr [] [(117, (Value.int .i64 v_5))] ∧ Step (ks [(some b25, o_g33)] O) w39 (ks Ebs O) w' ∧ St ⟨w, [], []⟩ O w' Ebs ∧ InK .i64 v_5 ∧ loop1 (m20_overflightlaw37_better_B2 group than map_1) m v_5 = some x) (((group.length : Int) - 0).toNat + 1) ⟨0, _, rfl, ⟨Out.refl _ _, rfl, rfl, trivial⟩, Step.refl _ _, hs255, (show InK .i64 0 from by decide), hm⟩ ?_ ?_
    · rintro _ _ ⟨_, _, _, _, _, _, _, hm⟩; exact loop1_z hm
    ·
     rintro m263 K262 hK262 ρ268 w264 ⟨v_5, Ebs, hEbs, hfr267, hst266, hs265, r_y258, hm⟩
     obtain ⟨sf260, hsf261, hm⟩ := loop1_s hm; unfold m20_overflightlaw37_better_B2 at hm
     subst hEbs; rw [hfr267.eq]; clear hfr267
     replace f_group := f_group.step hst266; replace f_than := f_than.step hst266; replace ch44 := ch44.trans hst266
     have ch269 := hst266
     refine Wp_seq ?_
     refine Wp_region ?_
     refine Rg_op rfl (op_lss rfl rfl ?_)
     refine Rg_nil ?_
     refine Wp_seq ?_
     refine Wp_cond rfl (fun hc270 => ?_) (fun hc270 => ?_)
     ·
      replace hm := bif_t hm hc270
      refine Wp_skip ?_
      refine Wp_seq ?_
      refine Wp_block ?_
      refine Wp_seq ?_
      refine Wp_region ?_
      replace hm := ck_some hm; obtain ⟨hc271, hm⟩ := hm
      refine Rg_op rfl (op_indexAddr (q := (rInt .i64)) ty22 ty3 rfl rfl f_group rfl hc271.1 hc271.2 ?_)
      intro p272 f273
      refine Rg_op rfl (op_loadP ty3 rfl f273 rfl ?_)
      intro v274 h275
      obtain ⟨rfl, r_y276⟩ := un_int h275
      refine Rg_op rfl (op_assign (v := (Value.int .i64 (group.getD v_5.toNat default))) rfl ?_)
      refine Rg_nil ?_
      refine Wp_reset2 [8, 18, 117, 118, 119, 120, 121, 122, 123, 124, 125, 126, 127, 128, 129, 130, 131, 132, 133, 134, 135, 136, 137, 138, 139] [] (updL ⟨ξ259, []⟩ [(3, (Value.slice a_than than.length c_than)), (10, (Value.map (some b25))), (115, (Value.slice a_group group.length c_group)), (116, (Value.int .i64 (group.length : Int))), (117, (Value.int .i64 0))]) [(18, (Value.int .i64 (group.getD v_5.toNat default))), (117, (Value.int .i64 v_5))] (by repeat (first | with_reducible exact Out.refl _ _ | refine Out.upd ?_ rfl | refine Out.updL ?_ rfl | refine Out.mix' ?_ rfl | exact Out.refl _ _)) rfl ⟨rfl, rfl, trivial⟩ fun ξ277 => ?_
      replace hm := jn_elim hm; obtain ⟨k279, hk280, hm⟩ := hm
      refine Wp_seqJ [121, 122, 123, 124, 125, 126, 127, 128, 129, 130, 131, 132, 133, 134, 135, 136, 137, 138] (fun fr w' => ∃ (v_6 : Bool) (Ebs : Ents), Ebs = [(some b25, o_g33)] ∧ fr [] [(138, (Value.bool v_6))] ∧ Step (ks [(some b25, o_g33)] O) w264 (ks Ebs O) w' ∧ St ⟨w, [], []⟩ O w' Ebs ∧ k279 v_6 = some x) ?_ ?_
      ·
       rintro ρ286 w282 ⟨v_6, Ebs, hEbs, hfr285, hst284, hs283, hm⟩
       replace hm := jnE1 hk280 hm
       subst hEbs; rw [hfr285.eq]; clear hfr285
       replace f_group := f_group.step hst284; replace f_than := f_than.step hst284; replace f273 := f273.step hst284; replace ch44 := ch44.trans hst284; replace ch269 := ch269.trans hst284; clear hst284 hs265
       refine Wp_cond rfl (fun hc287 => ?_) (fun hc287 => ?_)
       ·
        replace hm := bif_t hm hc287
        refine Wp_seq ?_
        clear f_group f_than f273
        refine Wp_region ?_
        refine Rg_op rfl (op_assign (v := (Value.bool false)) rfl ?_)
        refine Rg_nil ?_
        refine Wp_ret ?_
        have hz := step_all hs283
        refine ⟨_, (show Closes [] _ _ from rfl), [(Value.bool false)], ⟨rfl, trivial⟩, hs283.ext, ?_⟩
        exact Vr.eq (a := vB) (x := false) rfl (Option.some.inj hm)
       ·
        replace hm := bif_f hm hc287
        refine Wp_skip ?_
        clear f273
        refine Wp_region ?_
        refine Rg_op rfl (op_addw rfl rfl ?_)
        refine Rg_op rfl (op_move (v := (Value.int .i64 (IntKind.wrap .i64 (v_5 + 1)))) rfl ?_)
        refine Rg_nil ?_
        exact hK262 _ _ ⟨(IntKind.wrap .i64 (v_5 + 1)), _, rfl, ⟨(by repeat (first | with_reducible exact Out.refl _ _ | refine Out.upd ?_ rfl | refine Out.updL ?_ rfl | refine Out.mix' ?_ rfl | exact Out.refl _ _)), rfl, rfl, trivial⟩, ch269, hs283, (inK_wrap .i64 _), jnE1 hsf261 hm⟩
      ·
       intro K281 hK281
       have ch288 := Step.refl (ks [(some b25, o_g33)] O) w264
       clear f273
       refine Wp_drawR (g0 := []) (m := 16) (fl := []) (TS_inv hs265) rfl (.inl rfl) rfl (by decide +kernel) ?_  -- 24
       refine Dw_eq (Value.int .i64 (group.getD v_5.toNat default)) (fun ρ289 w290 g hle hi ht => ?_) ?_
       ·
        obtain ⟨-, hst, -⟩ := hle
        refine StepOp_plain (op_move (v := (Value.int .i64 (group.getD v_5.toNat default))) (ht 18 rfl) ?_)
        exact Goes.same hi rfl
       refine Dw_eq (Value.bool (decide ((group.getD v_5.toNat default) < 0))) (fun ρ292 w293 g hle hi ht => ?_) ?_
       ·
        obtain ⟨-, hst, -⟩ := hle
        refine StepOp_plain (op_lss (ht 121 rfl) rfl ?_)
        exact Goes.same hi rfl
       refine Dw_opB (decide ((group.getD v_5.toNat default) < 0)) (fun ρ295 w296 g hle hi ht => ?_) (fun hg298 => ?_) (fun hg298 => ?_)
       ·
        obtain ⟨-, hst, -⟩ := hle
        refine StepOp_plain (op_move (v := (Value.bool (decide ((group.getD v_5.toNat default) < 0)))) (ht 122 rfl) ?_)
        exact Goes.same hi rfl
       ·
        replace hm := bif_t hm hg298
        refine Dw_skip (fun _ _ _ ht => wanted_x rfl (ht 123 rfl) rfl) ?_
        refine Dw_skip (fun _ _ _ ht => wanted_x rfl (ht 123 rfl) rfl) ?_
        refine Dw_skip (fun _ _ _ ht => wanted_x rfl (ht 123 rfl) rfl) ?_
        refine Dw_skip (fun _ _ _ ht => wanted_x rfl (ht 123 rfl) rfl) ?_
        refine Dw_eq (Value.bool true) (fun ρ299 w300 g hle hi ht => ?_) ?_
        ·
         obtain ⟨-, hst, -⟩ := hle
         refine StepOp_plain (op_pick_t (v := (Value.bool true)) (ht 123 rfl) rfl ?_)
         exact Goes.same hi rfl
        refine Dw_eq (Value.bool true) (fun ρ302 w303 g hle hi ht => ?_) ?_
        ·
         obtain ⟨-, hst, -⟩ := hle
         refine StepOp_plain (op_move (v := (Value.bool true)) (ht 128 rfl) ?_)
         exact Goes.same hi rfl
        refine Dw_skip (fun _ _ _ ht => wanted_x rfl (ht 129 rfl) rfl) ?_
        refine Dw_skip (fun _ _ _ ht => wanted_x rfl (ht 129 rfl) rfl) ?_
        refine Dw_skip (fun _ _ _ ht => wanted_x rfl (ht 129 rfl) rfl) ?_
        refine Dw_skip (fun _ _ _ ht => wanted_x rfl (ht 129 rfl) rfl) ?_
        refine Dw_skip (fun _ _ _ ht => wanted_x rfl (ht 129 rfl) rfl) ?_
        refine Dw_skip (fun _ _ _ ht => wanted_x rfl (ht 129 rfl) rfl) ?_
        refine Dw_skip (fun _ _ _ ht => wanted_x rfl (ht 129 rfl) rfl) ?_
        refine Dw_nil fun w309 g310 hl311 hi312 => ?_
        obtain ⟨-, hst313, -⟩ := hl311
        obtain ⟨hs315, p314⟩ := Step.nx hi312
        rintro _ rfl
        rintro _ rfl
        rintro _ rfl
        rintro _ rfl
        rintro _ rfl
        rintro _ rfl
        rintro _ rfl
        rintro _ rfl
        rintro _ rfl
        rintro _ rfl
        rintro _ rfl
        rintro _ rfl
        rintro _ rfl
        rintro _ rfl
        rintro _ rfl
        rintro _ rfl
        have p316 : Step (ks [(some b25, o_g33)] O) w264 (ks [(some b25, o_g33)] O) w309 := hst313.trans p314
        replace f_group := f_group.step p316; replace f_than := f_than.step p316; replace ch44 := ch44.trans p316; replace ch269 := ch269.trans p316; replace ch288 := ch288.trans p316; clear p316 hs265
        refine Rg_opx rfl (asB_ne rfl rfl) rfl ?_
        refine Rg_op rfl (op_pick_t (v := (Value.bool true)) rfl rfl ?_)
        refine Rg_nil ?_
        exact hK281 _ _ ⟨true, _, rfl, ⟨(by repeat (first | with_reducible exact Out.refl _ _ | refine Out.upd ?_ rfl | refine Out.updL ?_ rfl | refine Out.mix' ?_ rfl | exact Out.refl _ _)), rfl, rfl, trivial⟩, ch288, hs315, hm⟩
       ·
        replace hm := bif_f hm hg298
        refine Dw_eq (Value.int .i64 (group.getD v_5.toNat default)) (fun ρ317 w318 g hle hi ht => ?_) ?_
        ·
         obtain ⟨-, hst, -⟩ := hle
         refine StepOp_g rfl (ht 123 rfl) (op_move (v := (Value.int .i64 (group.getD v_5.toNat default))) (ht 18 rfl) ?_)
         exact Goes.same hi rfl
        refine Dw_eq (Value.slice a_than than.length c_than) (fun ρ320 w321 g hle hi ht => ?_) ?_
        ·
         obtain ⟨-, hst, -⟩ := hle
         refine StepOp_g rfl (ht 123 rfl) (op_move (v := (Value.slice a_than than.length c_than)) (ht 3 rfl) ?_)
         exact Goes.same hi rfl
        refine Dw_eq (Value.int .i64 (than.length : Int)) (fun ρ323 w324 g hle hi ht => ?_) ?_
        ·
         obtain ⟨-, hst, -⟩ := hle
         refine StepOp_g rfl (ht 123 rfl) (op_len Try.underlying22 (ht 125 rfl) ?_)
         exact Goes.same hi rfl
        refine Dw_eq (Value.bool (decide ((than.length : Int) ≤ (group.getD v_5.toNat default)))) (fun ρ326 w327 g hle hi ht => ?_) ?_
        ·
         obtain ⟨-, hst, -⟩ := hle
         refine StepOp_g rfl (ht 123 rfl) (op_geq (ht 124 rfl) (ht 126 rfl) ?_)
         exact Goes.same hi rfl
        refine Dw_eq (Value.bool (decide ((than.length : Int) ≤ (group.getD v_5.toNat default)))) (fun ρ329 w330 g hle hi ht => ?_) ?_
        ·
         obtain ⟨-, hst, -⟩ := hle
         refine StepOp_plain (op_pick_f (v := (Value.bool (decide ((than.length : Int) ≤ (group.getD v_5.toNat default))))) (ht 123 rfl) (ht 127 rfl) ?_)
         exact Goes.same hi rfl
        refine Dw_opB (decide ((than.length : Int) ≤ (group.getD v_5.toNat default))) (fun ρ332 w333 g hle hi ht => ?_) (fun hg335 => ?_) (fun hg335 => ?_)
        ·
         obtain ⟨-, hst, -⟩ := hle
         refine StepOp_plain (op_move (v := (Value.bool (decide ((than.length : Int) ≤ (group.getD v_5.toNat default))))) (ht 128 rfl) ?_)
         exact Goes.same hi rfl
        ·
         replace hm := bif_t hm hg335
         refine Dw_skip (fun _ _ _ ht => wanted_x rfl (ht 129 rfl) rfl) ?_
         refine Dw_skip (fun _ _ _ ht => wanted_x rfl (ht 129 rfl) rfl) ?_
         refine Dw_skip (fun _ _ _ ht => wanted_x rfl (ht 129 rfl) rfl) ?_
         refine Dw_skip (fun _ _ _ ht => wanted_x rfl (ht 129 rfl) rfl) ?_
         refine Dw_skip (fun _ _ _ ht => wanted_x rfl (ht 129 rfl) rfl) ?_
         refine Dw_skip (fun _ _ _ ht => wanted_x rfl (ht 129 rfl) rfl) ?_
         refine Dw_skip (fun _ _ _ ht => wanted_x rfl (ht 129 rfl) rfl) ?_
         refine Dw_nil fun w340 g341 hl342 hi343 => ?_
         obtain ⟨-, hst344, -⟩ := hl342
         obtain ⟨hs346, p345⟩ := Step.nx hi343
         rintro _ rfl
         rintro _ rfl
         rintro _ rfl
         rintro _ rfl
         rintro _ rfl
         rintro _ rfl
         rintro _ rfl
         rintro _ rfl
         rintro _ rfl
         rintro _ rfl
         rintro _ rfl
         rintro _ rfl
         rintro _ rfl
         rintro _ rfl
         rintro _ rfl
         rintro _ rfl
         have p347 : Step (ks [(some b25, o_g33)] O) w264 (ks [(some b25, o_g33)] O) w340 := hst344.trans p345
         replace f_group := f_group.step p347; replace f_than := f_than.step p347; replace ch44 := ch44.trans p347; replace ch269 := ch269.trans p347; replace ch288 := ch288.trans p347; clear p347 hs265
         refine Rg_opx rfl (asB_ne rfl rfl) rfl ?_
         refine Rg_op rfl (op_pick_t (v := (Value.bool true)) rfl rfl ?_)
         refine Rg_nil ?_
         exact hK281 _ _ ⟨true, _, rfl, ⟨(by repeat (first | with_reducible exact Out.refl _ _ | refine Out.upd ?_ rfl | refine Out.updL ?_ rfl | refine Out.mix' ?_ rfl | exact Out.refl _ _)), rfl, rfl, trivial⟩, ch288, hs346, hm⟩
        ·
         replace hm := bif_f hm hg335
         refine Dw_eq (Value.map (some b25)) (fun ρ348 w349 g hle hi ht => ?_) ?_
         ·
          obtain ⟨-, hst, -⟩ := hle
          refine StepOp_g rfl (ht 129 rfl) (op_move (v := (Value.map (some b25))) (ht 10 rfl) ?_)
          exact Goes.same hi rfl
         refine Dw_eq (Value.int .i64 (group.getD v_5.toNat default)) (fun ρ351 w352 g hle hi ht => ?_) ?_
         ·
          obtain ⟨-, hst, -⟩ := hle
          refine StepOp_g rfl (ht 129 rfl) (op_move (v := (Value.int .i64 (group.getD v_5.toNat default))) (ht 18 rfl) ?_)
          exact Goes.same hi rfl
         refine Dw_eq (Value.int .i64 ((mget map_1 (group.getD v_5.toNat default)).getD 0)) (fun ρ354 w355 g hle hi ht => ?_) ?_
         ·
          obtain ⟨-, hst, -⟩ := hle
          have hsn := (Step.nx hi).1
          refine StepOp_g rfl (ht 129 rfl) (op_lookup (q := .i64) (m := (mvI .i64)) (z := 0) Try.underlying55 Try.underlying3 Try.zeroValue3 (hsn.get (i := 0) rfl) M_g33 (ht 130 rfl) (ht 131 rfl) ?_)
          exact Goes.same hi rfl
         refine Dw_eq (Value.slice a_than than.length c_than) (fun ρ357 w358 g hle hi ht => ?_) ?_
         ·
          obtain ⟨-, hst, -⟩ := hle
          refine StepOp_g rfl (ht 129 rfl) (op_move (v := (Value.slice a_than than.length c_than)) (ht 3 rfl) ?_)
          exact Goes.same hi rfl
         refine Dw_eq (Value.int .i64 (group.getD v_5.toNat default)) (fun ρ360 w361 g hle hi ht => ?_) ?_
         ·
          obtain ⟨-, hst, -⟩ := hle
          refine StepOp_g rfl (ht 129 rfl) (op_move (v := (Value.int .i64 (group.getD v_5.toNat default))) (ht 18 rfl) ?_)
          exact Goes.same hi rfl
         replace hm := ck_some hm; obtain ⟨hc366, hm⟩ := hm
         refine Dw_op (VP O [(some b25, o_g33)] (rInt .i64) (than.getD (group.getD v_5.toNat default).toNat default)) (VP.stab _ _) (fun ρ363 w364 g hle hi ht => ?_) ?_
         ·
          obtain ⟨-, hst, -⟩ := hle
          replace f_than := f_than.step hst
          refine StepOp_g rfl (ht 129 rfl) (op_indexAddr (q := (rInt .i64)) ty22 ty3 (ht 133 rfl) (ht 134 rfl) f_than rfl hc366.1 hc366.2 ?_)
          intro p367 f368
          exact Goes.same hi ⟨_, rfl, f368⟩
         refine Dw_op (VD O [(some b25, o_g33)] (vI .i64) (than.getD (group.getD v_5.toNat default).toNat default)) (VD.stab _ _) (fun ρ369 w370 g hle hi ht => ?_) ?_
         ·
          obtain ⟨-, hst, -⟩ := hle
          obtain ⟨p372, q373, f374⟩ := ht 135 rfl
          refine StepOp_g rfl (ht 129 rfl) (op_loadP ty3 q373 f374 rfl ?_)
          intro v375 h376
          obtain ⟨rfl, r_y377⟩ := un_int h376
          exact Goes.same hi (show Vr.vd (vI .i64) _ _ _ _ from ⟨rfl, r_y377⟩)
         refine Dw_nil fun w382 g383 hl384 hi385 => ?_
         obtain ⟨-, hst386, -⟩ := hl384
         obtain ⟨hs388, p387⟩ := Step.nx hi385
         rintro v389 h390
         replace h390 : Vr.vd (vI .i64) _ _ _ _ := h390
         obtain ⟨rfl, r_y391⟩ := h390
         rintro _ ⟨p392, rfl, f393⟩
         rintro _ rfl
         rintro _ rfl
         rintro _ rfl
         rintro _ rfl
         rintro _ rfl
         rintro _ rfl
         rintro _ rfl
         rintro _ rfl
         rintro _ rfl
         rintro _ rfl
         rintro _ rfl
         rintro _ rfl
         rintro _ rfl
         rintro _ rfl
         have p394 : Step (ks [(some b25, o_g33)] O) w264 (ks [(some b25, o_g33)] O) w382 := hst386.trans p387
         replace f393 := f393.step p387; replace f_group := f_group.step p394; replace f_than := f_than.step p394; replace ch44 := ch44.trans p394; replace ch269 := ch269.trans p394; replace ch288 := ch288.trans p394; clear p394 hs265
         refine Rg_opg rfl rfl rfl (op_geq rfl rfl ?_)
         refine Rg_op rfl (op_pick_f (v := (Value.bool (decide ((than.getD (group.getD v_5.toNat default).toNat default) ≤ ((mget map_1 (group.getD v_5.toNat default)).getD 0))))) rfl rfl ?_)
         refine Rg_nil ?_
         exact hK281 _ _ ⟨(decide ((than.getD (group.getD v_5.toNat default).toNat default) ≤ ((mget map_1 (group.getD v_5.toNat default)).getD 0))), _, rfl, ⟨(by repeat (first | with_reducible exact Out.refl _ _ | refine Out.upd ?_ rfl | refine Out.updL ?_ rfl | refine Out.mix' ?_ rfl | exact Out.refl _ _)), rfl, rfl, trivial⟩, ch288, hs388, hm⟩
     ·
      replace hm := bif_f hm hc270
      refine Wp_exit ?_
      refine Wp_seq ?_
      obtain ⟨hs395, p396⟩ := hs265.sub (bs' := []) (.cons _ List.Sublist.slnil)
      clear f_group f_than
      replace ch44 := ch44.trans p396; replace ch269 := ch269.trans p396; clear p396 hs265
      refine Wp_region ?_
      refine Rg_op rfl (op_assign (v := (Value.bool true)) rfl ?_)
      refine Rg_nil ?_
      refine Wp_ret ?_
      have hz := step_all hs395
      refine ⟨_, (show Closes [] _ _ from rfl), [(Value.bool true)], ⟨rfl, trivial⟩, hs395.ext, ?_⟩
      exact Vr.eq (a := vB) (x := true) rfl (Option.some.inj hm)

end Go.Fx



set_option linter.unusedVariables false
set_option linter.unusedSimpArgs false
set_option maxRecDepth 100000
set_option maxHeartbeats 0
namespace Go.Fx
open Go Go.RowKit Go.Proofs
def m4_overflightlaw37_CoalitionOwn_B1 (r_ : XRound) (airline : Int) (turn : UInt8) (costs_1 : (List Int) × Int) (costs_2 : (List Int) × Int) (sf161 : Int → Option Bool) (v_6 : Int) : Option Bool :=
 bif (decide (v_6 < (costs_2.1.length : Int))) then
  ck ((0 : Int) ≤ v_6 ∧ v_6 < (costs_2.1.length : Int)) <|
  ck ((0 : Int) ≤ v_6 ∧ v_6 < (costs_1.1.length : Int)) <|
  bif (decide ((costs_1.1.getD v_6.toNat default) < (costs_2.1.getD v_6.toNat default))) then
   some false
  else
   sf161 (IntKind.wrap .i64 (v_6 + 1))
 else
  jn (fun (v_7 : Bool) =>
   bif v_7 then
    some true
   else
    (m21_overflightlaw37_members r_ [airline]).bind fun members_1 =>
    bif (decide ((members_1.length : Int) = 0)) then
     ck ((0 : Int) ≤ airline ∧ airline < (costs_2.1.length : Int)) <|
     some (decide ((costs_2.1.getD airline.toNat default) = 0))
    else
     ck (((members_1.length : Int) : Int) ≠ 0) <|
     ck ((0 : Int) ≤ ((turn.toNat : Int).tmod (members_1.length : Int)) ∧ ((turn.toNat : Int).tmod (members_1.length : Int)) ≤ (members_1.length : Int)) <|
     ck ((([] : List Int).length + ((members_1.drop ((turn.toNat : Int).tmod (members_1.length : Int)).toNat).take (members_1.length - ((turn.toNat : Int).tmod (members_1.length : Int)).toNat)).length) * 8 ≤ 140737488355328) <|
     ck ((0 : Int) ≤ ((turn.toNat : Int).tmod (members_1.length : Int)) ∧ ((turn.toNat : Int).tmod (members_1.length : Int)) ≤ (members_1.length : Int)) <|
     ck (((([] : List Int) ++ ((members_1.drop ((turn.toNat : Int).tmod (members_1.length : Int)).toNat).take (members_1.length - ((turn.toNat : Int).tmod (members_1.length : Int)).toNat))).length + ((members_1.drop 0).take (((turn.toNat : Int).tmod (members_1.length : Int)).toNat - 0)).length) * 8 ≤ 140737488355328) <|
     (m20_overflightlaw37_better r_ [airline] ((([] : List Int) ++ ((members_1.drop ((turn.toNat : Int).tmod (members_1.length : Int)).toNat).take (members_1.length - ((turn.toNat : Int).tmod (members_1.length : Int)).toNat))) ++ ((members_1.drop 0).take (((turn.toNat : Int).tmod (members_1.length : Int)).toNat - 0))) costs_2.1).bind fun better_1 =>
     some (!better_1))
  (fun k239 =>
   bif (decide (airline < 0)) then
    k239 true
   else
    k239 (decide (8 ≤ airline)))

def m4_overflightlaw37_CoalitionOwn_B0 (r_ : XRound) (slots : List Int) (airline : Int) (turn : UInt8) (sf35 : (List Int) → Int → Option Bool) (own_1 : List Int) (v_2 : Int) : Option Bool :=
 bif (decide (v_2 < (r_.owners.length : Int))) then
  ck ((own_1.length + [v_2].length) * 8 ≤ 140737488355328) <|
  sf35 (own_1 ++ [v_2]) (IntKind.wrap .i64 (v_2 + 1))
 else
  (m23_coalition_Worse r_ own_1).bind fun worse_1 =>
  (m18_coalition_Costs r_ own_1).bind fun costs_1 =>
  jn (fun (v_3 : Bool) =>
   bif v_3 then
    some false
   else
    (m19_coalition_Stable r_ slots).bind fun stable_1 =>
    jn (fun (v_4 : Bool) =>
     bif v_4 then
      some true
     else
      (m18_coalition_Costs r_ slots).bind fun costs_2 =>
      jn (fun (v_5 : Bool) =>
       bif v_5 then
        some false
       else
        loop1 (m4_overflightlaw37_CoalitionOwn_B1 r_ airline turn costs_1 costs_2) (((costs_2.1.length : Int) - 0).toNat + 1) 0)
      (fun k147 =>
       bif (decide (costs_2.2 ≠ 0)) then
        k147 true
       else
        k147 (decide ((costs_2.1.length : Int) ≠ 8))))
    (fun k121 =>
     bif (decide (stable_1.2 ≠ 0)) then
      k121 true
     else
      k121 (!stable_1.1)))
  (fun k95 =>
   bif (decide (worse_1.2 ≠ 0)) then
    k95 true
   else
    bif (decide (costs_1.2 ≠ 0)) then
     k95 true
    else
     bif (decide ((worse_1.1.length : Int) ≠ 0)) then
      k95 true
     else
      k95 (decide ((costs_1.1.length : Int) ≠ 8)))

def m4_overflightlaw37_CoalitionOwn (r_ : XRound) (slots : List Int) (airline : Int) (turn : UInt8) : Option Bool :=
 (m15_overflightlaw37_sane).bind fun sane_1 =>
 bif (!sane_1) then
  some false
 else
  jn (fun (v_1 : Bool) =>
   bif v_1 then
    some true
   else
    loop2 (m4_overflightlaw37_CoalitionOwn_B0 r_ slots airline turn) (((r_.owners.length : Int) - 0).toNat + 1) ([] : List Int) 0)
  (fun k19 =>
   (m16_overflightref37_Few r_).bind fun few_1 =>
   bif (!few_1) then
    k19 true
   else
    bif (decide (20 < (slots.length : Int))) then
     k19 true
    else
     (m22_coalition_Check r_).bind fun check_1 =>
     k19 (decide (check_1 ≠ 0)))

theorem c4_overflightlaw37_CoalitionOwn {w : World} {O : List Nat} {r_ : XRound} {slots : List Int} {airline : Int} {turn : UInt8} {a_r__owners : Option Addr} {c_r__owners : Nat} {a_r__costs : Option Addr} {c_r__costs : Nat} {a_slots : Option Addr} {c_slots : Nat} (hO : ∀ k ∈ O, k < w.heap.size) (r_r__slots : InK .i64 r_.slots) (f_r__owners : SlR (rInt .i64) w O a_r__owners c_r__owners r_.owners) (f_r__costs : SlR (rSl (rInt .i64)) w O a_r__costs c_r__costs r_.costs) (f_slots : SlR (rInt .i64) w O a_slots c_slots slots) (r_airline : InK .i64 airline) {x : Bool} (hm : m4_overflightlaw37_CoalitionOwn r_ slots airline turn = some x) :
  Ok Try.prog 4 [(Value.agg [(Value.int .i64 r_.slots), (Value.slice a_r__owners r_.owners.length c_r__owners), (Value.slice a_r__costs r_.costs.length c_r__costs)].toArray), (Value.slice a_slots slots.length c_slots), (Value.int .i64 airline), (Value.int .u8 (turn.toNat : Int))] w O vB x := by
 unfold m4_overflightlaw37_CoalitionOwn at hm
 refine Fn_of_Wp (n := 154) (xs := [.tmp 8]) Try.func4 rfl Try.ntmps4 Try.results4 rfl ?_
 have hs := St.start hO
 refine Wp_seq ?_
 refine Wp_region ?_
 refine Rg_op rfl (op_box (cs := [(Value.int .i64 r_.slots), (Value.slice a_r__owners r_.owners.length c_r__owners), (Value.slice a_r__costs r_.costs.length c_r__costs)]) hs rfl rfl ?_)
 intro b1 w2 _ p3 hs4
 replace f_r__owners := f_r__owners.step p3; replace f_r__costs := f_r__costs.step p3; replace f_slots := f_slots.step p3; clear p3
 refine Rg_op rfl (op_assign (v := (Value.bool false)) rfl ?_)
 refine Rg_nil ?_
 refine Wp_seq ?_
 refine Wp_seq ?_
 refine Wp_region ?_
 replace hm := bd hm; obtain ⟨sane_1, hv6, hm⟩ := hm
 refine Rg_op rfl (op_call Try.call15 (c15_overflightlaw37_sane  hs4.ltw  hv6) rfl ?_)
 rintro v7 w8 ⟨hx9, h10⟩
 have hs11 := hs4.call hx9
 have p12 := Step.ext (O := ks [(some b1, Obj.cells [(Value.int .i64 r_.slots), (Value.slice a_r__owners r_.owners.length c_r__owners), (Value.slice a_r__costs r_.costs.length c_r__costs)].toArray 25)] O) hx9
 clear hx9
 replace f_r__owners := f_r__owners.step p12; replace f_r__costs := f_r__costs.step p12; replace f_slots := f_slots.step p12; clear p12 hs4
 obtain rfl := h10
 refine Rg_op rfl (op_not rfl ?_)
 refine Rg_nil ?_
 refine Wp_cond rfl (fun hc14 => ?_) (fun hc14 => ?_)
 ·
  replace hm := bif_t hm hc14
  refine Wp_seq ?_
  obtain ⟨hs15, p16⟩ := hs11.sub (bs' := []) (.cons _ List.Sublist.slnil)
  clear f_r__owners f_r__costs f_slots
  clear p16 hs11
  refine Wp_region ?_
  refine Rg_op rfl (op_assign (v := (Value.bool false)) rfl ?_)
  refine Rg_nil ?_
  refine Wp_ret ?_
  have hz := step_all hs15
  refine ⟨_, (show Closes [] _ _ from rfl), [(Value.bool false)], ⟨rfl, trivial⟩, hs15.ext, ?_⟩
  exact Vr.eq (a := vB) (x := false) rfl (Option.some.inj hm)
 ·
  replace hm := bif_f hm hc14
  refine Wp_skip ?_
  refine Wp_seq ?_
  refine Wp_reset [] [(1, (Value.slice a_slots slots.length c_slots)), (2, (Value.int .i64 airline)), (3, (Value.int .u8 (turn.toNat : Int))), (4, (Value.pointer (some ⟨b1, 0, none⟩)))] rfl ⟨rfl, rfl, rfl, rfl, trivial⟩ fun ξ17 => ?_
  replace hm := jn_elim hm; obtain ⟨k19, hk20, hm⟩ := hm
  refine Wp_seqJ [24, 25, 26, 27, 28, 29, 30, 31, 32, 33, 34, 35, 36] (fun fr w' => ∃ (v_1 : Bool) (Ebs : Ents), Ebs = [(some b1, Obj.cells [(Value.int .i64 r_.slots), (Value.slice a_r__owners r_.owners.length c_r__owners), (Value.slice a_r__costs r_.costs.length c_r__costs)].toArray 25)] ∧ fr [] [(36, (Value.bool v_1))] ∧ Step (ks [(some b1, Obj.cells [(Value.int .i64 r_.slots), (Value.slice a_r__owners r_.owners.length c_r__owners), (Value.slice a_r__costs r_.costs.length c_r__costs)].toArray 25)] O) w8 (ks Ebs O) w' ∧ St ⟨w, [], []⟩ O w' Ebs ∧ k19 v_1 = some x) ?_ ?_
  ·
   rintro ρ26 w22 ⟨v_1, Ebs, hEbs, hfr25, hst24, hs23, hm⟩
   replace hm := jnE1 hk20 hm
   subst hEbs; rw [hfr25.eq]; clear hfr25
   replace f_r__owners := f_r__owners.step hst24; replace f_r__costs := f_r__costs.step hst24; replace f_slots := f_slots.step hst24; clear hst24 hs11
   refine Wp_cond rfl (fun hc27 => ?_) (fun hc27 => ?_)
   ·
    replace hm := bif_t hm hc27
    refine Wp_seq ?_
    obtain ⟨hs28, p29⟩ := hs23.sub (bs' := []) (.cons _ List.Sublist.slnil)
    clear f_r__owners f_r__costs f_slots
    clear p29 hs23
    refine Wp_region ?_
    refine Rg_op rfl (op_assign (v := (Value.bool true)) rfl ?_)
    refine Rg_nil ?_
    refine Wp_ret ?_
    have hz := step_all hs28
    refine ⟨_, (show Closes [] _ _ from rfl), [(Value.bool true)], ⟨rfl, trivial⟩, hs28.ext, ?_⟩
    exact Vr.eq (a := vB) (x := true) rfl (Option.some.inj hm)
   ·
    replace hm := bif_f hm hc27
    refine Wp_skip ?_
    refine Wp_seq ?_
    refine Wp_region ?_
    refine Rg_op rfl (op_assign (v := (Value.slice none 0 0)) rfl ?_)
    refine Rg_nil ?_
    refine Wp_seq ?_
    refine Wp_seq ?_
    refine Wp_region ?_
    refine Rg_op rfl (op_fieldAddr ty25 rfl ty22 (by decide) rfl (rfl : _ = (⟨_, 1, none⟩ : Addr)) ?_)
    refine Rg_op rfl (op_load (cs := [(Value.int .i64 r_.slots), (Value.slice a_r__owners r_.owners.length c_r__owners), (Value.slice a_r__costs r_.costs.length c_r__costs)]) (i := 0) ty22 hs23 rfl rfl rfl ?_)
    refine Rg_op rfl (op_len Try.underlying22 rfl ?_)
    have rl30 := inK_len f_r__owners
    refine Rg_op rfl (op_move (v := (Value.int .i64 0)) rfl ?_)
    refine Rg_nil ?_
    refine Wp_block ?_
    refine Wp_reset [] [(1, (Value.slice a_slots slots.length c_slots)), (2, (Value.int .i64 airline)), (3, (Value.int .u8 (turn.toNat : Int))), (4, (Value.pointer (some ⟨b1, 0, none⟩))), (9, (Value.slice none 0 0)), (39, (Value.int .i64 (r_.owners.length : Int))), (40, (Value.int .i64 0))] rfl ⟨rfl, rfl, rfl, rfl, rfl, rfl, rfl, trivial⟩ fun ξ34 => ?_
    have hs39 := hs23.ghost (Obj.cells #[] 3)
    refine Wp_loopM [9, 10, 40, 41, 42, 43, 44, 45, 46, 47] (fun m fr w' => ∃ (own_1 : List Int) (v_2 : Int) (a_g32 : Option Addr) (c_g32 : Nat) (k_g32 : Option Nat) (o_g32 : Obj) (Ebs : Ents), Ebs = [(k_g32, o_g32), (some b1, Obj.cells [(Value.int .i64 r_.slots), (Value.slice a_r__owners r_.owners.length c_r__owners), (Value.slice a_r__costs r_.costs.length c_r__costs)].toArray 25)] ∧ fr [] [(9, (Value.slice a_g32 own_1.length c_g32)), (40, (Value.int .i64 v_2))] ∧ Step (ks [(none, (Obj.cells #[] 3)), (some b1, Obj.cells [(Value.int .i64 r_.slots), (Value.slice a_r__owners r_.owners.length c_r__owners), (Value.slice a_r__costs r_.costs.length c_r__costs)].toArray 25)] O) w22 (ks Ebs O) w' ∧ St ⟨w, [], []⟩ O w' Ebs ∧ Gs (rInt .i64) 3 w' (ks Ebs O) a_g32 c_g32 own_1 k_g32 o_g32 ∧ InK .i64 v_2 ∧ loop2 (m4_overflightlaw37_CoalitionOwn_B0 r_ slots airline turn) m own_1 v_2 = some x) (((r_.owners.length : Int) - 0).toNat + 1) ⟨([] : List Int), 0, none, 0, none, (Obj.cells #[] 3), _, rfl, ⟨Out.refl _ _, rfl, rfl, rfl, trivial⟩, Step.refl _ _, hs39, Gs.nil_, (show InK .i64 0 from by decide), hm⟩ ?_ ?_
    · rintro _ _ ⟨_, _, _, _, _, _, _, _, _, _, _, _, _, hm⟩; exact loop2_z hm
    ·
     rintro m38 K37 hK37 ρ45 w41 ⟨own_1, v_2, a_g32, c_g32, k_g32, o_g32, Ebs, hEbs, hfr44, hst43, hs42, f_g32, r_y33, hm⟩
     obtain ⟨sf35, hsf36, hm⟩ := loop2_s hm; unfold m4_overflightlaw37_CoalitionOwn_B0 at hm
     subst hEbs; rw [hfr44.eq]; clear hfr44
     replace f_r__owners := f_r__owners.step hst43; replace f_r__costs := f_r__costs.step hst43; replace f_slots := f_slots.step hst43
     have ch46 := hst43
     refine Wp_seq ?_
     refine Wp_region ?_
     refine Rg_op rfl (op_lss rfl rfl ?_)
     refine Rg_nil ?_
     refine Wp_seq ?_
     refine Wp_cond rfl (fun hc47 => ?_) (fun hc47 => ?_)
     ·
      replace hm := bif_t hm hc47
      refine Wp_skip ?_
      refine Wp_seq ?_
      refine Wp_block ?_
      refine Wp_seq ?_
      refine Wp_region ?_
      refine Rg_op rfl (op_move (v := (Value.int .i64 v_2)) rfl ?_)
      refine Rg_op rfl (op_assign (v := (Value.int .i64 v_2)) rfl ?_)
      refine Rg_nil ?_
      refine Wp_region ?_
      refine Rg_op rfl (op_move (v := (Value.slice a_g32 own_1.length c_g32)) rfl ?_)
      refine Rg_op rfl (op_move (v := (Value.int .i64 v_2)) rfl ?_)
      refine Rg_op rfl (op_buildSlice (cs := [(Value.int .i64 v_2)]) (parts := [(0, .tmp 44)]) ty22 ty3 hs42 (by decide) rfl ?_)
      intro b48 w49 hx52 p50 hs51
      replace f_r__owners := f_r__owners.step p50; replace f_r__costs := f_r__costs.step p50; replace f_slots := f_slots.step p50; replace f_g32 := f_g32.step p50; replace ch46 := ch46.trans p50; clear p50 hs42
      replace hm := ck_some hm; obtain ⟨hc54, hm⟩ := hm
      refine Rg_op rfl (op_append (q := (rInt .i64)) (i := 1) (xs := own_1) (ys := [v_2]) (news := [(Value.int .i64 v_2)]) ty22 ty3 rfl (by decide) hs51 rfl rfl f_g32 rfl (Src.owned' (len := 1) (hs51.get (i := 0) rfl) rfl) (show Els (rInt .i64) _ _ [(Value.int .i64 v_2)] [v_2] from ⟨_, _, rfl, (mk_int r_y33), Els.nil⟩) hc54 (by have := hc54; simp only [maxLen]; omega) ?_)
      intro a58 c59 k60 o61 w55 p56 hs57 f62
      replace f_r__owners := f_r__owners.step p56; replace f_r__costs := f_r__costs.step p56; replace f_slots := f_slots.step p56; replace ch46 := ch46.trans p56; clear p56 hs51
      have hs63 := hs57.drop 0
      replace f_r__owners := f_r__owners.step (hs57.dropS 0)
      replace f_r__costs := f_r__costs.step (hs57.dropS 0)
      replace f_slots := f_slots.step (hs57.dropS 0)
      replace f62 := f62.step (hs57.dropS 0)
      replace ch46 := ch46.trans (hs57.dropS 0); clear hs57
      refine Rg_op rfl (op_assign (v := (Value.slice a58 (own_1 ++ [v_2]).length c59)) rfl ?_)
      refine Rg_nil ?_
      refine Wp_region ?_
      refine Rg_op rfl (op_addw rfl rfl ?_)
      refine Rg_op rfl (op_move (v := (Value.int .i64 (IntKind.wrap .i64 (v_2 + 1)))) rfl ?_)
      refine Rg_nil ?_
      exact hK37 _ _ ⟨(own_1 ++ [v_2]), (IntKind.wrap .i64 (v_2 + 1)), a58, c59, k60, o61, _, rfl, ⟨(by repeat (first | with_reducible exact Out.refl _ _ | refine Out.upd ?_ rfl | refine Out.updL ?_ rfl | refine Out.mix' ?_ rfl | exact Out.refl _ _)), rfl, rfl, rfl, trivial⟩, ch46, hs63, f62, (inK_wrap .i64 _), jnE2 hsf36 hm⟩
     ·
      replace hm := bif_f hm hc47
      refine Wp_exit ?_
      refine Wp_seq ?_
      refine Wp_region ?_
      refine Rg_op rfl (op_loadA (cs := [(Value.int .i64 r_.slots), (Value.slice a_r__owners r_.owners.length c_r__owners), (Value.slice a_r__costs r_.costs.length c_r__costs)]) (vs := [(Value.int .i64 r_.slots), (Value.slice a_r__owners r_.owners.length c_r__owners), (Value.slice a_r__costs r_.costs.length c_r__costs)]) (i := 1) ty25 hs42 rfl rfl rfl rfl ?_)
      refine Rg_op rfl (op_move (v := (Value.slice a_g32 own_1.length c_g32)) rfl ?_)
      obtain ⟨hs65, p66, f64⟩ := Gs.publish (i := 0) hs42 rfl f_g32
      replace f_r__owners := f_r__owners.step p66; replace f_r__costs := f_r__costs.step p66; replace f_slots := f_slots.step p66; replace ch46 := ch46.trans p66; clear p66 hs42
      replace hm := bd hm; obtain ⟨worse_1, hv67, hm⟩ := hm
      refine Rg_op rfl (op_call Try.call23 (c23_coalition_Worse (r_ := r_) (slots := own_1) hs65.ltw r_r__slots f_r__owners f_r__costs f64 hv67) rfl ?_)
      rintro v68 w69 ⟨hx70, h71⟩
      have hs72 := hs65.call hx70
      have p73 := Step.ext (O := ks [(some b1, Obj.cells [(Value.int .i64 r_.slots), (Value.slice a_r__owners r_.owners.length c_r__owners), (Value.slice a_r__costs r_.costs.length c_r__costs)].toArray 25)] O) hx70
      clear hx70
      replace f_r__owners := f_r__owners.step p73; replace f_r__costs := f_r__costs.step p73; replace f_slots := f_slots.step p73; replace f64 := f64.step p73; replace ch46 := ch46.trans p73; clear p73 hs65
      obtain ⟨v74, v75, rfl, h76, h77⟩ := h71
      obtain ⟨a_y78, c_y78, rfl, f_y78⟩ := un_sl h76
      obtain ⟨rfl, r_y79⟩ := h77
      refine Rg_op rfl (op_move (v := (Value.tuple [(Value.slice a_y78 worse_1.1.length c_y78), (Value.int .i64 worse_1.2)].toArray)) rfl ?_)
      refine Rg_op rfl (op_extract (v := (Value.slice a_y78 worse_1.1.length c_y78)) rfl rfl ?_)
      refine Rg_op rfl (op_extract (v := (Value.int .i64 worse_1.2)) rfl rfl ?_)
      refine Rg_op rfl (op_assign (v := (Value.slice a_y78 worse_1.1.length c_y78)) rfl ?_)
      refine Rg_op rfl (op_assign (v := (Value.int .i64 worse_1.2)) rfl ?_)
      refine Rg_nil ?_
      refine Wp_seq ?_
      refine Wp_region ?_
      refine Rg_op rfl (op_loadA (cs := [(Value.int .i64 r_.slots), (Value.slice a_r__owners r_.owners.length c_r__owners), (Value.slice a_r__costs r_.costs.length c_r__costs)]) (vs := [(Value.int .i64 r_.slots), (Value.slice a_r__owners r_.owners.length c_r__owners), (Value.slice a_r__costs r_.costs.length c_r__costs)]) (i := 0) ty25 hs72 rfl rfl rfl rfl ?_)
      refine Rg_op rfl (op_move (v := (Value.slice a_g32 own_1.length c_g32)) rfl ?_)
      replace hm := bd hm; obtain ⟨costs_1, hv80, hm⟩ := hm
      refine Rg_op rfl (op_call Try.call18 (c18_coalition_Costs (r_ := r_) (slots := own_1) hs72.ltw r_r__slots f_r__owners f_r__costs f64 hv80) rfl ?_)
      rintro v81 w82 ⟨hx83, h84⟩
      have hs85 := hs72.call hx83
      have p86 := Step.ext (O := ks [(some b1, Obj.cells [(Value.int .i64 r_.slots), (Value.slice a_r__owners r_.owners.length c_r__owners), (Value.slice a_r__costs r_.costs.length c_r__costs)].toArray 25)] O) hx83
      clear hx83
      replace f_r__owners := f_r__owners.step p86; replace f_r__costs := f_r__costs.step p86; replace f_slots := f_slots.step p86; replace f64 := f64.step p86; replace f_y78 := f_y78.step p86; replace ch46 := ch46.trans p86; clear p86 hs72
      obtain ⟨v87, v88, rfl, h89, h90⟩ := h84
      obtain ⟨a_y91, c_y91, rfl, f_y91⟩ := un_sl h89
      obtain ⟨rfl, r_y92⟩ := h90
      refine Rg_op rfl (op_move (v := (Value.tuple [(Value.slice a_y91 costs_1.1.length c_y91), (Value.int .i64 costs_1.2)].toArray)) rfl ?_)
      refine Rg_op rfl (op_extract (v := (Value.slice a_y91 costs_1.1.length c_y91)) rfl rfl ?_)
      refine Rg_op rfl (op_extract (v := (Value.int .i64 costs_1.2)) rfl rfl ?_)
      refine Rg_op rfl (op_assign (v := (Value.slice a_y91 costs_1.1.length c_y91)) rfl ?_)
      refine Rg_op rfl (op_assign (v := (Value.int .i64 costs_1.2)) rfl ?_)
      refine Rg_nil ?_
      refine Wp_seq ?_
      refine Wp_reset [] [(1, (Value.slice a_slots slots.length c_slots)), (2, (Value.int .i64 airline)), (3, (Value.int .u8 (turn.toNat : Int))), (4, (Value.pointer (some ⟨b1, 0, none⟩))), (11, (Value.slice a_y78 worse_1.1.length c_y78)), (12, (Value.int .i64 worse_1.2)), (13, (Value.slice a_y91 costs_1.1.length c_y91)), (14, (Value.int .i64 costs_1.2))] rfl ⟨rfl, rfl, rfl, rfl, rfl, rfl, rfl, rfl, trivial⟩ fun ξ93 => ?_
      replace hm := jn_elim hm; obtain ⟨k95, hk96, hm⟩ := hm
      refine Wp_seqJ [60, 61, 62, 63, 64, 65, 66, 67, 68, 69, 70, 71, 72, 73, 74, 75] (fun fr w' => ∃ (v_3 : Bool) (Ebs : Ents), Ebs = [(some b1, Obj.cells [(Value.int .i64 r_.slots), (Value.slice a_r__owners r_.owners.length c_r__owners), (Value.slice a_r__costs r_.costs.length c_r__costs)].toArray 25)] ∧ fr [] [(75, (Value.bool v_3))] ∧ Step (ks [(some b1, Obj.cells [(Value.int .i64 r_.slots), (Value.slice a_r__owners r_.owners.length c_r__owners), (Value.slice a_r__costs r_.costs.length c_r__costs)].toArray 25)] O) w82 (ks Ebs O) w' ∧ St ⟨w, [], []⟩ O w' Ebs ∧ k95 v_3 = some x) ?_ ?_
      ·
       rintro ρ102 w98 ⟨v_3, Ebs, hEbs, hfr101, hst100, hs99, hm⟩
       replace hm := jnE1 hk96 hm
       subst hEbs; rw [hfr101.eq]; clear hfr101
       replace f_r__owners := f_r__owners.step hst100; replace f_r__costs := f_r__costs.step hst100; replace f_slots := f_slots.step hst100; replace f64 := f64.step hst100; replace f_y78 := f_y78.step hst100; replace f_y91 := f_y91.step hst100; replace ch46 := ch46.trans hst100; clear hst100 hs85
       refine Wp_cond rfl (fun hc103 => ?_) (fun hc103 => ?_)
       ·
        replace hm := bif_t hm hc103
        refine Wp_seq ?_
        obtain ⟨hs104, p105⟩ := hs99.sub (bs' := []) (.cons _ List.Sublist.slnil)
        clear f_r__owners f_r__costs f_slots f64 f_y78 f_y91
        replace ch46 := ch46.trans p105; clear p105 hs99
        refine Wp_region ?_
        refine Rg_op rfl (op_assign (v := (Value.bool false)) rfl ?_)
        refine Rg_nil ?_
        refine Wp_ret ?_
        have hz := step_all hs104
        refine ⟨_, (show Closes [] _ _ from rfl), [(Value.bool false)], ⟨rfl, trivial⟩, hs104.ext, ?_⟩
        exact Vr.eq (a := vB) (x := false) rfl (Option.some.inj hm)
       ·
        replace hm := bif_f hm hc103
        refine Wp_skip ?_
        refine Wp_seq ?_
        clear f64 f_y78
        refine Wp_region ?_
        refine Rg_op rfl (op_loadA (cs := [(Value.int .i64 r_.slots), (Value.slice a_r__owners r_.owners.length c_r__owners), (Value.slice a_r__costs r_.costs.length c_r__costs)]) (vs := [(Value.int .i64 r_.slots), (Value.slice a_r__owners r_.owners.length c_r__owners), (Value.slice a_r__costs r_.costs.length c_r__costs)]) (i := 0) ty25 hs99 rfl rfl rfl rfl ?_)
        refine Rg_op rfl (op_move (v := (Value.slice a_slots slots.length c_slots)) rfl ?_)
        replace hm := bd hm; obtain ⟨stable_1, hv106, hm⟩ := hm
        refine Rg_op rfl (op_call Try.call19 (c19_coalition_Stable (r_ := r_) (slots := slots) hs99.ltw r_r__slots f_r__owners f_r__costs f_slots hv106) rfl ?_)
        rintro v107 w108 ⟨hx109, h110⟩
        have hs111 := hs99.call hx109
        have p112 := Step.ext (O := ks [(some b1, Obj.cells [(Value.int .i64 r_.slots), (Value.slice a_r__owners r_.owners.length c_r__owners), (Value.slice a_r__costs r_.costs.length c_r__costs)].toArray 25)] O) hx109
        clear hx109
        replace f_r__owners := f_r__owners.step p112; replace f_r__costs := f_r__costs.step p112; replace f_slots := f_slots.step p112; replace f_y91 := f_y91.step p112; replace ch46 := ch46.trans p112; clear p112 hs99
        obtain ⟨v113, v114, rfl, h115, h116⟩ := h110
        obtain rfl := h115
        obtain ⟨rfl, r_y118⟩ := h116
        refine Rg_op rfl (op_move (v := (Value.tuple [(Value.bool stable_1.1), (Value.int .i64 stable_1.2)].toArray)) rfl ?_)
        refine Rg_op rfl (op_extract (v := (Value.bool stable_1.1)) rfl rfl ?_)
        refine Rg_op rfl (op_extract (v := (Value.int .i64 stable_1.2)) rfl rfl ?_)
        refine Rg_op rfl (op_assign (v := (Value.bool stable_1.1)) rfl ?_)
        refine Rg_op rfl (op_assign (v := (Value.int .i64 stable_1.2)) rfl ?_)
        refine Rg_nil ?_
        refine Wp_seq ?_
        refine Wp_reset [] [(1, (Value.slice a_slots slots.length c_slots)), (2, (Value.int .i64 airline)), (3, (Value.int .u8 (turn.toNat : Int))), (4, (Value.pointer (some ⟨b1, 0, none⟩))), (13, (Value.slice a_y91 costs_1.1.length c_y91)), (15, (Value.bool stable_1.1)), (16, (Value.int .i64 stable_1.2))] rfl ⟨rfl, rfl, rfl, rfl, rfl, rfl, rfl, trivial⟩ fun ξ119 => ?_
        replace hm := jn_elim hm; obtain ⟨k121, hk122, hm⟩ := hm
        refine Wp_seqJ [82, 83, 84, 85, 86, 87] (fun fr w' => ∃ (v_4 : Bool) (Ebs : Ents), Ebs = [(some b1, Obj.cells [(Value.int .i64 r_.slots), (Value.slice a_r__owners r_.owners.length c_r__owners), (Value.slice a_r__costs r_.costs.length c_r__costs)].toArray 25)] ∧ fr [] [(87, (Value.bool v_4))] ∧ Step (ks [(some b1, Obj.cells [(Value.int .i64 r_.slots), (Value.slice a_r__owners r_.owners.length c_r__owners), (Value.slice a_r__costs r_.costs.length c_r__costs)].toArray 25)] O) w108 (ks Ebs O) w' ∧ St ⟨w, [], []⟩ O w' Ebs ∧ k121 v_4 = some x) ?_ ?_
        ·
         rintro ρ128 w124 ⟨v_4, Ebs, hEbs, hfr127, hst126, hs125, hm⟩
         replace hm := jnE1 hk122 hm
         subst hEbs; rw [hfr127.eq]; clear hfr127
         replace f_r__owners := f_r__owners.step hst126; replace f_r__costs := f_r__costs.step hst126; replace f_slots := f_slots.step hst126; replace f_y91 := f_y91.step hst126; replace ch46 := ch46.trans hst126; clear hst126 hs111
         refine Wp_cond rfl (fun hc129 => ?_) (fun hc129 => ?_)
         ·
          replace hm := bif_t hm hc129
          refine Wp_seq ?_
          obtain ⟨hs130, p131⟩ := hs125.sub (bs' := []) (.cons _ List.Sublist.slnil)
          clear f_r__owners f_r__costs f_slots f_y91
          replace ch46 := ch46.trans p131; clear p131 hs125
          refine Wp_region ?_
          refine Rg_op rfl (op_assign (v := (Value.bool true)) rfl ?_)
          refine Rg_nil ?_
          refine Wp_ret ?_
          have hz := step_all hs130
          refine ⟨_, (show Closes [] _ _ from rfl), [(Value.bool true)], ⟨rfl, trivial⟩, hs130.ext, ?_⟩
          exact Vr.eq (a := vB) (x := true) rfl (Option.some.inj hm)
         ·
          replace hm := bif_f hm hc129
          refine Wp_skip ?_
          refine Wp_seq ?_
          refine Wp_region ?_
          refine Rg_op rfl (op_loadA (cs := [(Value.int .i64 r_.slots), (Value.slice a_r__owners r_.owners.length c_r__owners), (Value.slice a_r__costs r_.costs.length c_r__costs)]) (vs := [(Value.int .i64 r_.slots), (Value.slice a_r__owners r_.owners.length c_r__owners), (Value.slice a_r__costs r_.costs.length c_r__costs)]) (i := 0) ty25 hs125 rfl rfl rfl rfl ?_)
          refine Rg_op rfl (op_move (v := (Value.slice a_slots slots.length c_slots)) rfl ?_)
          replace hm := bd hm; obtain ⟨costs_2, hv132, hm⟩ := hm
          refine Rg_op rfl (op_call Try.call18 (c18_coalition_Costs (r_ := r_) (slots := slots) hs125.ltw r_r__slots f_r__owners f_r__costs f_slots hv132) rfl ?_)
          rintro v133 w134 ⟨hx135, h136⟩
          have hs137 := hs125.call hx135
          have p138 := Step.ext (O := ks [(some b1, Obj.cells [(Value.int .i64 r_.slots), (Value.slice a_r__owners r_.owners.length c_r__owners), (Value.slice a_r__costs r_.costs.length c_r__costs)].toArray 25)] O) hx135
          clear hx135
          replace f_r__owners := f_r__owners.step p138; replace f_r__costs := f_r__costs.step p138; replace f_slots := f_slots.step p138; replace f_y91 := f_y91.step p138; replace ch46 := ch46.trans p138; clear p138 hs125
          obtain ⟨v139, v140, rfl, h141, h142⟩ := h136
          obtain ⟨a_y143, c_y143, rfl, f_y143⟩ := un_sl h141
          obtain ⟨rfl, r_y144⟩ := h142
          refine Rg_op rfl (op_move (v := (Value.tuple [(Value.slice a_y143 costs_2.1.length c_y143), (Value.int .i64 costs_2.2)].toArray)) rfl ?_)
          refine Rg_op rfl (op_extract (v := (Value.slice a_y143 costs_2.1.length c_y143)) rfl rfl ?_)
          refine Rg_op rfl (op_extract (v := (Value.int .i64 costs_2.2)) rfl rfl ?_)
          refine Rg_op rfl (op_assign (v := (Value.slice a_y143 costs_2.1.length c_y143)) rfl ?_)
          refine Rg_op rfl (op_assign (v := (Value.int .i64 costs_2.2)) rfl ?_)
          refine Rg_nil ?_
          refine Wp_seq ?_
          refine Wp_reset [] [(2, (Value.int .i64 airline)), (3, (Value.int .u8 (turn.toNat : Int))), (4, (Value.pointer (some ⟨b1, 0, none⟩))), (13, (Value.slice a_y91 costs_1.1.length c_y91)), (17, (Value.slice a_y143 costs_2.1.length c_y143)), (18, (Value.int .i64 costs_2.2))] rfl ⟨rfl, rfl, rfl, rfl, rfl, rfl, trivial⟩ fun ξ145 => ?_
          replace hm := jn_elim hm; obtain ⟨k147, hk148, hm⟩ := hm
          refine Wp_seqJ [94, 95, 96, 97, 98, 99, 100] (fun fr w' => ∃ (v_5 : Bool) (Ebs : Ents), Ebs = [(some b1, Obj.cells [(Value.int .i64 r_.slots), (Value.slice a_r__owners r_.owners.length c_r__owners), (Value.slice a_r__costs r_.costs.length c_r__costs)].toArray 25)] ∧ fr [] [(100, (Value.bool v_5))] ∧ Step (ks [(some b1, Obj.cells [(Value.int .i64 r_.slots), (Value.slice a_r__owners r_.owners.length c_r__owners), (Value.slice a_r__costs r_.costs.length c_r__costs)].toArray 25)] O) w134 (ks Ebs O) w' ∧ St ⟨w, [], []⟩ O w' Ebs ∧ k147 v_5 = some x) ?_ ?_
          ·
           rintro ρ154 w150 ⟨v_5, Ebs, hEbs, hfr153, hst152, hs151, hm⟩
           replace hm := jnE1 hk148 hm
           subst hEbs; rw [hfr153.eq]; clear hfr153
           replace f_r__owners := f_r__owners.step hst152; replace f_r__costs := f_r__costs.step hst152; replace f_slots := f_slots.step hst152; replace f_y91 := f_y91.step hst152; replace f_y143 := f_y143.step hst152; replace ch46 := ch46.trans hst152; clear hst152 hs137
           refine Wp_cond rfl (fun hc155 => ?_) (fun hc155 => ?_)
           ·
            replace hm := bif_t hm hc155
            refine Wp_seq ?_
            obtain ⟨hs156, p157⟩ := hs151.sub (bs' := []) (.cons _ List.Sublist.slnil)
            clear f_r__owners f_r__costs f_slots f_y91 f_y143
            replace ch46 := ch46.trans p157; clear p157 hs151
            refine Wp_region ?_
            refine Rg_op rfl (op_assign (v := (Value.bool false)) rfl ?_)
            refine Rg_nil ?_
            refine Wp_ret ?_
            have hz := step_all hs156
            refine ⟨_, (show Closes [] _ _ from rfl), [(Value.bool false)], ⟨rfl, trivial⟩, hs156.ext, ?_⟩
            exact Vr.eq (a := vB) (x := false) rfl (Option.some.inj hm)
           ·
            replace hm := bif_f hm hc155
            refine Wp_skip ?_
            refine Wp_seq ?_
            refine Wp_seq ?_
            clear f_slots
            refine Wp_region ?_
            refine Rg_op rfl (op_move (v := (Value.slice a_y143 costs_2.1.length c_y143)) rfl ?_)
            refine Rg_op rfl (op_len Try.underlying22 rfl ?_)
            have rl158 := inK_len f_y143
            refine Rg_op rfl (op_move (v := (Value.int .i64 0)) rfl ?_)
            refine Rg_nil ?_
            refine Wp_block ?_
            refine Wp_reset [] [(2, (Value.int .i64 airline)), (3, (Value.int .u8 (turn.toNat : Int))), (4, (Value.pointer (some ⟨b1, 0, none⟩))), (13, (Value.slice a_y91 costs_1.1.length c_y91)), (17, (Value.slice a_y143 costs_2.1.length c_y143)), (102, (Value.int .i64 (costs_2.1.length : Int))), (103, (Value.int .i64 0))] rfl ⟨rfl, rfl, rfl, rfl, rfl, rfl, rfl, trivial⟩ fun ξ160 => ?_
            refine Wp_loopM [8, 19, 103, 104, 105, 106, 107, 108, 109, 110, 111, 112, 113, 114, 115] (fun m fr w' => ∃ (v_6 : Int) (Ebs : Ents), Ebs = [(some b1, Obj.cells [(Value.int .i64 r_.slots), (Value.slice a_r__owners r_.owners.length c_r__owners), (Value.slice a_r__costs r_.costs.length c_r__costs)].toArray 25)] ∧ fr [] [(103, (Value.int .i64 v_6))] ∧ Step (ks [(some b1, Obj.cells [(Value.int .i64 r_.slots), (Value.slice a_r__owners r_.owners.length c_r__owners), (Value.slice a_r__costs r_.costs.length c_r__costs)].toArray 25)] O) w150 (ks Ebs O) w' ∧ St ⟨w, [], []⟩ O w' Ebs ∧ InK .i64 v_6 ∧ loop1 (m4_overflightlaw37_CoalitionOwn_B1 r_ airline turn costs_1 costs_2) m v_6 = some x) (((costs_2.1.length : Int) - 0).toNat + 1) ⟨0, _, rfl, ⟨Out.refl _ _, rfl, rfl, trivial⟩, Step.refl _ _, hs151, (show InK .i64 0 from by decide), hm⟩ ?_ ?_
            · rintro _ _ ⟨_, _, _, _, _, _, _, hm⟩; exact loop1_z hm
            ·
             rintro m164 K163 hK163 ρ169 w165 ⟨v_6, Ebs, hEbs, hfr168, hst167, hs166, r_y159, hm⟩
             obtain ⟨sf161, hsf162, hm⟩ := loop1_s hm; unfold m4_overflightlaw37_CoalitionOwn_B1 at hm
             subst hEbs; rw [hfr168.eq]; clear hfr168
             replace f_r__owners := f_r__owners.step hst167; replace f_r__costs := f_r__costs.step hst167; replace f_y91 := f_y91.step hst167; replace f_y143 := f_y143.step hst167; replace ch46 := ch46.trans hst167
             have ch170 := hst167
             refine Wp_seq ?_
             refine Wp_region ?_
             refine Rg_op rfl (op_lss rfl rfl ?_)
             refine Rg_nil ?_
             refine Wp_seq ?_
             refine Wp_cond rfl (fun hc171 => ?_) (fun hc171 => ?_)
             ·
              replace hm := bif_t hm hc171
              refine Wp_skip ?_
              refine Wp_seq ?_
              refine Wp_block ?_
              refine Wp_seq ?_
              refine Wp_region ?_
              refine Rg_op rfl (op_move (v := (Value.int .i64 v_6)) rfl ?_)
              refine Rg_op rfl (op_assign (v := (Value.int .i64 v_6)) rfl ?_)
              refine Rg_nil ?_
              refine Wp_seq ?_
              refine Wp_drawR (g0 := []) (m := 8) (fl := []) (TS_inv hs166) rfl (.inl rfl) rfl (by decide +kernel) ?_  -- 24
              refine Dw_eq (Value.slice a_y143 costs_2.1.length c_y143) (fun ρ172 w173 g hle hi ht => ?_) ?_
              ·
               obtain ⟨-, hst, -⟩ := hle
               refine StepOp_plain (op_move (v := (Value.slice a_y143 costs_2.1.length c_y143)) (ht 17 rfl) ?_)
               exact Goes.same hi rfl
              refine Dw_eq (Value.int .i64 v_6) (fun ρ175 w176 g hle hi ht => ?_) ?_
              ·
               obtain ⟨-, hst, -⟩ := hle
               refine StepOp_plain (op_move (v := (Value.int .i64 v_6)) (ht 19 rfl) ?_)
               exact Goes.same hi rfl
              replace hm := ck_some hm; obtain ⟨hc181, hm⟩ := hm
              refine Dw_op (VP O [(some b1, Obj.cells [(Value.int .i64 r_.slots), (Value.slice a_r__owners r_.owners.length c_r__owners), (Value.slice a_r__costs r_.costs.length c_r__costs)].toArray 25)] (rInt .i64) (costs_2.1.getD v_6.toNat default)) (VP.stab _ _) (fun ρ178 w179 g hle hi ht => ?_) ?_
              ·
               obtain ⟨-, hst, -⟩ := hle
               replace f_y143 := f_y143.step hst
               refine StepOp_plain (op_indexAddr (q := (rInt .i64)) ty22 ty3 (ht 106 rfl) (ht 107 rfl) f_y143 rfl hc181.1 hc181.2 ?_)
               intro p182 f183
               exact Goes.same hi ⟨_, rfl, f183⟩
              refine Dw_op (VD O [(some b1, Obj.cells [(Value.int .i64 r_.slots), (Value.slice a_r__owners r_.owners.length c_r__owners), (Value.slice a_r__costs r_.costs.length c_r__costs)].toArray 25)] (vI .i64) (costs_2.1.getD v_6.toNat default)) (VD.stab _ _) (fun ρ184 w185 g hle hi ht => ?_) ?_
              ·
               obtain ⟨-, hst, -⟩ := hle
               obtain ⟨p187, q188, f189⟩ := ht 108 rfl
               refine StepOp_plain (op_loadP ty3 q188 f189 rfl ?_)
               intro v190 h191
               obtain ⟨rfl, r_y192⟩ := un_int h191
               exact Goes.same hi (show Vr.vd (vI .i64) _ _ _ _ from ⟨rfl, r_y192⟩)
              refine Dw_eq (Value.slice a_y91 costs_1.1.length c_y91) (fun ρ193 w194 g hle hi ht => ?_) ?_
              ·
               obtain ⟨-, hst, -⟩ := hle
               refine StepOp_plain (op_move (v := (Value.slice a_y91 costs_1.1.length c_y91)) (ht 13 rfl) ?_)
               exact Goes.same hi rfl
              refine Dw_eq (Value.int .i64 v_6) (fun ρ196 w197 g hle hi ht => ?_) ?_
              ·
               obtain ⟨-, hst, -⟩ := hle
               refine StepOp_plain (op_move (v := (Value.int .i64 v_6)) (ht 19 rfl) ?_)
               exact Goes.same hi rfl
              replace hm := ck_some hm; obtain ⟨hc202, hm⟩ := hm
              refine Dw_op (VP O [(some b1, Obj.cells [(Value.int .i64 r_.slots), (Value.slice a_r__owners r_.owners.length c_r__owners), (Value.slice a_r__costs r_.costs.length c_r__costs)].toArray 25)] (rInt .i64) (costs_1.1.getD v_6.toNat default)) (VP.stab _ _) (fun ρ199 w200 g hle hi ht => ?_) ?_
              ·
               obtain ⟨-, hst, -⟩ := hle
               replace f_y91 := f_y91.step hst
               refine StepOp_plain (op_indexAddr (q := (rInt .i64)) ty22 ty3 (ht 110 rfl) (ht 111 rfl) f_y91 rfl hc202.1 hc202.2 ?_)
               intro p203 f204
               exact Goes.same hi ⟨_, rfl, f204⟩
              refine Dw_op (VD O [(some b1, Obj.cells [(Value.int .i64 r_.slots), (Value.slice a_r__owners r_.owners.length c_r__owners), (Value.slice a_r__costs r_.costs.length c_r__costs)].toArray 25)] (vI .i64) (costs_1.1.getD v_6.toNat default)) (VD.stab _ _) (fun ρ205 w206 g hle hi ht => ?_) ?_
              ·
               obtain ⟨-, hst, -⟩ := hle
               obtain ⟨p208, q209, f210⟩ := ht 112 rfl
               refine StepOp_plain (op_loadP ty3 q209 f210 rfl ?_)
               intro v211 h212
               obtain ⟨rfl, r_y213⟩ := un_int h212
               exact Goes.same hi (show Vr.vd (vI .i64) _ _ _ _ from ⟨rfl, r_y213⟩)
              refine Dw_nil fun w218 g219 hl220 hi221 => ?_
              obtain ⟨-, hst222, -⟩ := hl220
              obtain ⟨hs224, p223⟩ := Step.nx hi221
              rintro v225 h226
              replace h226 : Vr.vd (vI .i64) _ _ _ _ := h226
              obtain ⟨rfl, r_y227⟩ := h226
              rintro _ ⟨p228, rfl, f229⟩
              rintro _ rfl
              rintro _ rfl
              rintro v230 h231
              replace h231 : Vr.vd (vI .i64) _ _ _ _ := h231
              obtain ⟨rfl, r_y232⟩ := h231
              rintro _ ⟨p233, rfl, f234⟩
              rintro _ rfl
              rintro _ rfl
              have p235 : Step (ks [(some b1, Obj.cells [(Value.int .i64 r_.slots), (Value.slice a_r__owners r_.owners.length c_r__owners), (Value.slice a_r__costs r_.costs.length c_r__costs)].toArray 25)] O) w165 (ks [(some b1, Obj.cells [(Value.int .i64 r_.slots), (Value.slice a_r__owners r_.owners.length c_r__owners), (Value.slice a_r__costs r_.costs.length c_r__costs)].toArray 25)] O) w218 := hst222.trans p223
              replace f229 := f229.step p223; replace f234 := f234.step p223; replace f_r__owners := f_r__owners.step p235; replace f_r__costs := f_r__costs.step p235; replace f_y91 := f_y91.step p235; replace f_y143 := f_y143.step p235; replace ch46 := ch46.trans p235; replace ch170 := ch170.trans p235; clear p235 hs166
              refine Rg_op rfl (op_gtr rfl rfl ?_)
              refine Rg_nil ?_
              refine Wp_cond rfl (fun hc236 => ?_) (fun hc236 => ?_)
              ·
               replace hm := bif_t hm hc236
               refine Wp_seq ?_
               clear f_y91 f_y143 f229 f234
               refine Wp_region ?_
               refine Rg_op rfl (op_assign (v := (Value.bool false)) rfl ?_)
               refine Rg_nil ?_
               refine Wp_ret ?_
               have hz := step_all hs224
               replace f_r__owners := f_r__owners.step hz; replace f_r__costs := f_r__costs.step hz
               refine ⟨_, (show Closes [] _ _ from rfl), [(Value.bool false)], ⟨rfl, trivial⟩, hs224.ext, ?_⟩
               exact Vr.eq (a := vB) (x := false) rfl (Option.some.inj hm)
              ·
               replace hm := bif_f hm hc236
               refine Wp_skip ?_
               clear f229 f234
               refine Wp_region ?_
               refine Rg_op rfl (op_addw rfl rfl ?_)
               refine Rg_op rfl (op_move (v := (Value.int .i64 (IntKind.wrap .i64 (v_6 + 1)))) rfl ?_)
               refine Rg_nil ?_
               exact hK163 _ _ ⟨(IntKind.wrap .i64 (v_6 + 1)), _, rfl, ⟨(by repeat (first | with_reducible exact Out.refl _ _ | refine Out.upd ?_ rfl | refine Out.updL ?_ rfl | refine Out.mix' ?_ rfl | exact Out.refl _ _)), rfl, rfl, trivial⟩, ch170, hs224, (inK_wrap .i64 _), jnE1 hsf162 hm⟩
             ·
              replace hm := bif_f hm hc171
              refine Wp_exit ?_
              refine Wp_seq ?_
              refine Wp_reset [] [(2, (Value.int .i64 airline)), (3, (Value.int .u8 (turn.toNat : Int))), (4, (Value.pointer (some ⟨b1, 0, none⟩))), (17, (Value.slice a_y143 costs_2.1.length c_y143))] rfl ⟨rfl, rfl, rfl, rfl, trivial⟩ fun ξ237 => ?_
              replace hm := jn_elim hm; obtain ⟨k239, hk240, hm⟩ := hm
              refine Wp_seqJ [116, 117, 118, 119, 120, 121] (fun fr w' => ∃ (v_7 : Bool) (Ebs : Ents), Ebs = [(some b1, Obj.cells [(Value.int .i64 r_.slots), (Value.slice a_r__owners r_.owners.length c_r__owners), (Value.slice a_r__costs r_.costs.length c_r__costs)].toArray 25)] ∧ fr [] [(121, (Value.bool v_7))] ∧ Step (ks [(some b1, Obj.cells [(Value.int .i64 r_.slots), (Value.slice a_r__owners r_.owners.length c_r__owners), (Value.slice a_r__costs r_.costs.length c_r__costs)].toArray 25)] O) w165 (ks Ebs O) w' ∧ St ⟨w, [], []⟩ O w' Ebs ∧ k239 v_7 = some x) ?_ ?_
              ·
               rintro ρ246 w242 ⟨v_7, Ebs, hEbs, hfr245, hst244, hs243, hm⟩
               replace hm := jnE1 hk240 hm
               subst hEbs; rw [hfr245.eq]; clear hfr245
               replace f_r__owners := f_r__owners.step hst244; replace f_r__costs := f_r__costs.step hst244; replace f_y91 := f_y91.step hst244; replace f_y143 := f_y143.step hst244; replace ch46 := ch46.trans hst244; replace ch170 := ch170.trans hst244; clear hst244 hs166
               refine Wp_cond rfl (fun hc247 => ?_) (fun hc247 => ?_)
               ·
                replace hm := bif_t hm hc247
                refine Wp_seq ?_
                obtain ⟨hs248, p249⟩ := hs243.sub (bs' := []) (.cons _ List.Sublist.slnil)
                clear f_r__owners f_r__costs f_y91 f_y143
                replace ch46 := ch46.trans p249; replace ch170 := ch170.trans p249; clear p249 hs243
                refine Wp_region ?_
                refine Rg_op rfl (op_assign (v := (Value.bool true)) rfl ?_)
                refine Rg_nil ?_
                refine Wp_ret ?_
                have hz := step_all hs248
                refine ⟨_, (show Closes [] _ _ from rfl), [(Value.bool true)], ⟨rfl, trivial⟩, hs248.ext, ?_⟩
                exact Vr.eq (a := vB) (x := true) rfl (Option.some.inj hm)
               ·
                replace hm := bif_f hm hc247
                refine Wp_skip ?_
                refine Wp_seq ?_
                clear f_y91
                refine Wp_region ?_
                refine Rg_op rfl (op_loadA (cs := [(Value.int .i64 r_.slots), (Value.slice a_r__owners r_.owners.length c_r__owners), (Value.slice a_r__costs r_.costs.length c_r__costs)]) (vs := [(Value.int .i64 r_.slots), (Value.slice a_r__owners r_.owners.length c_r__owners), (Value.slice a_r__costs r_.costs.length c_r__costs)]) (i := 0) ty25 hs243 rfl rfl rfl rfl ?_)
                refine Rg_op rfl (op_move (v := (Value.int .i64 airline)) rfl ?_)
                refine Rg_op rfl (op_buildSlice (cs := [(Value.int .i64 airline)]) (parts := [(0, .tmp 123)]) ty22 ty3 hs243 (by decide) rfl ?_)
                intro b250 w251 hx254 p252 hs253
                replace f_r__owners := f_r__owners.step p252; replace f_r__costs := f_r__costs.step p252; replace f_y143 := f_y143.step p252; replace ch46 := ch46.trans p252; replace ch170 := ch170.trans p252; clear p252 hs243
                obtain ⟨hs257, p258, f256⟩ := St.publish (i := 0) (o := 0) (c := 1) (xs := [airline]) hs253 rfl (show Els (rInt .i64) _ _ [(Value.int .i64 airline)] [airline] from ⟨_, _, rfl, (mk_int r_airline), Els.nil⟩) (le_lit rfl) (le_lit rfl) (le_lit rfl)
                replace f_r__owners := f_r__owners.step p258; replace f_r__costs := f_r__costs.step p258; replace f_y143 := f_y143.step p258; replace ch46 := ch46.trans p258; replace ch170 := ch170.trans p258; clear p258 hs253
                replace hm := bd hm; obtain ⟨members_1, hv259, hm⟩ := hm
                refine Rg_op rfl (op_call Try.call21 (g21_overflightlaw37_members (r_ := r_) (group := [airline]) hs257.ltw r_r__slots f_r__owners f_r__costs f256 hv259) rfl ?_)
                rintro _ w261 ⟨hx262, a265, c266, k267, o268, rfl, hk269, f270⟩
                obtain ⟨hs264, p271⟩ := hs257.callG (o := o268) hx262 hk269
                rw [← ks_cons (o := o268)] at f270
                replace f_r__owners := f_r__owners.step p271; replace f_r__costs := f_r__costs.step p271; replace f_y143 := f_y143.step p271; replace f256 := f256.step p271; replace ch46 := ch46.trans p271; replace ch170 := ch170.trans p271; clear p271 hs257
                refine Rg_op rfl (op_assign (v := (Value.slice a265 members_1.length c266)) rfl ?_)
                refine Rg_nil ?_
                refine Wp_seq ?_
                refine Wp_seq ?_
                clear f256
                refine Wp_region ?_
                refine Rg_op rfl (op_move (v := (Value.slice a265 members_1.length c266)) rfl ?_)
                refine Rg_op rfl (op_len Try.underlying22 rfl ?_)
                have rl273 := inK_lenG f270
                refine Rg_op rfl (op_eql rfl rfl ?_)
                refine Rg_nil ?_
                refine Wp_cond rfl (fun hc274 => ?_) (fun hc274 => ?_)
                ·
                 replace hm := bif_t hm hc274
                 refine Wp_seq ?_
                 obtain ⟨hs275, p276⟩ := hs264.sub (bs' := []) (.cons _ (.cons _ List.Sublist.slnil))
                 clear f_r__owners f_r__costs f270
                 replace f_y143 := f_y143.step p276; replace ch46 := ch46.trans p276; replace ch170 := ch170.trans p276; clear p276 hs264
                 refine Wp_region ?_
                 refine Rg_op rfl (op_move (v := (Value.slice a_y143 costs_2.1.length c_y143)) rfl ?_)
                 refine Rg_op rfl (op_move (v := (Value.int .i64 airline)) rfl ?_)
                 replace hm := ck_some hm; obtain ⟨hc277, hm⟩ := hm
                 refine Rg_op rfl (op_indexAddr (q := (rInt .i64)) ty22 ty3 rfl rfl f_y143 rfl hc277.1 hc277.2 ?_)
                 intro p278 f279
                 refine Rg_op rfl (op_loadP ty3 rfl f279 rfl ?_)
                 intro v280 h281
                 obtain ⟨rfl, r_y282⟩ := un_int h281
                 refine Rg_op rfl (op_eql rfl rfl ?_)
                 refine Rg_op rfl (op_assign (v := (Value.bool (decide ((costs_2.1.getD airline.toNat default) = 0)))) rfl ?_)
                 refine Rg_nil ?_
                 refine Wp_ret ?_
                 have hz := step_all hs275
                 replace f_y143 := f_y143.step hz; replace f279 := f279.step hz
                 refine ⟨_, (show Closes [] _ _ from rfl), [(Value.bool (decide ((costs_2.1.getD airline.toNat default) = 0)))], ⟨rfl, trivial⟩, hs275.ext, ?_⟩
                 exact Vr.eq (a := vB) (x := (decide ((costs_2.1.getD airline.toNat default) = 0))) rfl (Option.some.inj hm)
                ·
                 replace hm := bif_f hm hc274
                 refine Wp_skip ?_
                 refine Wp_seq ?_
                 refine Wp_region ?_
                 refine Rg_op rfl (op_move (v := (Value.int .u8 (turn.toNat : Int))) rfl ?_)
                 refine Rg_op rfl (op_conv_u8 Try.underlying5 Try.underlying3 rfl (by decide) ?_)
                 refine Rg_op rfl (op_move (v := (Value.slice a265 members_1.length c266)) rfl ?_)
                 refine Rg_op rfl (op_len Try.underlying22 rfl ?_)
                 have rl283 := inK_lenG f270
                 replace hm := ck_some hm; obtain ⟨hc284, hm⟩ := hm
                 refine Rg_op rfl (op_rem rfl rfl hc284 ?_)
                 refine Rg_op rfl (op_assign (v := (Value.int .i64 ((turn.toNat : Int).tmod (members_1.length : Int)))) rfl ?_)
                 refine Rg_nil ?_
                 refine Wp_seq ?_
                 obtain ⟨hs286, p287, f285⟩ := Gs.publish (i := 0) hs264 rfl f270
                 replace f_r__owners := f_r__owners.step p287; replace f_r__costs := f_r__costs.step p287; replace f_y143 := f_y143.step p287; replace ch46 := ch46.trans p287; replace ch170 := ch170.trans p287; clear p287 hs264
                 refine Wp_drawR (g0 := ([], [])) (m := 13) (fl := []) (TX_inv (eat := (fun t : Nat => if t = 3 then 7 else if t = 7 then 11 else 1000)) hs286) rfl (.inl rfl) rfl (by decide +kernel) ?_  -- 33
                 refine Dw_eq (Value.agg [(Value.int .i64 r_.slots), (Value.slice a_r__owners r_.owners.length c_r__owners), (Value.slice a_r__costs r_.costs.length c_r__costs)].toArray) (fun ρ288 w289 g hle hi ht => ?_) ?_
                 ·
                  obtain ⟨-, hst, -⟩ := hle
                  obtain ⟨hi, hi2⟩ := hi
                  have hsn := (Step.nxX hi).1
                  refine StepOp_plain (op_loadA (cs := [(Value.int .i64 r_.slots), (Value.slice a_r__owners r_.owners.length c_r__owners), (Value.slice a_r__costs r_.costs.length c_r__costs)]) (vs := [(Value.int .i64 r_.slots), (Value.slice a_r__owners r_.owners.length c_r__owners), (Value.slice a_r__costs r_.costs.length c_r__costs)]) (i := 0) ty25 hsn (ht 4 rfl) rfl rfl rfl ?_)
                  exact GoesX.same hi hi2 rfl
                 refine Dw_eq (Value.int .i64 airline) (fun ρ291 w292 g hle hi ht => ?_) ?_
                 ·
                  obtain ⟨-, hst, -⟩ := hle
                  obtain ⟨hi, hi2⟩ := hi
                  refine StepOp_plain (op_move (v := (Value.int .i64 airline)) (ht 2 rfl) ?_)
                  exact GoesX.same hi hi2 rfl
                 refine Dw_op (XD O [(some b1, Obj.cells [(Value.int .i64 r_.slots), (Value.slice a_r__owners r_.owners.length c_r__owners), (Value.slice a_r__costs r_.costs.length c_r__costs)].toArray 25)] (vC (rSl (rInt .i64))) [airline]) (XD.stab _ _) (fun ρ294 w295 g hle hi ht => ?_) ?_
                 ·
                  obtain ⟨-, hst, -⟩ := hle
                  obtain ⟨hi, hi2⟩ := hi
                  replace f_r__owners := f_r__owners.step hst; replace f_r__costs := f_r__costs.step hst; replace f_y143 := f_y143.step hst; replace f285 := f285.step hst
                  refine StepOp_plain (op_buildSlice (cs := [(Value.int .i64 airline)]) (parts := [(0, .tmp 140)]) ty22 ty3 hi (by decide) (by simp only [List.map, (show ev _ (.tmp 140) = _ from (ht 140 rfl))]; rfl) ?_)
                  intro b297 w298 hx301 p299 hs300
                  replace f_r__owners := f_r__owners.step p299; replace f_r__costs := f_r__costs.step p299; replace f_y143 := f_y143.step p299; replace f285 := f285.step p299
                  obtain ⟨hs303, p304, f305⟩ := St.publish (q := (rInt .i64)) (i := 0) (o := 0) (c := 1) (xs := [airline]) hs300 rfl (show Els (rInt .i64) _ _ [(Value.int .i64 airline)] [airline] from ⟨_, _, rfl, (mk_int r_airline), Els.nil⟩) (le_lit rfl) (le_lit rfl) (le_lit rfl)
                  exact GoesX.pub hi hi2 hs303 (Step.trans p299 p304) hx301 (show Vr.vd (vC (rSl (rInt .i64))) _ _ _ _ from mkC (mk_sl f305))
                 refine Dw_opN (XG O [(some b1, Obj.cells [(Value.int .i64 r_.slots), (Value.slice a_r__owners r_.owners.length c_r__owners), (Value.slice a_r__costs r_.costs.length c_r__costs)].toArray 25)] (fun t : Nat => if t = 3 then 7 else if t = 7 then 11 else 1000) 3 (rInt .i64) 3 ([] : List Int)) (XG.stab _ _ _ _) (fun ρ306 w307 g hle hi hk ht => ?_) ?_
                 ·
                  obtain ⟨-, hst, -⟩ := hle
                  obtain ⟨hi, hi2⟩ := hi
                  replace f_r__owners := f_r__owners.step hst; replace f_r__costs := f_r__costs.step hst; replace f_y143 := f_y143.step hst; replace f285 := f285.step hst
                  refine StepOp_plain (op_buildSlice (cs := []) (parts := []) ty22 ty3 hi (by decide) (by simp only [List.map]; rfl) ?_)
                  intro b309 w310 hx313 p311 hs312
                  replace f_r__owners := f_r__owners.step p311; replace f_r__costs := f_r__costs.step p311; replace f_y143 := f_y143.step p311; replace f285 := f285.step p311
                  exact GoesX.own (xs := ([] : List Int)) hi2 p311 hs312 (Gs.of_cells (p := (rInt .i64)) (e := 3) (bl := b309) (c := 0) (show Els (rInt .i64) _ _ [] [] from Els.nil) rfl (le_lit rfl)) rfl
                 refine Dw_eq (Value.slice a265 members_1.length c266) (fun ρ316 w317 g hle hi ht => ?_) ?_
                 ·
                  obtain ⟨-, hst, -⟩ := hle
                  obtain ⟨hi, hi2⟩ := hi
                  refine StepOp_plain (op_move (v := (Value.slice a265 members_1.length c266)) (ht 20 rfl) ?_)
                  exact GoesX.same hi hi2 rfl
                 refine Dw_eq (Value.int .i64 ((turn.toNat : Int).tmod (members_1.length : Int))) (fun ρ319 w320 g hle hi ht => ?_) ?_
                 ·
                  obtain ⟨-, hst, -⟩ := hle
                  obtain ⟨hi, hi2⟩ := hi
                  refine StepOp_plain (op_move (v := (Value.int .i64 ((turn.toNat : Int).tmod (members_1.length : Int)))) (ht 21 rfl) ?_)
                  exact GoesX.same hi hi2 rfl
                 replace hm := ck_some hm; obtain ⟨hc325, hm⟩ := hm
                 refine Dw_op (XD O [(some b1, Obj.cells [(Value.int .i64 r_.slots), (Value.slice a_r__owners r_.owners.length c_r__owners), (Value.slice a_r__costs r_.costs.length c_r__costs)].toArray 25)] (vC (rSl (rInt .i64))) ((members_1.drop ((turn.toNat : Int).tmod (members_1.length : Int)).toNat).take (members_1.length - ((turn.toNat : Int).tmod (members_1.length : Int)).toNat))) (XD.stab _ _) (fun ρ322 w323 g hle hi ht => ?_) ?_
                 ·
                  obtain ⟨-, hst, -⟩ := hle
                  obtain ⟨hi, hi2⟩ := hi
                  replace f285 := f285.step hst
                  refine StepOp_plain (op_slice (q := (rInt .i64)) (l := ((turn.toNat : Int).tmod (members_1.length : Int)).toNat) (h := members_1.length) (m := c266) ty22 ty3 (ht 143 rfl) f285 rfl (bndI (ht 144 rfl) (by omega)) rfl rfl (by decide) (by omega) (by omega) (by have h_ : members_1.length ≤ c266 := f285.le; omega) (by have h_ : members_1.length ≤ c266 := f285.le; omega) ?_)
                  intro a326 f327
                  exact GoesX.same hi hi2 (show Vr.vd (vC (rSl (rInt .i64))) _ _ _ _ from (mkC (mk_sl f327)))
                 replace hm := ck_some hm; obtain ⟨hc334, hm⟩ := hm
                 refine Dw_opN (XG O [(some b1, Obj.cells [(Value.int .i64 r_.slots), (Value.slice a_r__owners r_.owners.length c_r__owners), (Value.slice a_r__costs r_.costs.length c_r__costs)].toArray 25)] (fun t : Nat => if t = 3 then 7 else if t = 7 then 11 else 1000) 7 (rInt .i64) 3 (([] : List Int) ++ ((members_1.drop ((turn.toNat : Int).tmod (members_1.length : Int)).toNat).take (members_1.length - ((turn.toNat : Int).tmod (members_1.length : Int)).toNat)))) (XG.stab _ _ _ _) (fun ρ328 w329 g hle hi hk ht => ?_) ?_
                 ·
                  obtain ⟨-, hst, -⟩ := hle
                  obtain ⟨hi, hi2⟩ := hi
                  have h331 : Vr.vd (vC (rSl (rInt .i64))) _ _ _ _ := ht 145 rfl
                  obtain ⟨a_y333, c_y333, q332, f_y333⟩ := un_sl h331
                  obtain ⟨ns335, he336, hr337⟩ := f_y333.src
                  refine StepOp_plain (op_appendX (q := (rInt .i64)) (xs := ([] : List Int)) (ys := ((members_1.drop ((turn.toNat : Int).tmod (members_1.length : Int)).toNat).take (members_1.length - ((turn.toNat : Int).tmod (members_1.length : Int)).toNat))) (news := ns335) (tag := 3) ty22 ty3 rfl (by decide) hi hi2 hk rfl (le_lit rfl) (ht 142 rfl) q332 hr337 he336 hc334 (by have := hc334; simp only [maxLen]; omega))
                 refine Dw_eq (Value.slice a265 members_1.length c266) (fun ρ338 w339 g hle hi ht => ?_) ?_
                 ·
                  obtain ⟨-, hst, -⟩ := hle
                  obtain ⟨hi, hi2⟩ := hi
                  refine StepOp_plain (op_move (v := (Value.slice a265 members_1.length c266)) (ht 20 rfl) ?_)
                  exact GoesX.same hi hi2 rfl
                 refine Dw_eq (Value.int .i64 ((turn.toNat : Int).tmod (members_1.length : Int))) (fun ρ341 w342 g hle hi ht => ?_) ?_
                 ·
                  obtain ⟨-, hst, -⟩ := hle
                  obtain ⟨hi, hi2⟩ := hi
                  refine StepOp_plain (op_move (v := (Value.int .i64 ((turn.toNat : Int).tmod (members_1.length : Int)))) (ht 21 rfl) ?_)
                  exact GoesX.same hi hi2 rfl
                 replace hm := ck_some hm; obtain ⟨hc347, hm⟩ := hm
                 refine Dw_op (XD O [(some b1, Obj.cells [(Value.int .i64 r_.slots), (Value.slice a_r__owners r_.owners.length c_r__owners), (Value.slice a_r__costs r_.costs.length c_r__costs)].toArray 25)] (vC (rSl (rInt .i64))) ((members_1.drop 0).take (((turn.toNat : Int).tmod (members_1.length : Int)).toNat - 0))) (XD.stab _ _) (fun ρ344 w345 g hle hi ht => ?_) ?_
                 ·
                  obtain ⟨-, hst, -⟩ := hle
                  obtain ⟨hi, hi2⟩ := hi
                  replace f285 := f285.step hst
                  refine StepOp_plain (op_slice (q := (rInt .i64)) (l := 0) (h := ((turn.toNat : Int).tmod (members_1.length : Int)).toNat) (m := c266) ty22 ty3 (ht 147 rfl) f285 rfl rfl (bndI (ht 148 rfl) (by omega)) rfl (by decide) (by omega) (by omega) (by have h_ : members_1.length ≤ c266 := f285.le; omega) (by have h_ : members_1.length ≤ c266 := f285.le; omega) ?_)
                  intro a348 f349
                  exact GoesX.same hi hi2 (show Vr.vd (vC (rSl (rInt .i64))) _ _ _ _ from (mkC (mk_sl f349)))
                 replace hm := ck_some hm; obtain ⟨hc356, hm⟩ := hm
                 refine Dw_opN (XG O [(some b1, Obj.cells [(Value.int .i64 r_.slots), (Value.slice a_r__owners r_.owners.length c_r__owners), (Value.slice a_r__costs r_.costs.length c_r__costs)].toArray 25)] (fun t : Nat => if t = 3 then 7 else if t = 7 then 11 else 1000) 11 (rInt .i64) 3 ((([] : List Int) ++ ((members_1.drop ((turn.toNat : Int).tmod (members_1.length : Int)).toNat).take (members_1.length - ((turn.toNat : Int).tmod (members_1.length : Int)).toNat))) ++ ((members_1.drop 0).take (((turn.toNat : Int).tmod (members_1.length : Int)).toNat - 0)))) (XG.stab _ _ _ _) (fun ρ350 w351 g hle hi hk ht => ?_) ?_
                 ·
                  obtain ⟨-, hst, -⟩ := hle
                  obtain ⟨hi, hi2⟩ := hi
                  have h353 : Vr.vd (vC (rSl (rInt .i64))) _ _ _ _ := ht 149 rfl
                  obtain ⟨a_y355, c_y355, q354, f_y355⟩ := un_sl h353
                  obtain ⟨ns357, he358, hr359⟩ := f_y355.src
                  refine StepOp_plain (op_appendX (q := (rInt .i64)) (xs := (([] : List Int) ++ ((members_1.drop ((turn.toNat : Int).tmod (members_1.length : Int)).toNat).take (members_1.length - ((turn.toNat : Int).tmod (members_1.length : Int)).toNat)))) (ys := ((members_1.drop 0).take (((turn.toNat : Int).tmod (members_1.length : Int)).toNat - 0))) (news := ns357) (tag := 7) ty22 ty3 rfl (by decide) hi hi2 hk rfl (le_lit rfl) (ht 146 rfl) q354 hr359 he358 hc356 (by have := hc356; simp only [maxLen]; omega))
                 refine Dw_eq (Value.slice a_y143 costs_2.1.length c_y143) (fun ρ360 w361 g hle hi ht => ?_) ?_
                 ·
                  obtain ⟨-, hst, -⟩ := hle
                  obtain ⟨hi, hi2⟩ := hi
                  refine StepOp_plain (op_move (v := (Value.slice a_y143 costs_2.1.length c_y143)) (ht 17 rfl) ?_)
                  exact GoesX.same hi hi2 rfl
                 refine Dw_nil fun w367 g368 hl369 hi370 => ?_
                 obtain ⟨-, hst371, -⟩ := hl369
                 obtain ⟨hi370, hi374⟩ := hi370
                 rintro _ rfl
                 rintro v375 hm380
                 obtain ⟨a376, c377, k378, o379, rfl, hm380, f381⟩ := hm380.resolve_left (fun h => absurd (hi374 _ h) (by decide))
                 rintro v383 h384
                 replace h384 : Vr.vd (vC (rSl (rInt .i64))) _ _ _ _ := h384
                 obtain ⟨a_y385, c_y385, rfl, f_y385⟩ := un_sl h384
                 rintro _ rfl
                 rintro _ rfl
                 rintro _ -
                 rintro v386 h387
                 replace h387 : Vr.vd (vC (rSl (rInt .i64))) _ _ _ _ := h387
                 obtain ⟨a_y388, c_y388, rfl, f_y388⟩ := un_sl h387
                 rintro _ rfl
                 rintro _ rfl
                 rintro _ -
                 rintro v389 h390
                 replace h390 : Vr.vd (vC (rSl (rInt .i64))) _ _ _ _ := h390
                 obtain ⟨a_y391, c_y391, rfl, f_y391⟩ := un_sl h390
                 rintro _ rfl
                 rintro _ rfl
                 obtain ⟨hs373, p372⟩ := Step.nxX1 hi370 hm380; clear hm380
                 have p392 : Step (ks [(some b1, Obj.cells [(Value.int .i64 r_.slots), (Value.slice a_r__owners r_.owners.length c_r__owners), (Value.slice a_r__costs r_.costs.length c_r__costs)].toArray 25)] O) w261 (ks [(k378, o379), (some b1, Obj.cells [(Value.int .i64 r_.slots), (Value.slice a_r__owners r_.owners.length c_r__owners), (Value.slice a_r__costs r_.costs.length c_r__costs)].toArray 25)] O) w367 := hst371.trans p372
                 replace f381 := f381.step p372; replace f_y385 := f_y385.step p372; replace f_y388 := f_y388.step p372; replace f_y391 := f_y391.step p372; replace f_r__owners := f_r__owners.step p392; replace f_r__costs := f_r__costs.step p392; replace f_y143 := f_y143.step p392; replace f285 := f285.step p392; replace ch46 := ch46.trans p392; replace ch170 := ch170.trans p392; clear p392 hs286
                 obtain ⟨hs393, p394, f395⟩ := Gs.publish (i := 0) hs373 rfl f381
                 replace hm := bd hm; obtain ⟨better_1, hv396, hm⟩ := hm
                 refine Rg_op rfl (op_call Try.call20 (c20_overflightlaw37_better (r_ := r_) (group := [airline]) (slots := ((([] : List Int) ++ ((members_1.drop ((turn.toNat : Int).tmod (members_1.length : Int)).toNat).take (members_1.length - ((turn.toNat : Int).tmod (members_1.length : Int)).toNat))) ++ ((members_1.drop 0).take (((turn.toNat : Int).tmod (members_1.length : Int)).toNat - 0)))) (than := costs_2.1) hs393.ltw r_r__slots (f_r__owners.step p394) (f_r__costs.step p394) (f_y391.step p394) f395 (f_y143.step p394) hv396) rfl ?_)
                 rintro v397 w398 ⟨hx399, h400⟩
                 have hs401 := hs373.call hx399
                 have p402 := Step.ext (O := ks [(k378, o379), (some b1, Obj.cells [(Value.int .i64 r_.slots), (Value.slice a_r__owners r_.owners.length c_r__owners), (Value.slice a_r__costs r_.costs.length c_r__costs)].toArray 25)] O) hx399
                 clear hx399
                 replace f_r__owners := f_r__owners.step p402; replace f_r__costs := f_r__costs.step p402; replace f_y143 := f_y143.step p402; replace f285 := f285.step p402; replace f381 := f381.step p402; replace f_y385 := f_y385.step p402; replace f_y388 := f_y388.step p402; replace f_y391 := f_y391.step p402; replace ch46 := ch46.trans p402; replace ch170 := ch170.trans p402; clear p402 hs373
                 obtain rfl := h400
                 refine Rg_op rfl (op_not rfl ?_)
                 refine Rg_op rfl (op_assign (v := (Value.bool (!better_1))) rfl ?_)
                 refine Rg_nil ?_
                 refine Wp_ret ?_
                 have hz := step_all hs401
                 replace f_r__owners := f_r__owners.step hz; replace f_r__costs := f_r__costs.step hz; replace f_y143 := f_y143.step hz; replace f285 := f285.step hz; replace f381 := f381.step hz; replace f_y385 := f_y385.step hz; replace f_y388 := f_y388.step hz; replace f_y391 := f_y391.step hz
                 refine ⟨_, (show Closes [] _ _ from rfl), [(Value.bool (!better_1))], ⟨rfl, trivial⟩, hs401.ext, ?_⟩
                 exact Vr.eq (a := vB) (x := (!better_1)) rfl (Option.some.inj hm)
              ·
               intro K241 hK241
               have ch404 := Step.refl (ks [(some b1, Obj.cells [(Value.int .i64 r_.slots), (Value.slice a_r__owners r_.owners.length c_r__owners), (Value.slice a_r__costs r_.costs.length c_r__costs)].toArray 25)] O) w165
               clear f_y91
               refine Wp_region ?_
               refine Rg_op rfl (op_move (v := (Value.int .i64 airline)) rfl ?_)
               refine Rg_op rfl (op_lss rfl rfl ?_)
               refine Rg_op rfl (op_move (v := (Value.bool (decide (airline < 0)))) rfl ?_)
               refine Rg_case (fun hg405 => ?_) (fun hg405 => ?_)
               ·
                replace hm := bif_t hm hg405
                iterate 2 refine Rg_opx rfl (asB_ne rfl rfl) rfl ?_
                refine Rg_op rfl (op_pick_t (v := (Value.bool true)) rfl rfl ?_)
                refine Rg_nil ?_
                exact hK241 _ _ ⟨true, _, rfl, ⟨(by repeat (first | with_reducible exact Out.refl _ _ | refine Out.upd ?_ rfl | refine Out.updL ?_ rfl | refine Out.mix' ?_ rfl | exact Out.refl _ _)), rfl, rfl, trivial⟩, ch404, hs166, hm⟩
               ·
                replace hm := bif_f hm hg405
                refine Rg_opg rfl rfl rfl (op_move (v := (Value.int .i64 airline)) rfl ?_)
                refine Rg_opg rfl rfl rfl (op_geq rfl rfl ?_)
                refine Rg_op rfl (op_pick_f (v := (Value.bool (decide (8 ≤ airline)))) rfl rfl ?_)
                refine Rg_nil ?_
                exact hK241 _ _ ⟨(decide (8 ≤ airline)), _, rfl, ⟨(by repeat (first | with_reducible exact Out.refl _ _ | refine Out.upd ?_ rfl | refine Out.updL ?_ rfl | refine Out.mix' ?_ rfl | exact Out.refl _ _)), rfl, rfl, trivial⟩, ch404, hs166, hm⟩
          ·
           intro K149 hK149
           have ch406 := Step.refl (ks [(some b1, Obj.cells [(Value.int .i64 r_.slots), (Value.slice a_r__owners r_.owners.length c_r__owners), (Value.slice a_r__costs r_.costs.length c_r__costs)].toArray 25)] O) w134
           clear f_slots
           refine Wp_region ?_
           refine Rg_op rfl (op_move (v := (Value.int .i64 costs_2.2)) rfl ?_)
           refine Rg_op rfl (op_neq rfl rfl ?_)
           refine Rg_op rfl (op_move (v := (Value.bool (decide (costs_2.2 ≠ 0)))) rfl ?_)
           refine Rg_case (fun hg407 => ?_) (fun hg407 => ?_)
           ·
            replace hm := bif_t hm hg407
            iterate 3 refine Rg_opx rfl (asB_ne rfl rfl) rfl ?_
            refine Rg_op rfl (op_pick_t (v := (Value.bool true)) rfl rfl ?_)
            refine Rg_nil ?_
            exact hK149 _ _ ⟨true, _, rfl, ⟨(by repeat (first | with_reducible exact Out.refl _ _ | refine Out.upd ?_ rfl | refine Out.updL ?_ rfl | refine Out.mix' ?_ rfl | exact Out.refl _ _)), rfl, rfl, trivial⟩, ch406, hs137, hm⟩
           ·
            replace hm := bif_f hm hg407
            refine Rg_opg rfl rfl rfl (op_move (v := (Value.slice a_y143 costs_2.1.length c_y143)) rfl ?_)
            refine Rg_opg rfl rfl rfl (op_len Try.underlying22 rfl ?_)
            have rl408 := inK_len f_y143
            refine Rg_opg rfl rfl rfl (op_neq rfl rfl ?_)
            refine Rg_op rfl (op_pick_f (v := (Value.bool (decide ((costs_2.1.length : Int) ≠ 8)))) rfl rfl ?_)
            refine Rg_nil ?_
            exact hK149 _ _ ⟨(decide ((costs_2.1.length : Int) ≠ 8)), _, rfl, ⟨(by repeat (first | with_reducible exact Out.refl _ _ | refine Out.upd ?_ rfl | refine Out.updL ?_ rfl | refine Out.mix' ?_ rfl | exact Out.refl _ _)), rfl, rfl, trivial⟩, ch406, hs137, hm⟩
        ·
         intro K123 hK123
         have ch409 := Step.refl (ks [(some b1, Obj.cells [(Value.int .i64 r_.slots), (Value.slice a_r__owners r_.owners.length c_r__owners), (Value.slice a_r__costs r_.costs.length c_r__costs)].toArray 25)] O) w108
         refine Wp_region ?_
         refine Rg_op rfl (op_move (v := (Value.int .i64 stable_1.2)) rfl ?_)
         refine Rg_op rfl (op_neq rfl rfl ?_)
         refine Rg_op rfl (op_move (v := (Value.bool (decide (stable_1.2 ≠ 0)))) rfl ?_)
         refine Rg_case (fun hg410 => ?_) (fun hg410 => ?_)
         ·
          replace hm := bif_t hm hg410
          iterate 2 refine Rg_opx rfl (asB_ne rfl rfl) rfl ?_
          refine Rg_op rfl (op_pick_t (v := (Value.bool true)) rfl rfl ?_)
          refine Rg_nil ?_
          exact hK123 _ _ ⟨true, _, rfl, ⟨(by repeat (first | with_reducible exact Out.refl _ _ | refine Out.upd ?_ rfl | refine Out.updL ?_ rfl | refine Out.mix' ?_ rfl | exact Out.refl _ _)), rfl, rfl, trivial⟩, ch409, hs111, hm⟩
         ·
          replace hm := bif_f hm hg410
          refine Rg_opg rfl rfl rfl (op_move (v := (Value.bool stable_1.1)) rfl ?_)
          refine Rg_opg rfl rfl rfl (op_not rfl ?_)
          refine Rg_op rfl (op_pick_f (v := (Value.bool (!stable_1.1))) rfl rfl ?_)
          refine Rg_nil ?_
          exact hK123 _ _ ⟨(!stable_1.1), _, rfl, ⟨(by repeat (first | with_reducible exact Out.refl _ _ | refine Out.upd ?_ rfl | refine Out.updL ?_ rfl | refine Out.mix' ?_ rfl | exact Out.refl _ _)), rfl, rfl, trivial⟩, ch409, hs111, hm⟩
      ·
       intro K97 hK97
       have ch411 := Step.refl (ks [(some b1, Obj.cells [(Value.int .i64 r_.slots), (Value.slice a_r__owners r_.owners.length c_r__owners), (Value.slice a_r__costs r_.costs.length c_r__costs)].toArray 25)] O) w82
       clear f64
       refine Wp_region ?_
       refine Rg_op rfl (op_move (v := (Value.int .i64 worse_1.2)) rfl ?_)
       refine Rg_op rfl (op_neq rfl rfl ?_)
       refine Rg_op rfl (op_move (v := (Value.bool (decide (worse_1.2 ≠ 0)))) rfl ?_)
       refine Rg_case (fun hg412 => ?_) (fun hg412 => ?_)
       ·
        replace hm := bif_t hm hg412
        iterate 2 refine Rg_opx rfl (asB_ne rfl rfl) rfl ?_
        refine Rg_op rfl (op_pick_t (v := (Value.bool true)) rfl rfl ?_)
        refine Rg_op rfl (op_move (v := (Value.bool true)) rfl ?_)
        iterate 3 refine Rg_opx rfl (asB_ne rfl rfl) rfl ?_
        refine Rg_op rfl (op_pick_t (v := (Value.bool true)) rfl rfl ?_)
        refine Rg_op rfl (op_move (v := (Value.bool true)) rfl ?_)
        iterate 3 refine Rg_opx rfl (asB_ne rfl rfl) rfl ?_
        refine Rg_op rfl (op_pick_t (v := (Value.bool true)) rfl rfl ?_)
        refine Rg_nil ?_
        exact hK97 _ _ ⟨true, _, rfl, ⟨(by repeat (first | with_reducible exact Out.refl _ _ | refine Out.upd ?_ rfl | refine Out.updL ?_ rfl | refine Out.mix' ?_ rfl | exact Out.refl _ _)), rfl, rfl, trivial⟩, ch411, hs85, hm⟩
       ·
        replace hm := bif_f hm hg412
        refine Rg_opg rfl rfl rfl (op_move (v := (Value.int .i64 costs_1.2)) rfl ?_)
        refine Rg_opg rfl rfl rfl (op_neq rfl rfl ?_)
        refine Rg_op rfl (op_pick_f (v := (Value.bool (decide (costs_1.2 ≠ 0)))) rfl rfl ?_)
        refine Rg_op rfl (op_move (v := (Value.bool (decide (costs_1.2 ≠ 0)))) rfl ?_)
        refine Rg_case (fun hg413 => ?_) (fun hg413 => ?_)
        ·
         replace hm := bif_t hm hg413
         iterate 3 refine Rg_opx rfl (asB_ne rfl rfl) rfl ?_
         refine Rg_op rfl (op_pick_t (v := (Value.bool true)) rfl rfl ?_)
         refine Rg_op rfl (op_move (v := (Value.bool true)) rfl ?_)
         iterate 3 refine Rg_opx rfl (asB_ne rfl rfl) rfl ?_
         refine Rg_op rfl (op_pick_t (v := (Value.bool true)) rfl rfl ?_)
         refine Rg_nil ?_
         exact hK97 _ _ ⟨true, _, rfl, ⟨(by repeat (first | with_reducible exact Out.refl _ _ | refine Out.upd ?_ rfl | refine Out.updL ?_ rfl | refine Out.mix' ?_ rfl | exact Out.refl _ _)), rfl, rfl, trivial⟩, ch411, hs85, hm⟩
        ·
         replace hm := bif_f hm hg413
         refine Rg_opg rfl rfl rfl (op_move (v := (Value.slice a_y78 worse_1.1.length c_y78)) rfl ?_)
         refine Rg_opg rfl rfl rfl (op_len Try.underlying22 rfl ?_)
         have rl414 := inK_len f_y78
         refine Rg_opg rfl rfl rfl (op_neq rfl rfl ?_)
         refine Rg_op rfl (op_pick_f (v := (Value.bool (decide ((worse_1.1.length : Int) ≠ 0)))) rfl rfl ?_)
         refine Rg_op rfl (op_move (v := (Value.bool (decide ((worse_1.1.length : Int) ≠ 0)))) rfl ?_)
         refine Rg_case (fun hg415 => ?_) (fun hg415 => ?_)
         ·
          replace hm := bif_t hm hg415
          iterate 3 refine Rg_opx rfl (asB_ne rfl rfl) rfl ?_
          refine Rg_op rfl (op_pick_t (v := (Value.bool true)) rfl rfl ?_)
          refine Rg_nil ?_
          exact hK97 _ _ ⟨true, _, rfl, ⟨(by repeat (first | with_reducible exact Out.refl _ _ | refine Out.upd ?_ rfl | refine Out.updL ?_ rfl | refine Out.mix' ?_ rfl | exact Out.refl _ _)), rfl, rfl, trivial⟩, ch411, hs85, hm⟩
         ·
          replace hm := bif_f hm hg415
          refine Rg_opg rfl rfl rfl (op_move (v := (Value.slice a_y91 costs_1.1.length c_y91)) rfl ?_)
          refine Rg_opg rfl rfl rfl (op_len Try.underlying22 rfl ?_)
          have rl416 := inK_len f_y91
          refine Rg_opg rfl rfl rfl (op_neq rfl rfl ?_)
          refine Rg_op rfl (op_pick_f (v := (Value.bool (decide ((costs_1.1.length : Int) ≠ 8)))) rfl rfl ?_)
          refine Rg_nil ?_
          exact hK97 _ _ ⟨(decide ((costs_1.1.length : Int) ≠ 8)), _, rfl, ⟨(by repeat (first | with_reducible exact Out.refl _ _ | refine Out.upd ?_ rfl | refine Out.updL ?_ rfl | refine Out.mix' ?_ rfl | exact Out.refl _ _)), rfl, rfl, trivial⟩, ch411, hs85, hm⟩
  ·
   intro K21 hK21
   have ch417 := Step.refl (ks [(some b1, Obj.cells [(Value.int .i64 r_.slots), (Value.slice a_r__owners r_.owners.length c_r__owners), (Value.slice a_r__costs r_.costs.length c_r__costs)].toArray 25)] O) w8
   refine Wp_region ?_
   refine Rg_op rfl (op_loadA (cs := [(Value.int .i64 r_.slots), (Value.slice a_r__owners r_.owners.length c_r__owners), (Value.slice a_r__costs r_.costs.length c_r__costs)]) (vs := [(Value.int .i64 r_.slots), (Value.slice a_r__owners r_.owners.length c_r__owners), (Value.slice a_r__costs r_.costs.length c_r__costs)]) (i := 0) ty25 hs11 rfl rfl rfl rfl ?_)
   replace hm := bd hm; obtain ⟨few_1, hv418, hm⟩ := hm
   refine Rg_op rfl (op_call Try.call16 (c16_overflightref37_Few (r_ := r_) hs11.ltw r_r__slots f_r__owners f_r__costs hv418) rfl ?_)
   rintro v419 w420 ⟨hx421, h422⟩
   have hs423 := hs11.call hx421
   have p424 := Step.ext (O := ks [(some b1, Obj.cells [(Value.int .i64 r_.slots), (Value.slice a_r__owners r_.owners.length c_r__owners), (Value.slice a_r__costs r_.costs.length c_r__costs)].toArray 25)] O) hx421
   clear hx421
   replace f_r__owners := f_r__owners.step p424; replace f_r__costs := f_r__costs.step p424; replace f_slots := f_slots.step p424; replace ch417 := ch417.trans p424; clear p424 hs11
   obtain rfl := h422
   refine Rg_op rfl (op_not rfl ?_)
   refine Rg_op rfl (op_move (v := (Value.bool (!few_1))) rfl ?_)
   refine Rg_case (fun hg426 => ?_) (fun hg426 => ?_)
   ·
    replace hm := bif_t hm hg426
    iterate 3 refine Rg_opx rfl (asB_ne rfl rfl) rfl ?_
    refine Rg_op rfl (op_pick_t (v := (Value.bool true)) rfl rfl ?_)
    refine Rg_op rfl (op_move (v := (Value.bool true)) rfl ?_)
    iterate 3 refine Rg_opx rfl (asB_ne rfl rfl) rfl ?_
    refine Rg_op rfl (op_pick_t (v := (Value.bool true)) rfl rfl ?_)
    refine Rg_nil ?_
    exact hK21 _ _ ⟨true, _, rfl, ⟨(by repeat (first | with_reducible exact Out.refl _ _ | refine Out.upd ?_ rfl | refine Out.updL ?_ rfl | refine Out.mix' ?_ rfl | exact Out.refl _ _)), rfl, rfl, trivial⟩, ch417, hs423, hm⟩
   ·
    replace hm := bif_f hm hg426
    refine Rg_opg rfl rfl rfl (op_move (v := (Value.slice a_slots slots.length c_slots)) rfl ?_)
    refine Rg_opg rfl rfl rfl (op_len Try.underlying22 rfl ?_)
    have rl427 := inK_len f_slots
    refine Rg_opg rfl rfl rfl (op_gtr rfl rfl ?_)
    refine Rg_op rfl (op_pick_f (v := (Value.bool (decide (20 < (slots.length : Int))))) rfl rfl ?_)
    refine Rg_op rfl (op_move (v := (Value.bool (decide (20 < (slots.length : Int))))) rfl ?_)
    refine Rg_case (fun hg428 => ?_) (fun hg428 => ?_)
    ·
     replace hm := bif_t hm hg428
     iterate 3 refine Rg_opx rfl (asB_ne rfl rfl) rfl ?_
     refine Rg_op rfl (op_pick_t (v := (Value.bool true)) rfl rfl ?_)
     refine Rg_nil ?_
     exact hK21 _ _ ⟨true, _, rfl, ⟨(by repeat (first | with_reducible exact Out.refl _ _ | refine Out.upd ?_ rfl | refine Out.updL ?_ rfl | refine Out.mix' ?_ rfl | exact Out.refl _ _)), rfl, rfl, trivial⟩, ch417, hs423, hm⟩
    ·
     replace hm := bif_f hm hg428
     refine Rg_opg rfl rfl rfl (op_loadA (cs := [(Value.int .i64 r_.slots), (Value.slice a_r__owners r_.owners.length c_r__owners), (Value.slice a_r__costs r_.costs.length c_r__costs)]) (vs := [(Value.int .i64 r_.slots), (Value.slice a_r__owners r_.owners.length c_r__owners), (Value.slice a_r__costs r_.costs.length c_r__costs)]) (i := 0) ty25 hs423 rfl rfl rfl rfl ?_)
     replace hm := bd hm; obtain ⟨check_1, hv429, hm⟩ := hm
     refine Rg_opg rfl rfl rfl (op_call Try.call22 (c22_coalition_Check (r_ := r_) hs423.ltw r_r__slots f_r__owners f_r__costs hv429) rfl ?_)
     rintro v430 w431 ⟨hx432, h433⟩
     have hs434 := hs423.call hx432
     have p435 := Step.ext (O := ks [(some b1, Obj.cells [(Value.int .i64 r_.slots), (Value.slice a_r__owners r_.owners.length c_r__owners), (Value.slice a_r__costs r_.costs.length c_r__costs)].toArray 25)] O) hx432
     clear hx432
     replace f_r__owners := f_r__owners.step p435; replace f_r__costs := f_r__costs.step p435; replace f_slots := f_slots.step p435; replace ch417 := ch417.trans p435; clear p435 hs423
     obtain ⟨rfl, r_y436⟩ := h433
     refine Rg_opg rfl rfl rfl (op_neq rfl rfl ?_)
     refine Rg_op rfl (op_pick_f (v := (Value.bool (decide (check_1 ≠ 0)))) rfl rfl ?_)
     refine Rg_nil ?_
     exact hK21 _ _ ⟨(decide (check_1 ≠ 0)), _, rfl, ⟨(by repeat (first | with_reducible exact Out.refl _ _ | refine Out.upd ?_ rfl | refine Out.updL ?_ rfl | refine Out.mix' ?_ rfl | exact Out.refl _ _)), rfl, rfl, trivial⟩, ch417, hs434, hm⟩

end Go.Fx



/- What the models of functions compute: loops over lists, checks, meetings. No program in sight. -/
set_option linter.unusedSimpArgs false
set_option linter.unusedVariables false
namespace Go.Fx
open Go Go.RowKit

section
variable {R α σ : Type}
@[simp] theorem jn_eq {κ : Type _} (k : κ) (f : κ → Option R) : jn k f = f k := rfl
theorem ck_eq {c : Prop} [Decidable c] {m : Option R} (h : c) : ck c m = m := if_pos h
@[simp] theorem ck_True {m : Option R} : ck True m = m := if_pos trivial
theorem wrapN {i : Nat} (h : i < 9223372036854775808) : IntKind.i64.wrap (i : Int) = (i : Int) := wrap_i64 (by omega) (by omega)
theorem wrapS {i : Nat} (h : i + 1 < 9223372036854775808) : IntKind.i64.wrap ((i : Int) + 1) = (i : Int) + 1 := wrap_i64 (by omega) (by omega)
/-- a loop that goes up an index over a list: L fuel index state -/
theorem up_list {L : Nat → Int → σ → Option R} (I : Nat → σ → Prop) (F : Nat → List α → σ → Option R) (l : List α) (hl : l.length < 9223372036854775807)
    (hE : ∀ n s, I l.length s → L (n + 1) (l.length : Nat) s = F l.length [] s)
    (hS : ∀ n (i : Nat) s x t, i < l.length → l[i]? = some x → IntKind.i64.wrap ((i : Int) + 1) = (i : Int) + 1 → I i s →
      (∀ s, I (i + 1) s → L n ((i : Int) + 1) s = F (i + 1) t s) → L (n + 1) (i : Int) s = F i (x :: t) s) :
    ∀ (fuel : Nat) s, l.length < fuel → I 0 s → L fuel 0 s = F 0 l s := by
  have main : ∀ (t : List α) (i fuel : Nat) s, l.drop i = t → i ≤ l.length → l.length - i < fuel → I i s → L fuel (i : Int) s = F i t s := by
    intro t
    induction t with
    | nil =>
      intro i fuel s hd hi hf hI
      have : i = l.length := by have := congrArg List.length hd; simp at this; omega
      subst this
      obtain ⟨n, rfl⟩ : ∃ n, fuel = n + 1 := ⟨fuel - 1, by omega⟩
      exact hE n s hI
    | cons x t ih =>
      intro i fuel s hd hi hf hI
      have hlt : i < l.length := by have := congrArg List.length hd; simp at this; omega
      obtain ⟨n, rfl⟩ : ∃ n, fuel = n + 1 := ⟨fuel - 1, by omega⟩
      have hx : l[i]? = some x := by rw [← List.head?_drop, hd]; rfl
      refine hS n i s x t hlt hx (wrapS (by omega)) hI fun s' hI' => (ih (i + 1) n s' ?_ (by omega) (by omega) hI')
      rw [← List.drop_drop, hd]; rfl
  intro fuel s hf hI
  exact main l 0 fuel s rfl (by omega) (by omega) hI

theorem getD_of {l : List α} {i : Nat} {x d : α} (h : l[i]? = some x) : l.getD i d = x := by simp [List.getD, h]

/-- a loop that goes up an index over a list, no state -/
theorem up_list0 {B : (Int → Option R) → Int → Option R} (F : List α → Option R) (l : List α) (hl : l.length < 9223372036854775807)
    (hE : ∀ sf, B sf (l.length : Nat) = F [])
    (hS : ∀ sf (i : Nat) x t, i < l.length → l[i]? = some x → IntKind.i64.wrap ((i : Int) + 1) = (i : Int) + 1 →
      sf ((i : Int) + 1) = F t → B sf (i : Int) = F (x :: t))
    {fuel : Nat} (hf : l.length < fuel) : loop1 B fuel 0 = F l := by
  refine up_list (L := fun n i (_ : Unit) => loop1 B n i) (fun _ _ => True) (fun _ t _ => F t) l hl ?_ ?_ fuel () hf trivial
  · intro n _ _; show loop1 B (n + 1) _ = _; rw [loop1_succ]; exact hE _
  · intro n i _ x t h1 h2 h3 _ ih; show loop1 B (n + 1) _ = _; rw [loop1_succ]; exact hS _ i x t h1 h2 h3 (ih () trivial)
/-- index first, then a state -/
theorem up_listA {B : (Int → σ → Option R) → Int → σ → Option R} (I : Nat → σ → Prop) (F : Nat → List α → σ → Option R) (l : List α) (hl : l.length < 9223372036854775807)
    (hE : ∀ sf s, I l.length s → B sf (l.length : Nat) s = F l.length [] s)
    (hS : ∀ sf (i : Nat) s x t, i < l.length → l[i]? = some x → IntKind.i64.wrap ((i : Int) + 1) = (i : Int) + 1 → I i s →
      (∀ s, I (i + 1) s → sf ((i : Int) + 1) s = F (i + 1) t s) → B sf (i : Int) s = F i (x :: t) s)
    {fuel : Nat} {s : σ} (hf : l.length < fuel) (hI : I 0 s) : loop2 B fuel 0 s = F 0 l s := by
  refine up_list (L := fun n i s => loop2 B n i s) I F l hl ?_ ?_ fuel s hf hI
  · intro n s h; show loop2 B (n + 1) _ _ = _; rw [loop2_succ]; exact hE _ _ h
  · intro n i s x t h1 h2 h3 h4 ih; show loop2 B (n + 1) _ _ = _; rw [loop2_succ]; exact hS _ i s x t h1 h2 h3 h4 ih
/-- a state first, then the index -/
theorem up_listB {B : (σ → Int → Option R) → σ → Int → Option R} (I : Nat → σ → Prop) (F : Nat → List α → σ → Option R) (l : List α) (hl : l.length < 9223372036854775807)
    (hE : ∀ sf s, I l.length s → B sf s (l.length : Nat) = F l.length [] s)
    (hS : ∀ sf (i : Nat) s x t, i < l.length → l[i]? = some x → IntKind.i64.wrap ((i : Int) + 1) = (i : Int) + 1 → I i s →
      (∀ s, I (i + 1) s → sf s ((i : Int) + 1) = F (i + 1) t s) → B sf s (i : Int) = F i (x :: t) s)
    {fuel : Nat} {s : σ} (hf : l.length < fuel) (hI : I 0 s) : loop2 B fuel s 0 = F 0 l s := by
  refine up_list (L := fun n i s => loop2 B n s i) I F l hl ?_ ?_ fuel s hf hI
  · intro n s h; show loop2 B (n + 1) _ _ = _; rw [loop2_succ]; exact hE _ _ h
  · intro n i s x t h1 h2 h3 h4 ih; show loop2 B (n + 1) _ _ = _; rw [loop2_succ]; exact hS _ i s x t h1 h2 h3 h4 ih

/-- the same, where the answer needs the index -/
theorem up_listI {B : (Int → Option R) → Int → Option R} (F : Nat → List α → Option R) (l : List α) (hl : l.length < 9223372036854775807)
    (hE : ∀ sf, B sf (l.length : Nat) = F l.length [])
    (hS : ∀ sf (i : Nat) x t, i < l.length → l[i]? = some x → IntKind.i64.wrap ((i : Int) + 1) = (i : Int) + 1 →
      sf ((i : Int) + 1) = F (i + 1) t → B sf (i : Int) = F i (x :: t))
    {fuel : Nat} (hf : l.length < fuel) : loop1 B fuel 0 = F 0 l := by
  refine up_list (L := fun n i (_ : Unit) => loop1 B n i) (fun _ _ => True) (fun i t _ => F i t) l hl ?_ ?_ fuel () hf trivial
  · intro n _ _; show loop1 B (n + 1) _ = _; rw [loop1_succ]; exact hE _
  · intro n i _ x t h1 h2 h3 _ ih; show loop1 B (n + 1) _ = _; rw [loop1_succ]; exact hS _ i x t h1 h2 h3 (ih () trivial)
end
end Go.Fx



/- Chapter 37, no program in sight: all exchanges of some flights, in order. -/
set_option linter.unusedSimpArgs false
set_option linter.unusedVariables false
namespace Go.Fx
open Go Go.RowKit
/-- all ways to go on from b with k more, out of fl, all different, allowed at their place -/
def dv (fl : List Int) (ok : Nat → Int → Bool) : Nat → List Int → List (List Int)
  | 0, b => [b]
  | k + 1, b => fl.flatMap fun s => bif ok b.length s && !b.contains s then dv fl ok k (b ++ [s]) else []
/-- t may follow b -/
def gd (fl : List Int) (ok : Nat → Int → Bool) : List Int → List Int → Prop
  | _, [] => True
  | b, s :: t => s ∈ fl ∧ ok b.length s = true ∧ s ∉ b ∧ gd fl ok (b ++ [s]) t
theorem mem_dv {fl : List Int} {ok : Nat → Int → Bool} : ∀ {k : Nat} {b x : List Int}, x ∈ dv fl ok k b ↔ ∃ t, x = b ++ t ∧ t.length = k ∧ gd fl ok b t := by
  intro k
  induction k with
  | zero =>
    intro b x
    simp only [dv, List.mem_singleton]
    constructor
    · rintro rfl; exact ⟨[], by simp, rfl, trivial⟩
    · rintro ⟨t, rfl, ht, _⟩; rw [List.length_eq_zero_iff.1 ht]; simp
  | succ k ih =>
    intro b x
    simp only [dv, List.mem_flatMap]
    constructor
    · rintro ⟨s, hs, hx⟩
      cases hc : (ok b.length s && !b.contains s)
      · rw [hc] at hx; cases hx
      · rw [hc, cond_true, ih] at hx
        obtain ⟨t, rfl, ht, hg⟩ := hx
        simp only [Bool.and_eq_true, Bool.not_eq_true', List.contains_eq_mem, decide_eq_false_iff_not] at hc
        exact ⟨s :: t, by simp, by simp [ht], hs, hc.1, hc.2, hg⟩
    · rintro ⟨t, rfl, ht, hg⟩
      cases t with
      | nil => cases ht
      | cons s t =>
        obtain ⟨h1, h2, h3, h4⟩ := hg
        refine ⟨s, h1, ?_⟩
        have hc : (ok b.length s && !b.contains s) = true := by simp [h2, h3]
        rw [hc, cond_true, ih]
        exact ⟨t, by simp, by simpa using ht, h4⟩
/-- the sum of what belongs to o -/
def csum (own : Int → Int) (cost : Int → Int → Int) (o : Int) : List (Int × Int) → Int
  | [] => 0
  | (f, s) :: t => (if own f = o then cost f s else 0) + csum own cost o t
theorem csum_append (own : Int → Int) (cost : Int → Int → Int) (o : Int) (l m : List (Int × Int)) : csum own cost o (l ++ m) = csum own cost o l + csum own cost o m := by
  induction l with
  | nil => simp [csum]
  | cons p t ih => obtain ⟨f, s⟩ := p; simp only [List.cons_append, csum, ih]; omega
end Go.Fx



/- The plain laws of chapter 37: what the functions compute. -/
set_option linter.unusedSimpArgs false
set_option linter.unusedVariables false
namespace Go.Fx
open Go Go.RowKit
theorem sane_eq : m15_overflightlaw37_sane = some true := by kernel_rfl
theorem all_range' {p : Nat → Bool} (i n : Nat) : (List.range' i (n + 1)).all p = (p i && (List.range' (i + 1) n).all p) := by rw [List.range'_succ]; rfl
theorem all_range {p : Nat → Bool} (n : Nat) : (List.range n).all p = (List.range' 0 n).all p := by rw [List.range_eq_range']
/-- the first index from i where g holds, or -1 -/
def fidx {α} (g : α → Bool) : Nat → List α → Int
  | _, [] => -1
  | i, x :: t => bif g x then (i : Int) else fidx g (i + 1) t
theorem fidx_any {α} (g : α → Bool) (l : List α) (i : Nat) : decide (0 ≤ fidx g i l) = l.any g := by
  induction l generalizing i with
  | nil => rfl
  | cons x t ih => cases h : g x <;> simp [fidx, h, ih]
theorem m45_eq (s : List Int) (f : Int → Option Bool) (g : Int → Bool) (hf : ∀ x ∈ s, f x = some (g x)) (hl : s.length < 9223372036854775807) : m45_slices_ContainsFuncint_int_ s f = some (s.any g) := by
  have : m65_slices_IndexFuncint_int_ s f = some (fidx g 0 s) := by
    unfold m65_slices_IndexFuncint_int_
    refine up_listI (fun i t => some (fidx g i t)) s hl ?_ ?_ (by omega)
    · intro sf; unfold m65_slices_IndexFuncint_int__B0; simp [fidx]
    · intro sf i x t h1 h2 h3 ih; unfold m65_slices_IndexFuncint_int__B0; obtain ⟨_, rfl⟩ := List.getElem?_eq_some_iff.1 h2
      have hfi := hf s[i] (List.getElem_mem _)
      cases h : g s[i] <;> simp [h1, h3, ih, hfi, h, fidx, ck_eq]
  unfold m45_slices_ContainsFuncint_int_; rw [this]; simp [fidx_any]
theorem m43_eq (s : List Int) (v : Int) (hl : s.length < 9223372036854775807) : m43_slices_Containsint_int_ s v = some (s.any fun x => decide (v = x)) := by
  have : m64_slices_Indexint_int_ s v = some (fidx (fun x => decide (v = x)) 0 s) := by
    unfold m64_slices_Indexint_int_
    refine up_listI (fun i t => some (fidx (fun x => decide (v = x)) i t)) s hl ?_ ?_ (by omega)
    · intro sf; unfold m64_slices_Indexint_int__B0; simp [fidx]
    · intro sf i x t h1 h2 h3 ih; unfold m64_slices_Indexint_int__B0; obtain ⟨_, rfl⟩ := List.getElem?_eq_some_iff.1 h2
      by_cases h : v = s[i]
      · have g1 : s.getD (i : Int).toNat default = s[i] := by simp [h1]
        simp only [show (i : Int) < (s.length : Int) by omega, decide_true, cond_true, g1]
        rw [ck_eq (by simp)]; simp [← h, fidx]
      · simp [h1, h3, ih, h, fidx, ck_eq]
  unfold m43_slices_Containsint_int_; rw [this]; simp [fidx_any]
def badC (c : Int) : Bool := decide (c < -1) || decide (1048576 < c)
theorem m46_eq (c : Int) (hc : InK .i64 c) : m46_coalition_Check_2 c (fun x24 x25 => m44_coalition_Check_1 x24 x25) = some (badC c) := by
  have h1 := hc.1; have h2 := hc.2
  simp [IntKind.min, IntKind.max, IntKind.signed, IntKind.bits] at h1 h2
  unfold m46_coalition_Check_2 m44_coalition_Check_1 badC
  by_cases hm : c = 9223372036854775807
  · subst hm; rfl
  · have w : IntKind.i64.wrap (c + 1) = c + 1 := wrap_i64 (by omega) (by omega)
    rw [w]
    by_cases k1 : c < -1
    · have : c + 1 < 0 := by omega
      simp [k1, this]
    · have : ¬ c + 1 < 0 := by omega
      have e : (1048577 < c + 1) = (1048576 < c) := by apply propext; omega
      simp only [k1, this, e, decide_false, cond_false, Bool.false_or, Option.bind_some]
/-- flight i of a round is not as it should be -/
def rowBad (r : XRound) (i : Nat) : Bool :=
  (decide (r.owners.getD i default < 0) || decide (7 < r.owners.getD i default)) || (!decide (((r.costs.getD i default).length : Int) = r.slots) || (decide ((r.costs.getD i default).getD i default < 0) || (r.costs.getD i default).any badC))
def shapeB (r : XRound) : Bool := !(decide (r.slots < 1) || (decide (8 < r.slots) || (decide (r.slots < (r.owners.length : Int)) || decide ((r.costs.length : Int) ≠ (r.owners.length : Int)))))
/-- what Check answers -/
def valB (r : XRound) : Bool := shapeB r && (List.range r.owners.length).all fun i => !rowBad r i
theorem shape_props {r : XRound} (h : shapeB r = true) : 1 ≤ r.slots ∧ r.slots ≤ 8 ∧ (r.owners.length : Int) ≤ r.slots ∧ r.costs.length = r.owners.length := by
  unfold shapeB at h; simp at h; omega
theorem m22_eq (r : XRound) (hs : smXRound r) : m22_coalition_Check r = some (bif valB r then 0 else 370) := by
  have hcl : r.costs.length < 9223372036854775807 := by have := hs.2.2.1; omega
  unfold m22_coalition_Check
  have main : shapeB r = true → loop1 (m22_coalition_Check_B0 r) (((r.costs.length : Int) - 0).toNat + 1) 0 = some (bif (List.range r.owners.length).all (fun i => !rowBad r i) then 0 else 370) := by
    intro hsh
    obtain ⟨s1, s2, s3, s4⟩ := shape_props hsh
    rw [all_range, ← s4]
    refine up_listI (fun i t => some (bif (List.range' i t.length).all (fun i => !rowBad r i) then 0 else 370)) r.costs hcl ?_ ?_ (show r.costs.length < ((r.costs.length : Int) - 0).toNat + 1 by omega)
    · intro sf; unfold m22_coalition_Check_B0; simp
    · intro sf i x t h1 h2 h3 ih
      have g0 : r.costs.getD (i : Int).toNat default = r.costs.getD i default := rfl
      have g1 : r.owners.getD (i : Int).toNat default = r.owners.getD i default := rfl
      have g2 : (r.costs.getD i default).getD (i : Int).toNat default = (r.costs.getD i default).getD i default := rfl
      have hrow : r.costs.getD i default ∈ r.costs := by rw [show r.costs.getD i default = r.costs[i] from by simp [h1]]; exact List.getElem_mem _
      have hrl := (hs.2.2.2 _ hrow)
      rw [List.length_cons, all_range']
      unfold m22_coalition_Check_B0
      have c1 : (i : Int) < (r.costs.length : Int) := by omega
      simp only [c1, decide_true, cond_true, jn_eq, g0, g1, g2, h3, ih]
      rw [ck_eq (by simp), ck_eq (by omega)]
      have m45 := m45_eq (r.costs.getD i default) (fun x286 => m46_coalition_Check_2 x286 (fun x24 x25 => m44_coalition_Check_1 x24 x25)) badC (fun x hx => m46_eq x (hrl.2 x hx)) (by have := hrl.1; omega)
      rw [m45]
      have hb : rowBad r i = ((decide (r.owners.getD i default < 0) || decide (7 < r.owners.getD i default)) || (!decide (((r.costs.getD i default).length : Int) = r.slots) || (decide ((r.costs.getD i default).getD i default < 0) || (r.costs.getD i default).any badC))) := rfl
      rw [hb]
      generalize (List.range' (i + 1) t.length).all (fun i => !rowBad r i) = rest
      clear hb ih hrl hrow m45 g0 g1 g2 hs
      generalize r.costs.getD i default = row
      generalize r.owners.getD i default = o
      generalize row.getD i default = dg
      generalize row.any badC = bb
      unfold m44_coalition_Check_1
      by_cases k1 : o < 0
      · simp [k1]
      by_cases k2 : 7 < o
      · simp [k1, k2]
      by_cases k3 : (row.length : Int) = r.slots
      · rw [ck_eq (by omega)]
        by_cases k4 : dg < 0
        · simp [k1, k2, k3, k4]
        · cases bb <;> simp [k1, k2, k3, k4]
      · simp [k1, k2, k3]
  simp only [jn_eq]
  unfold valB
  cases hsh : shapeB r
  · unfold shapeB at hsh
    by_cases k1 : r.slots < 1
    · simp [k1]
    by_cases k2 : 8 < r.slots
    · simp [k1, k2]
    by_cases k3 : r.slots < (r.owners.length : Int)
    · simp [k1, k2, k3]
    by_cases k4 : (r.costs.length : Int) = (r.owners.length : Int)
    · simp [k1, k2, k3, k4] at hsh
    · simp [k1, k2, k3, k4]
  · have hm := main hsh
    obtain ⟨s1, s2, s3, s4⟩ := shape_props hsh
    have k1 : ¬ r.slots < 1 := by omega
    have k2 : ¬ 8 < r.slots := by omega
    have k3 : ¬ r.slots < (r.owners.length : Int) := by omega
    have k4 : (r.costs.length : Int) = (r.owners.length : Int) := by omega
    simp only [k1, k2, k3, k4, decide_false, cond_false, ne_eq, not_true_eq_false, Bool.true_and]
    rw [k4] at hm; exact hm
structure Val (r : XRound) : Prop where
  s1 : 1 ≤ r.slots
  s2 : r.slots ≤ 8
  s3 : (r.owners.length : Int) ≤ r.slots
  s4 : r.costs.length = r.owners.length
  own : ∀ i < r.owners.length, 0 ≤ r.owners.getD i default ∧ r.owners.getD i default < 8
  row : ∀ i < r.owners.length, ((r.costs.getD i default).length : Int) = r.slots
  diag : ∀ i < r.owners.length, 0 ≤ (r.costs.getD i default).getD i default
  cost : ∀ i < r.owners.length, ∀ c ∈ r.costs.getD i default, -1 ≤ c ∧ c ≤ 1048576
theorem Val.of {r : XRound} (h : valB r = true) : Val r := by
  unfold valB at h
  simp only [Bool.and_eq_true, List.all_eq_true, List.mem_range] at h
  obtain ⟨s1, s2, s3, s4⟩ := shape_props h.1
  have hb : ∀ i < r.owners.length, _ := fun i hi => h.2 i hi
  refine ⟨s1, s2, s3, s4, fun i hi => ?_, fun i hi => ?_, fun i hi => ?_, fun i hi c hc => ?_⟩ <;> (have := hb i hi; unfold rowBad at this; simp only [Bool.not_eq_true', Bool.or_eq_false_iff, Bool.not_eq_false', decide_eq_false_iff_not, decide_eq_true_eq, List.any_eq_false] at this; obtain ⟨⟨p1, p2⟩, p3, p4, p5⟩ := this)
  · omega
  · exact p3
  · omega
  · have := p5 c hc; simp [badC] at this; omega
end Go.Fx



/- Chapter 37: validity, few, assignments, costs. -/
set_option linter.unusedSimpArgs false
set_option linter.unusedVariables false
namespace Go.Fx
open Go Go.RowKit
theorem any_range' {p : Nat → Bool} (i n : Nat) : (List.range' i (n + 1)).any p = (p i || (List.range' (i + 1) n).any p) := by rw [List.range'_succ]; rfl
theorem getD_getElem {α} [Inhabited α] {l : List α} {i : Nat} (h : i < l.length) : l.getD i default = l[i] := by simp [h]
theorem getD_mem {α} [Inhabited α] {l : List α} {i : Nat} (h : i < l.length) : l.getD i default ∈ l := by rw [getD_getElem h]; exact List.getElem_mem _
def badK (row : List Int) (i k : Nat) : Bool := decide (row.getD k default < -1) || (decide (1048576 < row.getD k default) || (decide (k = i) && decide (row.getD k default < 0)))
theorem badK_any {row : List Int} {i : Nat} (h : i < row.length) : (List.range' 0 row.length).any (badK row i) = (decide (row.getD i default < 0) || row.any badC) := by
  rw [Bool.eq_iff_iff]
  simp only [List.any_eq_true, Bool.or_eq_true, decide_eq_true_eq, List.mem_range'_1, Nat.zero_le, true_and, Nat.zero_add]
  constructor
  · rintro ⟨k, hk, hb⟩
    unfold badK at hb
    simp only [Bool.or_eq_true, Bool.and_eq_true, decide_eq_true_eq] at hb
    rcases hb with hb | hb | ⟨rfl, hb⟩
    · exact .inr ⟨_, getD_mem hk, by unfold badC; simp only [← getD_getElem hk, hb, decide_true, Bool.true_or, Bool.or_true]⟩
    · exact .inr ⟨_, getD_mem hk, by unfold badC; simp only [← getD_getElem hk, hb, decide_true, Bool.true_or, Bool.or_true]⟩
    · exact .inl hb
  · rintro (hb | ⟨c, hc, hb⟩)
    · exact ⟨i, h, by simp only [badK, hb, decide_true, Bool.and_true, Bool.or_true]⟩
    · obtain ⟨k, hk, rfl⟩ := List.getElem_of_mem hc
      refine ⟨k, hk, ?_⟩
      unfold badC at hb; simp only [Bool.or_eq_true, decide_eq_true_eq] at hb
      unfold badK; rw [getD_getElem hk]
      rcases hb with hb | hb <;> simp [hb]
theorem m38_eq (r : XRound) (hs : smXRound r) : m38_overflightref37_Valid r = some (valB r) := by
  have hcl : r.owners.length < 9223372036854775807 := by have := hs.2.1.1; omega
  unfold m38_overflightref37_Valid
  have main : shapeB r = true → loop1 (m38_overflightref37_Valid_B0 r) (((r.owners.length : Int) - 0).toNat + 1) 0 = some ((List.range r.owners.length).all (fun i => !rowBad r i)) := by
    intro hsh
    obtain ⟨s1, s2, s3, s4⟩ := shape_props hsh
    rw [all_range]
    refine up_listI (fun i t => some ((List.range' i t.length).all (fun i => !rowBad r i))) r.owners hcl ?_ ?_ (show r.owners.length < ((r.owners.length : Int) - 0).toNat + 1 by omega)
    · intro sf; unfold m38_overflightref37_Valid_B0; simp
    · intro sf i x t h1 h2 h3 ih
      have hrow : r.costs.getD i default ∈ r.costs := getD_mem (by omega)
      have hrl := (hs.2.2.2 _ hrow)
      rw [List.length_cons, all_range']
      unfold m38_overflightref37_Valid_B0
      have c1 : (i : Int) < (r.owners.length : Int) := by omega
      have g0 : r.costs.getD (i : Int).toNat default = r.costs.getD i default := rfl
      have g1 : r.owners.getD (i : Int).toNat default = r.owners.getD i default := rfl
      simp only [decide_eq_true c1, cond_true, jn_eq, g0, g1]
      have inner : ∀ row : List Int, row = r.costs.getD i default → (row.length : Int) = r.slots → loop1 (m38_overflightref37_Valid_B1 r (i : Int) sf) ((r.slots - 0).toNat + 1) 0 = bif (decide (row.getD i default < 0) || row.any badC) then some false else sf (IntKind.wrap .i64 ((i : Int) + 1)) := by
        intro row hr hl
        rw [← badK_any (row := row) (i := i) (by omega)]
        refine up_listI (fun k t => bif (List.range' k t.length).any (badK row i) then some false else sf (IntKind.wrap .i64 ((i : Int) + 1))) row (by omega) ?_ ?_ (by omega)
        · intro sg; unfold m38_overflightref37_Valid_B1; simp [hl]
        · intro sg k y u h1 h2 h3 ih
          have g0 : r.costs.getD (i : Int).toNat default = row := by rw [hr]; rfl
          have g2 : row.getD (k : Int).toNat default = row.getD k default := rfl
          have c1 : (k : Int) < r.slots := by omega
          have e1 : ((k : Int) = (i : Int)) = (k = i) := by apply propext; omega
          rw [List.length_cons, any_range']
          unfold m38_overflightref37_Valid_B1
          simp only [c1, decide_true, cond_true, jn_eq, g0, g2, h3, ih, e1]
          rw [ck_eq (by omega), ck_eq (by omega)]
          have hb : badK row i k = (decide (row.getD k default < -1) || (decide (1048576 < row.getD k default) || (decide (k = i) && decide (row.getD k default < 0)))) := rfl
          rw [hb]
          have a1 : (0 : Int) ≤ i ∧ (i : Int) < r.costs.length := by omega
          have a2 : (0 : Int) ≤ k ∧ (k : Int) < row.length := by omega
          generalize (List.range' (k + 1) u.length).any (badK row i) = rest
          generalize row.getD k default = c
          simp only [ck_eq a1, ck_eq a2]
          by_cases q1 : c < -1
          · simp [q1]
          by_cases q2 : 1048576 < c
          · simp [q1, q2]
          by_cases q3 : k = i
          · by_cases q4 : c < 0
            · simp only [q1, q2, q3, q4]; rfl
            · simp only [q1, q2, q3, q4]; rfl
          · simp [q1, q2, q3]
      have hb : rowBad r i = ((decide (r.owners.getD i default < 0) || decide (7 < r.owners.getD i default)) || (!decide (((r.costs.getD i default).length : Int) = r.slots) || (decide ((r.costs.getD i default).getD i default < 0) || (r.costs.getD i default).any badC))) := rfl
      rw [hb]
      replace inner := inner _ rfl
      rw [h3] at inner
      generalize (List.range' (i + 1) t.length).all (fun i => !rowBad r i) = rest at *
      clear hb hrl hrow g0 g1 hs
      generalize r.costs.getD i default = row at *
      generalize r.owners.getD i default = o at *
      generalize row.getD i default = dg at *
      generalize row.any badC = bb at *
      have a1 : (0 : Int) ≤ i ∧ (i : Int) < r.owners.length := by omega
      have a2 : (0 : Int) ≤ i ∧ (i : Int) < r.costs.length := by omega
      simp only [ck_eq a1, ck_eq a2]
      by_cases k1 : o < 0
      · simp [k1]
      by_cases k2 : 7 < o
      · have : 8 ≤ o := by omega
        simp [k1, k2, this, ck_eq a1]
      have k2' : ¬ 8 ≤ o := by omega
      by_cases k3 : (row.length : Int) = r.slots
      · simp only [k1, k2, k2', k3, ck_eq a1, ck_eq a2, inner k3, ih, ne_eq, not_true_eq_false, decide_false, cond_false]
        generalize decide (dg < 0) = d1
        cases d1 <;> cases bb <;> rfl
      · simp [k1, k2, k2', k3, ck_eq a1, ck_eq a2]
  simp only [jn_eq]
  unfold valB
  cases hsh : shapeB r
  · unfold shapeB at hsh
    by_cases k1 : r.slots < 1
    · simp [k1]
    by_cases k2 : 8 < r.slots
    · simp [k1, k2]
    by_cases k3 : r.slots < (r.owners.length : Int)
    · simp [k1, k2, k3]
    by_cases k4 : (r.costs.length : Int) = (r.owners.length : Int)
    · simp [k1, k2, k3, k4] at hsh
    · simp [k1, k2, k3, k4]
  · have hm := main hsh
    obtain ⟨s1, s2, s3, s4⟩ := shape_props hsh
    have k1 : ¬ r.slots < 1 := by omega
    have k2 : ¬ 8 < r.slots := by omega
    have k3 : ¬ r.slots < (r.owners.length : Int) := by omega
    have k4 : (r.costs.length : Int) = (r.owners.length : Int) := by omega
    simp only [k1, k2, k3, k4, decide_false, cond_false, ne_eq, not_true_eq_false, Bool.true_and]
    exact hm
def fewB (r : XRound) : Bool := !(decide (12 < (r.owners.length : Int)) || decide (12 < (r.costs.length : Int))) && (r.costs.all (fun c => !decide (20 < (c.length : Int))) && (!valB r || decide ((r.owners.length : Int) ≤ 5)))
theorem m16_eq (r : XRound) (hs : smXRound r) : m16_overflightref37_Few r = some (fewB r) := by
  have hcl : r.costs.length < 9223372036854775807 := by have := hs.2.2.1; omega
  unfold m16_overflightref37_Few
  have main : loop1 (m16_overflightref37_Few_B0 r) (((r.costs.length : Int) - 0).toNat + 1) 0 = some (r.costs.all (fun c => !decide (20 < (c.length : Int))) && (!valB r || decide ((r.owners.length : Int) ≤ 5))) := by
    refine up_list0 (fun t => some (t.all (fun c => !decide (20 < (c.length : Int))) && (!valB r || decide ((r.owners.length : Int) ≤ 5)))) r.costs hcl ?_ ?_ (show r.costs.length < ((r.costs.length : Int) - 0).toNat + 1 by omega)
    · intro sf; unfold m16_overflightref37_Few_B0; simp only [m38_eq r hs]; cases valB r <;> simp
    · intro sf i x t h1 h2 h3 ih
      unfold m16_overflightref37_Few_B0
      have g0 : r.costs.getD (i : Int).toNat default = x := getD_of h2
      have c1 : (i : Int) < (r.costs.length : Int) := by omega
      simp only [c1, decide_true, cond_true, g0, h3, ih, List.all_cons]
      rw [ck_eq (by simp)]
      cases decide (20 < (x.length : Int)) <;> simp
  simp only [jn_eq, main]
  unfold fewB
  cases decide (12 < (r.owners.length : Int)) <;> cases decide (12 < (r.costs.length : Int)) <;> simp
/-- what flight f costs at slot s -/
def cst (r : XRound) (f s : Int) : Int := (r.costs.getD f.toNat default).getD s.toNat default
def ownr (r : XRound) (f : Int) : Int := r.owners.getD f.toNat default
/-- slot i of s is as it should be -/
def okS (r : XRound) (s : List Int) (i : Nat) : Bool := !(decide (s.getD i default < 0) || (decide (r.slots ≤ s.getD i default) || (decide (cst r i (s.getD i default) < 0) || (s.take i).any (fun x => decide (s.getD i default = x)))))
def asgB (r : XRound) (s : List Int) : Bool := decide (s.length = r.owners.length) && (List.range s.length).all (okS r s)
theorem m47_eq (r : XRound) (s : List Int) (hv : Val r) (hl : s.length < 9223372036854775807) : m47_coalition_allowed r s = some (asgB r s) := by
  unfold m47_coalition_allowed asgB
  by_cases hc : s.length = r.owners.length
  · have : ¬ (s.length : Int) ≠ r.owners.length := by omega
    simp only [this, decide_eq_true hc, decide_false, cond_false, Bool.true_and]
    rw [all_range]
    refine up_listI (fun i t => some ((List.range' i t.length).all (okS r s))) s hl ?_ ?_ (show s.length < ((s.length : Int) - 0).toNat + 1 by omega)
    · intro sf; unfold m47_coalition_allowed_B0; simp
    · intro sf i x t h1 h2 h3 ih
      rw [List.length_cons, all_range']
      unfold m47_coalition_allowed_B0
      have g0 : s.getD (i : Int).toNat default = s.getD i default := rfl
      have c1 : (i : Int) < (s.length : Int) := by omega
      have c2 : (0 : Int) ≤ i ∧ (i : Int) < s.length := by omega
      have c3 : (0 : Int) ≤ i ∧ (i : Int) ≤ s.length := by omega
      have c4 : (0 : Int) ≤ i ∧ (i : Int) < r.costs.length := by have := hv.s4; omega
      have e1 : (s.drop 0).take ((i : Int).toNat - 0) = s.take i := by simp
      have hm := m43_eq (s.take i) (s.getD i default) (by rw [List.length_take]; omega)
      have e2 : (r.costs.getD (i : Int).toNat default).getD (s.getD i default).toNat default = cst r i (s.getD i default) := rfl
      have hr := hv.row i (by omega)
      have hr' : ((r.costs.getD (i : Int).toNat default).length : Int) = r.slots := hr
      have hb : okS r s i = !(decide (s.getD i default < 0) || (decide (r.slots ≤ s.getD i default) || (decide (cst r i (s.getD i default) < 0) || (s.take i).any (fun x => decide (s.getD i default = x))))) := rfl
      simp only [c1, decide_true, cond_true, jn_eq, ck_eq c2, g0, h3, ih, e1, hm, ck_eq c3, ck_eq c4, e2, hr', hb, Option.bind_some]
      generalize cst r i (s.getD i default) = c
      generalize (s.take i).any (fun x => decide (s.getD i default = x)) = b
      generalize s.getD i default = v
      by_cases k1 : v < 0
      · simp [k1]
      by_cases k2 : r.slots ≤ v
      · simp [k1, k2]
      have c5 : (0 : Int) ≤ v ∧ v < r.slots := by omega
      simp only [ck_eq c5]
      by_cases k3 : c < 0
      · simp [k1, k2, k3]
      · cases b <;> simp [k1, k2, k3]
  · have : (s.length : Int) ≠ r.owners.length := by omega
    simp [this, hc]
theorem m24_eq (r : XRound) (s : List Int) (hs : smXRound r) (hl : s.length < 9223372036854775807) : m24_coalition_Allowed r s = some (bif valB r then (asgB r s, 0) else (false, 370)) := by
  unfold m24_coalition_Allowed
  rw [m22_eq r hs]
  cases hv : valB r
  · rfl
  · simp [m47_eq r s (Val.of hv) hl]
def goodB (r : XRound) (s : List Int) : Bool := valB r && asgB r s
theorem m39_eq (r : XRound) (s : List Int) (hs : smXRound r) (hl : s.length < 9223372036854775807) : m39_coalition_check r s = some (bif goodB r s then 0 else 370) := by
  unfold m39_coalition_check
  rw [m24_eq r s hs hl]
  unfold goodB
  cases hv : valB r
  · rfl
  · cases ha : asgB r s <;> rfl
def ownL (r : XRound) : List Int := (List.range r.owners.length).map fun i : Nat => (i : Int)
theorem m42_eq (r : XRound) (hv : Val r) : m42_coalition_own r = some (ownL r) := by
  unfold m42_coalition_own ownL
  have hn : r.owners.length ≤ 8 := by have := hv.s3; have := hv.s2; omega
  rw [List.range_eq_range']
  refine up_listB (fun i s => s.length = i) (fun i t s => some (s ++ (List.range' i t.length).map fun i : Nat => (i : Int))) r.owners (by omega) ?_ ?_ (by omega) (by rfl)
  · intro sf s hI; unfold m42_coalition_own_B0; simp
  · intro sf i s x t h1 h2 h3 hI ih
    unfold m42_coalition_own_B0
    have c1 : (i : Int) < (r.owners.length : Int) := by omega
    simp only [c1, decide_true, cond_true, h3]
    rw [ck_eq (by simp [hI]; omega), ih _ (by simp [hI])]
    simp [List.range'_succ]
end Go.Fx



/- Chapter 37: costs, worse. -/
set_option linter.unusedSimpArgs false
set_option linter.unusedVariables false
namespace Go.Fx
open Go Go.RowKit
theorem map_range_set {f g : Nat → Int} {k n : Nat} {v : Int} (hk : k < n) (hv : g k = v) (h : ∀ j, j ≠ k → g j = f j) : ((List.range n).map f).set k v = (List.range n).map g := by
  apply List.ext_getElem
  · simp
  · intro i h1 h2
    simp at h1
    by_cases e : k = i
    · subst e; simp [hv]
    · rw [List.getElem_set_ne e]; simp [h i (Ne.symm e)]
theorem getD_map_range {f : Nat → Int} {k n : Nat} (hk : k < n) : ((List.range n).map f).getD k default = f k := by simp [hk]
theorem csum_bound {own : Int → Int} {cost : Int → Int → Int} {o b : Int} {l : List (Int × Int)} (hb : 0 ≤ b) (h : ∀ p ∈ l, -b ≤ cost p.1 p.2 ∧ cost p.1 p.2 ≤ b) : -(b * l.length) ≤ csum own cost o l ∧ csum own cost o l ≤ b * l.length := by
  induction l with
  | nil => simp [csum]
  | cons p t ih =>
    obtain ⟨f, s⟩ := p
    have := ih fun p hp => h p (List.mem_cons_of_mem _ hp)
    have h1 := h (f, s) (List.mem_cons_self ..)
    simp only at h1
    simp only [csum, List.length_cons]
    have e : b * ((t.length + 1 : Nat) : Int) = b * t.length + b := by rw [Int.natCast_add, Int.mul_add]; simp
    rw [e]
    split <;> omega
/-- the costs of all airlines -/
def cvec (r : XRound) (fl s : List Int) : List Int := (List.range 8).map fun o : Nat => csum (ownr r) (cst r) (o : Int) (fl.zip s)
/-- flight f may have slot s -/
def fits (r : XRound) (f s : Int) : Prop := 0 ≤ f ∧ f < r.owners.length ∧ 0 ≤ s ∧ s < r.slots
theorem fits.cst {r : XRound} {f s : Int} (hv : Val r) (h : fits r f s) : -1 ≤ cst r f s ∧ cst r f s ≤ 1048576 := by
  obtain ⟨a, b, c, d⟩ := h
  have hr := hv.row f.toNat (by omega)
  exact hv.cost f.toNat (by omega) _ (getD_mem (by omega))
theorem zip_take_succ {l m : List Int} {i : Nat} (h1 : i < l.length) (h2 : i < m.length) : (l.zip m).take (i + 1) = (l.zip m).take i ++ [(l.getD i default, m.getD i default)] := by
  rw [List.take_succ_eq_append_getElem (by simp; omega)]
  simp [h1, h2]
theorem m41_eq (r : XRound) (fl s : List Int) (hv : Val r) (hl : fl.length ≤ 20) (hls : fl.length ≤ s.length) (hf : ∀ i < fl.length, fits r (fl.getD i default) (s.getD i default)) : m41_coalition_costs r fl s = some (cvec r fl s) := by
  unfold m41_coalition_costs
  rw [ck_eq (by decide)]
  have hz : (fl.zip s).take fl.length = fl.zip s := by rw [List.take_of_length_le (by simp; omega)]
  refine up_listB (fun i c => c = (List.range 8).map fun o : Nat => csum (ownr r) (cst r) (o : Int) ((fl.zip s).take i)) (fun i t c => some (cvec r fl s)) fl (by omega) ?_ ?_ (by omega) (by rfl)
  · intro sf c hI; unfold m41_coalition_costs_B0; rw [hz] at hI; simp [hI, cvec]
  · intro sf i c x t h1 h2 h3 hI ih
    unfold m41_coalition_costs_B0
    obtain ⟨a1, a2, a3, a4⟩ := hf i h1
    have g0 : fl.getD (i : Int).toNat default = fl.getD i default := rfl
    have g1 : s.getD (i : Int).toNat default = s.getD i default := rfl
    have hc := fits.cst hv (hf i h1)
    have hbound : ∀ o, -(1048576 * 20) ≤ csum (ownr r) (cst r) o ((fl.zip s).take i) ∧ csum (ownr r) (cst r) o ((fl.zip s).take i) ≤ 1048576 * 20 := by
      intro o
      have := csum_bound (own := ownr r) (cost := cst r) (o := o) (b := 1048576) (l := (fl.zip s).take i) (by omega) (fun p hp => by
        obtain ⟨j, hj, rfl⟩ := List.getElem_of_mem (List.mem_of_mem_take hp)
        simp at hj
        have := fits.cst hv (hf j (by omega))
        rw [getD_getElem (by omega), getD_getElem (by omega)] at this
        simp only [List.getElem_zip]; omega)
      have hle : ((fl.zip s).take i).length ≤ 20 := by simp; omega
      have : (1048576 : Int) * ((fl.zip s).take i).length ≤ 1048576 * 20 := by omega
      omega
    have e1 : (r.costs.getD (fl.getD i default).toNat default).getD (s.getD i default).toNat default = cst r (fl.getD i default) (s.getD i default) := rfl
    have e2 : r.owners.getD (fl.getD i default).toNat default = ownr r (fl.getD i default) := rfl
    have hro := hv.row (fl.getD i default).toNat (by omega)
    have ho := hv.own (fl.getD i default).toNat (by omega)
    rw [e2] at ho
    have hs4 := hv.s4
    simp only [show (i : Int) < (fl.length : Int) by omega, decide_true, cond_true, g0, g1, e1, e2]
    have hlen : c.length = 8 := by rw [hI]; simp
    have c1 : (0 : Int) ≤ i ∧ (i : Int) < fl.length := by omega
    have c2 : (0 : Int) ≤ fl.getD i default ∧ fl.getD i default < r.owners.length := ⟨a1, a2⟩
    have c3 : (0 : Int) ≤ ownr r (fl.getD i default) ∧ ownr r (fl.getD i default) < c.length := by omega
    have c4 : (0 : Int) ≤ fl.getD i default ∧ fl.getD i default < r.costs.length := by omega
    have c5 : (0 : Int) ≤ i ∧ (i : Int) < s.length := by omega
    have c6 : (0 : Int) ≤ s.getD i default ∧ s.getD i default < ((r.costs.getD (fl.getD i default).toNat default).length : Int) := by omega
    have cs := zip_take_succ h1 (show i < s.length by omega)
    simp only [true_and, ck_True, ck_eq c1, ck_eq c2, ck_eq c3, ck_eq c4, ck_eq c5, ck_eq c6, h3]
    refine ih _ ?_
    generalize fl.getD i default = f at *
    generalize s.getD i default = v at *
    have hk : ((ownr r f).toNat : Int) = ownr r f := by omega
    have hg : c.getD (ownr r f).toNat default = csum (ownr r) (cst r) (ownr r f) ((fl.zip s).take i) := by rw [hI, getD_map_range (by omega), hk]
    rw [hg, wrap_i64 (by have := hbound (ownr r f); omega) (by have := hbound (ownr r f); omega), hI]
    refine map_range_set (by omega) ?_ ?_
    · rw [cs, csum_append, hk]; simp [csum]
    · intro j hj; rw [cs, csum_append]; simp [csum]; omega
theorem asg_props {r : XRound} {s : List Int} (h : asgB r s = true) : s.length = r.owners.length ∧ ∀ i < s.length, 0 ≤ s.getD i default ∧ s.getD i default < r.slots ∧ 0 ≤ cst r i (s.getD i default) ∧ ∀ j < i, s.getD j default ≠ s.getD i default := by
  unfold asgB at h
  simp only [Bool.and_eq_true, decide_eq_true_eq, List.all_eq_true, List.mem_range] at h
  refine ⟨h.1, fun i hi => ?_⟩
  have := h.2 i hi
  unfold okS at this
  simp only [Bool.not_eq_true', Bool.or_eq_false_iff, decide_eq_false_iff_not, List.any_eq_false, decide_eq_true_eq] at this
  obtain ⟨b1, b2, b3, b4⟩ := this
  refine ⟨by omega, by omega, by omega, fun j hj e => b4 (s.getD j default) ?_ e.symm⟩
  have : (s.take i).getD j default ∈ s.take i := getD_mem (by rw [List.length_take]; omega)
  rwa [show (s.take i).getD j default = s.getD j default from by simp [hj]] at this
theorem ownL_len (r : XRound) : (ownL r).length = r.owners.length := by simp [ownL]
theorem ownL_getD {r : XRound} {i : Nat} (h : i < r.owners.length) : (ownL r).getD i default = i := by simp [ownL, h]
theorem fits_asg {r : XRound} {s : List Int} (hv : Val r) (h : asgB r s = true) : ∀ i < (ownL r).length, fits r ((ownL r).getD i default) (s.getD i default) := by
  intro i hi
  rw [ownL_len] at hi
  obtain ⟨e, h2⟩ := asg_props h
  obtain ⟨b1, b2, _, _⟩ := h2 i (by omega)
  rw [ownL_getD hi]
  exact ⟨by omega, by omega, b1, b2⟩
theorem fits_own {r : XRound} (hv : Val r) : ∀ i < (ownL r).length, fits r ((ownL r).getD i default) ((ownL r).getD i default) := by
  intro i hi
  rw [ownL_len] at hi
  rw [ownL_getD hi]
  have := hv.s3
  exact ⟨by omega, by omega, by omega, by omega⟩
theorem Val.n8 {r : XRound} (hv : Val r) : r.owners.length ≤ 8 := by have := hv.s3; have := hv.s2; omega
theorem cvec_asg {r : XRound} {s : List Int} (hv : Val r) (h : asgB r s = true) : m41_coalition_costs r (ownL r) s = some (cvec r (ownL r) s) :=
  m41_eq r _ s hv (by have := hv.n8; rw [ownL_len]; omega) (by rw [ownL_len, (asg_props h).1]; exact Nat.le_refl _) (fits_asg hv h)
theorem cvec_own {r : XRound} (hv : Val r) : m41_coalition_costs r (ownL r) (ownL r) = some (cvec r (ownL r) (ownL r)) :=
  m41_eq r _ _ hv (by have := hv.n8; rw [ownL_len]; omega) (Nat.le_refl _) (fits_own hv)
theorem good_props {r : XRound} {s : List Int} (h : goodB r s = true) : Val r ∧ asgB r s = true := by
  unfold goodB at h; simp only [Bool.and_eq_true] at h; exact ⟨Val.of h.1, h.2⟩
theorem m18_eq (r : XRound) (s : List Int) (hs : smXRound r) (hl : s.length < 9223372036854775807) : m18_coalition_Costs r s = some (bif goodB r s then (cvec r (ownL r) s, 0) else ([], 370)) := by
  unfold m18_coalition_Costs
  rw [m39_eq r s hs hl]
  cases hg : goodB r s
  · rfl
  · obtain ⟨hv, ha⟩ := good_props hg
    simp [m42_eq r hv, cvec_asg hv ha]
/-- the airlines that are worse off -/
def worseL (r : XRound) (s : List Int) : List Int := ((List.range 8).filter fun i => decide ((cvec r (ownL r) (ownL r)).getD i default < (cvec r (ownL r) s).getD i default)).map fun i : Nat => (i : Int)
theorem filter_range' {p : Nat → Bool} (i n : Nat) : (List.range' i (n + 1)).filter p = (if p i then [i] else []) ++ (List.range' (i + 1) n).filter p := by
  rw [List.range'_succ, List.filter_cons]; split <;> simp
theorem m23_eq (r : XRound) (s : List Int) (hs : smXRound r) (hl : s.length < 9223372036854775807) : m23_coalition_Worse r s = some (bif goodB r s then (worseL r s, 0) else ([], 370)) := by
  unfold m23_coalition_Worse
  rw [m39_eq r s hs hl]
  cases hg : goodB r s
  · rfl
  · obtain ⟨hv, ha⟩ := good_props hg
    simp only [cond_true, ne_eq, not_true_eq_false, decide_false, Option.bind_some, m42_eq r hv, cvec_asg hv ha, cvec_own hv, cond_false]
    unfold worseL
    rw [List.range_eq_range']
    have e1 : (cvec r (ownL r) (ownL r)).length = 8 := by simp [cvec]
    have e2 : (cvec r (ownL r) s).length = 8 := by simp [cvec]
    generalize cvec r (ownL r) (ownL r) = b at *
    generalize cvec r (ownL r) s = a at *
    rw [← e2]
    refine up_listB (fun i l => l.length ≤ i) (fun i t l => some (l ++ ((List.range' i t.length).filter fun i => decide (b.getD i default < a.getD i default)).map (fun i : Nat => (i : Int)), 0)) a (by omega) ?_ ?_ (by omega) (by exact Nat.le_refl _)
    · intro sf l hI; unfold m23_coalition_Worse_B0; simp
    · intro sf i l x t h1 h2 h3 hI ih
      unfold m23_coalition_Worse_B0
      have g0 : a.getD (i : Int).toNat default = a.getD i default := rfl
      have g1 : b.getD (i : Int).toNat default = b.getD i default := rfl
      have c1 : (0 : Int) ≤ i ∧ (i : Int) < a.length := by omega
      have c2 : (0 : Int) ≤ i ∧ (i : Int) < b.length := by omega
      have c3 : (l.length + [(i : Int)].length) * 8 ≤ 140737488355328 := by simp; omega
      simp only [decide_eq_true c1.2, cond_true, g0, g1, h3, ck_eq c1, ck_eq c2, ck_eq c3]
      rw [show (x :: t).length = t.length + 1 from rfl, filter_range']
      by_cases q : b.getD i default < a.getD i default
      · rw [decide_eq_true q, cond_true, ih _ (by simp; omega)]; simp
      · rw [decide_eq_false q, cond_false, ih _ (by omega)]; simp
end Go.Fx



/- Chapter 37: deviations and what blocks. -/
set_option linter.unusedSimpArgs false
set_option linter.unusedVariables false
namespace Go.Fx
open Go Go.RowKit
/-- the flights of a group -/
def flB (r : XRound) (group : List Int) : List Int := (ownL r).filter fun f => group.any fun x => decide (ownr r f = x)
theorem mem_ownL {r : XRound} {f : Int} : f ∈ ownL r ↔ 0 ≤ f ∧ f < r.owners.length := by
  unfold ownL; simp only [List.mem_map, List.mem_range]
  constructor
  · rintro ⟨i, hi, rfl⟩; omega
  · rintro ⟨h1, h2⟩; exact ⟨f.toNat, by omega, by omega⟩
theorem mem_flB {r : XRound} {g : List Int} {f : Int} : f ∈ flB r g ↔ (0 ≤ f ∧ f < r.owners.length) ∧ ownr r f ∈ g := by
  unfold flB; rw [List.mem_filter, mem_ownL]
  simp only [List.any_eq_true, decide_eq_true_eq, exists_eq_right']
theorem flB_len (r : XRound) (g : List Int) : (flB r g).length ≤ r.owners.length := by have := List.length_filter_le (fun f => g.any fun x => decide (ownr r f = x)) (ownL r); rwa [ownL_len] at this
def okf (r : XRound) (fl : List Int) (n : Nat) (s : Int) : Bool := decide (0 ≤ cst r (fl.getD n default) s)
def devL (r : XRound) (fl : List Int) : List (List Int) := dv fl (okf r fl) fl.length []
theorem contains_any (b : List Int) (s : Int) : (b.any fun x => decide (s = x)) = b.contains s := by
  rw [Bool.eq_iff_iff]; simp
theorem dev_eq (r : XRound) (fl : List Int) (hv : Val r) (hl : fl.length ≤ 8) (hf : ∀ f ∈ fl, 0 ≤ f ∧ f < r.owners.length) : ∀ (N : Nat) (b : List Int), b.length ≤ fl.length → fl.length - b.length < N → fixO (fun fx20 x21 => m80_coalition_deviations_1_1 x21 fl r fx20) N b = some (dv fl (okf r fl) (fl.length - b.length) b) := by
  intro N
  induction N with
  | zero => intro b _ h; omega
  | succ N ih =>
    intro b hb hN
    show m80_coalition_deviations_1_1 b fl r (fixO (fun fx20 x21 => m80_coalition_deviations_1_1 x21 fl r fx20) N) = _
    generalize fixO (fun fx20 x21 => m80_coalition_deviations_1_1 x21 fl r fx20) N = FX at ih ⊢
    unfold m80_coalition_deviations_1_1
    by_cases q : b.length = fl.length
    · have q' : (b.length : Int) = fl.length := by omega
      rw [decide_eq_true q', cond_true]
      unfold m58_slices_Cloneint_int_
      rw [ck_eq (by simp; omega), show fl.length - b.length = 0 by omega]
      rfl
    · have q' : ¬ (b.length : Int) = fl.length := by omega
      rw [decide_eq_false q', cond_false]
      obtain ⟨k, hk⟩ : ∃ k, fl.length - b.length = k + 1 := ⟨fl.length - b.length - 1, by omega⟩
      rw [hk]
      refine up_list0 (fun t => some (t.flatMap fun s => bif okf r fl b.length s && !b.contains s then dv fl (okf r fl) k (b ++ [s]) else [])) fl (by omega) ?_ ?_ (by omega)
      · intro sf; unfold m80_coalition_deviations_1_1_B0; simp
      · intro sf i x t h1 h2 h3 ih2
        have hx : fl.getD (i : Int).toNat default = x := getD_of h2
        have hxm : x ∈ fl := List.mem_of_getElem? h2
        have hbm : fl.getD b.length default ∈ fl := getD_mem (by omega)
        have a1 := hf _ hxm
        have a2 := hf _ hbm
        have hrow := hv.row (fl.getD b.length default).toNat (by omega)
        unfold m80_coalition_deviations_1_1_B0
        have c1 : (0 : Int) ≤ i ∧ (i : Int) < fl.length := by omega
        have c2 : (0 : Int) ≤ (b.length : Int) ∧ (b.length : Int) < fl.length := by omega
        have c3 : (0 : Int) ≤ fl.getD b.length default ∧ fl.getD b.length default < r.costs.length := by have := hv.s4; omega
        have c4 : (0 : Int) ≤ x ∧ x < ((r.costs.getD (fl.getD b.length default).toNat default).length : Int) := by have := hv.s3; omega
        have e1 : (r.costs.getD (fl.getD b.length default).toNat default).getD x.toNat default = cst r (fl.getD b.length default) x := rfl
        simp only [decide_eq_true c1.2, cond_true, ck_eq c1, hx, ck_eq c2, ck_eq c3, ck_eq c4]
        rw [List.flatMap_cons, e1, h3, ih2]
        have hok : okf r fl b.length x = decide (0 ≤ cst r (fl.getD b.length default) x) := rfl
        rw [hok]
        cases decide (0 ≤ cst r (fl.getD b.length default) x)
        · rfl
        · rw [cond_true, Bool.true_and, m43_eq b x (by omega), contains_any]
          cases hc : b.contains x
          · have c5 : (0 : Int) ≤ (b.length : Int) ∧ (b.length : Int) ≤ (b.length : Int) := by omega
            have e2 : (b.drop 0).take (b.length - 0) = b := by simp
            have c6 : (b.length + [x].length) * 8 ≤ 140737488355328 := by simp; omega
            have c7 : 0 < [x].length := by simp
            simp only [Option.bind_some, Bool.not_false, cond_true, ck_eq c5, e2, ck_eq c6, ck_eq c7]
            rw [ih (b ++ [x]) (by simp; omega) (by simp; omega)]
            rw [show fl.length - (b ++ [x]).length = k by simp; omega]
            rfl
          · rfl
theorem m63_eq (r : XRound) (fl : List Int) (hv : Val r) (hl : fl.length ≤ 8) (hf : ∀ f ∈ fl, 0 ≤ f ∧ f < r.owners.length) : m63_coalition_deviations r fl = some (devL r fl) := by
  unfold m63_coalition_deviations m79_coalition_deviations_1
  rw [dev_eq r fl hv hl hf 1000000 [] (by simp) (by simp; omega)]
  simp [apl, devL]
/-- x is better for all airlines of the group -/
def bet (r : XRound) (than group fl x : List Int) : Bool := group.all fun o => decide ((cvec r fl x).getD o.toNat default < than.getD o.toNat default)
def blk (r : XRound) (than group : List Int) : List Int × Bool := match (devL r (flB r group)).find? (bet r than group (flB r group)) with
  | some x => (x, true)
  | none => ([], false)
theorem gd_get {fl : List Int} {ok : Nat → Int → Bool} : ∀ {t b : List Int}, gd fl ok b t ↔ ∀ i < t.length, t.getD i default ∈ fl ∧ ok (b.length + i) (t.getD i default) = true ∧ t.getD i default ∉ b ∧ ∀ j < i, t.getD j default ≠ t.getD i default := by
  intro t
  induction t with
  | nil => intro b; simp [gd]
  | cons s t ih =>
    intro b
    unfold gd
    rw [ih]
    constructor
    · rintro ⟨h1, h2, h3, h4⟩ i hi
      cases i with
      | zero => exact ⟨h1, h2, h3, fun j hj => by omega⟩
      | succ i =>
        obtain ⟨k1, k2, k3, k4⟩ := h4 i (by simpa using hi)
        rw [List.getD_cons_succ]
        refine ⟨k1, ?_, fun h => k3 (List.mem_append_left _ h), fun j hj => ?_⟩
        · rw [← k2]; congr 1; simp; omega
        · cases j with
          | zero => rw [List.getD_cons_zero]; intro e; exact k3 (List.mem_append_right _ (by simp [e]))
          | succ j => rw [List.getD_cons_succ]; exact k4 j (by omega)
    · intro h
      obtain ⟨a1, a2, a3, _⟩ := h 0 (by simp)
      refine ⟨a1, a2, a3, fun i hi => ?_⟩
      obtain ⟨k1, k2, k3, k4⟩ := h (i + 1) (by simpa using hi)
      rw [List.getD_cons_succ] at k1 k2 k3 k4
      refine ⟨k1, ?_, fun hm => ?_, fun j hj => ?_⟩
      · rw [← k2]; congr 1; simp; omega
      · rcases List.mem_append.1 hm with hm | hm
        · exact k3 hm
        · have := k4 0 (by omega); rw [List.getD_cons_zero] at this; exact this (List.mem_singleton.1 hm).symm
      · have := k4 (j + 1) (by omega); rwa [List.getD_cons_succ] at this
theorem mem_devL {r : XRound} {fl x : List Int} : x ∈ devL r fl ↔ x.length = fl.length ∧ ∀ i < x.length, x.getD i default ∈ fl ∧ 0 ≤ cst r (fl.getD i default) (x.getD i default) ∧ ∀ j < i, x.getD j default ≠ x.getD i default := by
  unfold devL
  rw [mem_dv]
  constructor
  · rintro ⟨t, rfl, hl, hg⟩
    refine ⟨hl, fun i hi => ?_⟩
    obtain ⟨h1, h2, _, h4⟩ := gd_get.1 hg i hi
    refine ⟨h1, ?_, h4⟩
    unfold okf at h2; simpa using h2
  · rintro ⟨hl, h⟩
    refine ⟨x, rfl, hl, gd_get.2 fun i hi => ?_⟩
    obtain ⟨h1, h2, h3⟩ := h i hi
    refine ⟨h1, ?_, by simp, h3⟩
    unfold okf; simpa using h2
theorem fits_dev {r : XRound} {fl x : List Int} (hv : Val r) (hf : ∀ f ∈ fl, 0 ≤ f ∧ f < r.owners.length) (h : x ∈ devL r fl) : ∀ i < fl.length, fits r (fl.getD i default) (x.getD i default) := by
  intro i hi
  obtain ⟨hl, h⟩ := mem_devL.1 h
  obtain ⟨h1, _⟩ := h i (by omega)
  have a1 := hf _ (getD_mem hi)
  have a2 := hf _ h1
  have := hv.s3
  exact ⟨a1.1, a1.2, a2.1, by omega⟩
/-- a group of airlines -/
def grp (g : List Int) : Prop := ∀ o ∈ g, 0 ≤ o ∧ o < 8
theorem m40_eq (r : XRound) (than group : List Int) (hv : Val r) (ht : than.length = 8) (hg : grp group) (hgl : group.length < 9223372036854775807) : m40_coalition_blocks r than group = some (blk r than group) := by
  unfold m40_coalition_blocks
  have hn8 := hv.n8
  have hfl : ∀ f ∈ flB r group, 0 ≤ f ∧ f < r.owners.length := fun f hf => (mem_flB.1 hf).1
  have hfn : (flB r group).length ≤ 8 := by have := flB_len r group; omega
  refine up_listA (fun i l => l.length ≤ i ∧ l ++ ((List.range' i (r.owners.length - i)).map fun j : Nat => (j : Int)).filter (fun f => group.any fun x => decide (ownr r f = x)) = flB r group) (fun _ _ _ => some (blk r than group)) r.owners (by omega) ?_ ?_ (by omega) ⟨Nat.le_refl _, by simp [flB, ownL, List.range_eq_range']⟩
  · intro sf l hI
    have hI := hI.2
    rw [Nat.sub_self] at hI
    simp only [List.range'_zero, List.map_nil, List.filter_nil, List.append_nil] at hI
    subst hI
    unfold m40_coalition_blocks_B0
    have c1 : ¬ (r.owners.length : Int) < r.owners.length := by omega
    rw [decide_eq_false c1, cond_false, m63_eq r _ hv hfn hfl]
    simp only [Option.bind_some, jn_eq]
    unfold blk
    have main : ∀ L : List (List Int), (∀ x ∈ L, x ∈ devL r (flB r group)) → rng2 (m40_coalition_blocks_B1 r than group (flB r group) fun v_3 v_4 => some (v_4, v_3)) (fun v_3 v_4 => some (([] : List Int), false)) L false ([] : List Int) = some (match L.find? (bet r than group (flB r group)) with
  | some x => (x, true)
  | none => ([], false)) := by
      intro L
      induction L with
      | nil => intro _; rw [rng2_nil, List.find?_nil]
      | cons x t ih =>
        intro hL
        have hx := hL x (List.mem_cons_self ..)
        have ih := ih fun y hy => hL y (List.mem_cons_of_mem _ hy)
        rw [rng2_cons]
        generalize rng2 (m40_coalition_blocks_B1 r than group (flB r group) fun v_3 v_4 => some (v_4, v_3)) (fun v_3 v_4 => some (([] : List Int), false)) t = SF at ih ⊢
        unfold m40_coalition_blocks_B1
        rw [m41_eq r _ x hv (by omega) (by rw [(mem_devL.1 hx).1]; exact Nat.le_refl _) (fits_dev hv hfl hx)]
        rw [Option.bind_some]
        have hcl : (cvec r (flB r group) x).length = 8 := by simp [cvec]
        rw [List.find?_cons]
        have : bet r than group (flB r group) x = group.all fun o => decide ((cvec r (flB r group) x).getD o.toNat default < than.getD o.toNat default) := rfl
        rw [this]
        clear this
        generalize cvec r (flB r group) x = now at *
        have lp : loop1 (m40_coalition_blocks_B2 than group (fun v_3 v_4 => some (v_4, v_3)) false [] SF x now) (((group.length : Int) - 0).toNat + 1) 0 = bif (group.all fun o => decide (now.getD o.toNat default < than.getD o.toNat default)) then some (x, true) else SF false [] := by
          refine up_list0 (fun t => bif (t.all fun o => decide (now.getD o.toNat default < than.getD o.toNat default)) then some (x, true) else SF false []) group hgl ?_ ?_ (show group.length < ((group.length : Int) - 0).toNat + 1 by omega)
          · intro sf; unfold m40_coalition_blocks_B2; simp
          · intro sf i y u h1 h2 h3 ih2
            unfold m40_coalition_blocks_B2
            have hy : group.getD (i : Int).toNat default = y := getD_of h2
            have ho := hg y (List.mem_of_getElem? h2)
            have c1 : (0 : Int) ≤ i ∧ (i : Int) < group.length := by omega
            have c2 : (0 : Int) ≤ y ∧ y < now.length := by omega
            have c3 : (0 : Int) ≤ y ∧ y < than.length := by omega
            simp only [decide_eq_true c1.2, cond_true, ck_eq c1, hy, ck_eq c2, ck_eq c3, h3, ih2, List.all_cons]
            by_cases q : than.getD y.toNat default ≤ now.getD y.toNat default
            · have q2 : ¬ now.getD y.toNat default < than.getD y.toNat default := by omega
              rw [decide_eq_true q, decide_eq_false q2]; rfl
            · have q2 : now.getD y.toNat default < than.getD y.toNat default := by omega
              rw [decide_eq_false q, decide_eq_true q2]; rfl
        rw [lp]
        cases (group.all fun o => decide (now.getD o.toNat default < than.getD o.toNat default))
        · exact ih
        · rfl
    exact main _ fun x h => h
  · intro sf i l y t h1 h2 h3 hI ih
    unfold m40_coalition_blocks_B0
    have c1 : (0 : Int) ≤ i ∧ (i : Int) < r.owners.length := by omega
    have e1 : r.owners.getD (i : Int).toNat default = ownr r i := rfl
    have c2 : (l.length + [(i : Int)].length) * 8 ≤ 140737488355328 := by have := hI.1; simp; omega
    simp only [decide_eq_true c1.2, cond_true, ck_eq c1, e1, m43_eq group _ hgl, Option.bind_some, ck_eq c2, h3]
    obtain ⟨k, hk⟩ : ∃ k, r.owners.length - i = k + 1 := ⟨r.owners.length - i - 1, by omega⟩
    obtain ⟨hI1, hI2⟩ := hI
    rw [hk, List.range'_succ, List.map_cons, List.filter_cons] at hI2
    have hk2 : r.owners.length - (i + 1) = k := by omega
    cases hq : (group.any fun x => decide (ownr r (i : Int) = x))
    · rw [hq] at hI2
      rw [cond_false]
      exact ih _ ⟨by omega, by rw [hk2]; simpa using hI2⟩
    · rw [hq] at hI2
      rw [cond_true]
      exact ih _ ⟨by simp; omega, by rw [hk2]; simpa using hI2⟩
end Go.Fx



/- Chapter 37: stable assignments, members, better. -/
set_option linter.unusedSimpArgs false
set_option linter.unusedVariables false
namespace Go.Fx
open Go Go.RowKit
def bitOn (b o : Nat) : Bool := !decide ((Go.bits .and .i64 ((b : Int) / 2 ^ min o (IntKind.bits .i64)) 1) = 0)
def grpOf (b : Nat) : List Int := ((List.range 8).filter (bitOn b)).map fun o : Nat => (o : Int)
theorem grpOf_grp (b : Nat) : grp (grpOf b) := by
  intro o ho
  unfold grpOf at ho
  simp only [List.mem_map, List.mem_filter, List.mem_range] at ho
  obtain ⟨a, ⟨h, _⟩, rfl⟩ := ho; omega
def hasF (r : XRound) (o : Int) : Bool := r.owners.any fun x => decide (o = x)
/-- group b blocks -/
def stB (r : XRound) (than : List Int) (b : Nat) : Bool := ((List.range 8).all fun o : Nat => !bitOn b o || hasF r o) && (!decide (((grpOf b).length : Int) = 0) && (blk r than (grpOf b)).2)
theorem m19_loop (r : XRound) (than : List Int) (hv : Val r) (ht : than.length = 8) : loop1 (m19_coalition_Stable_B0 r than) (((256 : Int) - 0).toNat + 1) 0 = some (!(List.range 256).any (stB r than), 0) := by
  rw [List.range_eq_range']
  refine (up_listI (fun i t => some (!(List.range' i t.length).any (stB r than), 0)) (List.range' 0 256) (by rw [List.length_range']; omega) ?_ ?_ (show (List.range' 0 256).length < ((256 : Int) - 0).toNat + 1 by rw [List.length_range']; omega)).trans (by rw [List.length_range'])
  · intro sf; unfold m19_coalition_Stable_B0; rw [List.length_range']; rfl
  · intro sf b x t h1 h2 h3 ih
    rw [List.length_range'] at h1
    rw [List.length_cons, any_range']
    unfold m19_coalition_Stable_B0
    rw [decide_eq_true (show (b : Int) < 256 by omega), cond_true, jn_eq, h3, ih]
    generalize (List.range' (b + 1) t.length).any (stB r than) = rest
    refine (up_listB (s := ([] : List Int)) (fun i s => s = ((List.range i).filter (bitOn b)).map fun o : Nat => (o : Int)) (fun i t s => bif (List.range' i t.length).all (fun o : Nat => !bitOn b o || hasF r o) then (bif (!decide (((grpOf b).length : Int) = 0) && (blk r than (grpOf b)).2) then some (false, 0) else some (!rest, 0)) else some (!rest, 0)) (List.range' 0 8) (by rw [List.length_range']; omega) ?_ ?_ (show (List.range' 0 8).length < ((8 : Int) - 0).toNat + 1 by rw [List.length_range']; omega) (by rfl)).trans ?_
    · intro sg s hI
      rw [List.length_range'] at hI ⊢
      have hI : s = grpOf b := hI
      subst hI
      unfold m19_coalition_Stable_B1
      rw [m40_eq r than _ hv ht (grpOf_grp b) (by have := List.length_filter_le (bitOn b) (List.range 8); unfold grpOf; simp at this ⊢; omega)]
      rw [show (List.range' 8 ([] : List Nat).length).all (fun o : Nat => !bitOn b o || hasF r o) = true from rfl]
      rw [decide_eq_false (show ¬ ((8 : Nat) : Int) < 8 by omega), Option.bind_some, cond_false]
      cases decide (((grpOf b).length : Int) = 0) <;> cases (blk r than (grpOf b)).2 <;> rfl
    · intro sg o s y u j1 j2 j3 hI ih2
      rw [List.length_range'] at j1
      rw [List.length_cons, all_range']
      unfold m19_coalition_Stable_B1
      have c1 : (0 : Int) ≤ o := by omega
      have c2 : (s.length + [(o : Int)].length) * 8 ≤ 140737488355328 := by
        have := List.length_filter_le (bitOn b) (List.range o)
        rw [hI]; simp at this ⊢; omega
      have hb : decide ((Go.bits .and .i64 ((b : Int) / 2 ^ min (o : Int).toNat (IntKind.bits .i64)) 1) = 0) = !bitOn b o := by unfold bitOn; rw [Bool.not_not, Int.toNat_natCast]
      rw [decide_eq_true (show (o : Int) < 8 by omega), cond_true, ck_eq c1, hb, j3]
      have hI' : ∀ s', s' = s ++ (([o].filter (bitOn b)).map fun o : Nat => (o : Int)) → s' = ((List.range (o + 1)).filter (bitOn b)).map fun o : Nat => (o : Int) := by
        intro s' h; rw [h, hI, List.range_succ, List.filter_append, List.map_append]
      have hm := m43_eq r.owners (o : Int) (by have := hv.n8; omega)
      rw [hm]
      have hh : hasF r o = r.owners.any fun x => decide ((o : Int) = x) := rfl
      rw [← hh]
      cases hbo : bitOn b o
      · rw [Bool.not_false, cond_true, ih2 _ (hI' _ (by rw [List.filter_cons, hbo]; simp))]
        rfl
      · rw [Bool.not_true, cond_false, Option.bind_some]
        cases hasF r o
        · rfl
        · rw [Bool.not_true, cond_false, ck_eq c2, ih2 _ (hI' _ (by rw [List.filter_cons, hbo]; simp))]
          rfl
    · rw [List.length_range']
      unfold stB
      rw [List.range_eq_range']
      cases (List.range' 0 8).all (fun o : Nat => !bitOn b o || hasF r o) <;> cases (!decide (((grpOf b).length : Int) = 0) && (blk r than (grpOf b)).2) <;> rfl
def stableB (r : XRound) (s : List Int) : Bool := decide (worseL r s = []) && !(List.range 256).any (stB r (cvec r (ownL r) s))
theorem m19_eq (r : XRound) (s : List Int) (hs : smXRound r) (hl : s.length < 9223372036854775807) : m19_coalition_Stable r s = some (bif goodB r s then (stableB r s, 0) else (false, 370)) := by
  unfold m19_coalition_Stable
  rw [m23_eq r s hs hl]
  cases hg : goodB r s
  · rfl
  obtain ⟨hv, ha⟩ := good_props hg
  simp only [cond_true, Option.bind_some, jn_eq]
  rw [m42_eq r hv, Option.bind_some, cvec_asg hv ha, Option.bind_some, m19_loop r _ hv (by simp [cvec])]
  unfold stableB
  by_cases q : worseL r s = []
  · rw [q]; rfl
  · have : (0 : Int) < (worseL r s).length := by have := List.length_pos_iff.2 q; omega
    rw [decide_eq_true this, decide_eq_false q]; rfl
end Go.Fx



/- Chapter 37: what blocks is not stable. -/
set_option linter.unusedSimpArgs false
set_option linter.unusedVariables false
namespace Go.Fx
open Go Go.RowKit
def sum8 (a b c d e f g h : Bool) : Nat := cond a 1 0 + cond b 2 0 + cond c 4 0 + cond d 8 0 + cond e 16 0 + cond f 32 0 + cond g 64 0 + cond h 128 0
theorem bits8 : ∀ a b c d e f g h : Bool, sum8 a b c d e f g h < 256 ∧ (List.range 8).map (bitOn (sum8 a b c d e f g h)) = [a, b, c, d, e, f, g, h] := of_decide_eq_true (by kernel_rfl)
theorem bits_of (p : Nat → Bool) : ∃ b < 256, ∀ o < 8, bitOn b o = p o := by
  obtain ⟨h1, h2⟩ := bits8 (p 0) (p 1) (p 2) (p 3) (p 4) (p 5) (p 6) (p 7)
  refine ⟨_, h1, ?_⟩
  generalize sum8 (p 0) (p 1) (p 2) (p 3) (p 4) (p 5) (p 6) (p 7) = n at *
  have e : List.range 8 = [0, 1, 2, 3, 4, 5, 6, 7] := rfl
  rw [e] at h2
  simp only [List.map_cons, List.map_nil, List.cons.injEq, and_true] at h2
  intro o ho
  obtain ⟨a0, a1, a2, a3, a4, a5, a6, a7⟩ := h2
  have : o = 0 ∨ o = 1 ∨ o = 2 ∨ o = 3 ∨ o = 4 ∨ o = 5 ∨ o = 6 ∨ o = 7 := by omega
  rcases this with rfl | rfl | rfl | rfl | rfl | rfl | rfl | rfl <;> assumption
theorem rising_ext {a b : List Int} (ha : a.Pairwise (· < ·)) (hb : b.Pairwise (· < ·)) (h : ∀ x, x ∈ a ↔ x ∈ b) : a = b := by
  have na : a.Nodup := ha.imp fun h => by omega
  have nb : b.Nodup := hb.imp fun h => by omega
  refine List.Perm.eq_of_pairwise (le := fun x y => x < y) ?_ ha hb ((List.perm_ext_iff_of_nodup na nb).2 h)
  intro x y _ _ h1 h2; omega
theorem grpOf_rising (b : Nat) : (grpOf b).Pairwise (· < ·) := by
  unfold grpOf
  rw [List.pairwise_map]
  have : (List.range 8).Pairwise (· < ·) := List.pairwise_lt_range
  exact (this.filter _).imp fun h => by omega
theorem mem_grpOf {b : Nat} {o : Int} : o ∈ grpOf b ↔ 0 ≤ o ∧ o < 8 ∧ bitOn b o.toNat = true := by
  unfold grpOf
  simp only [List.mem_map, List.mem_filter, List.mem_range]
  constructor
  · rintro ⟨a, ⟨h1, h2⟩, rfl⟩; exact ⟨by omega, by omega, by rwa [Int.toNat_natCast]⟩
  · rintro ⟨h1, h2, h3⟩; exact ⟨o.toNat, ⟨by omega, h3⟩, by omega⟩
theorem grp_bits {g : List Int} (hg : grp g) (hp : g.Pairwise (· < ·)) : ∃ b < 256, grpOf b = g := by
  obtain ⟨b, hb, h⟩ := bits_of fun o => decide ((o : Int) ∈ g)
  refine ⟨b, hb, rising_ext (grpOf_rising b) hp fun x => ?_⟩
  rw [mem_grpOf]
  constructor
  · rintro ⟨h1, h2, h3⟩
    rw [h _ (by omega)] at h3
    simp only [decide_eq_true_eq] at h3
    rwa [show ((x.toNat : Nat) : Int) = x by omega] at h3
  · intro hx
    have := hg x hx
    refine ⟨this.1, this.2, ?_⟩
    rw [h _ (by omega), show ((x.toNat : Nat) : Int) = x by omega]
    simpa using hx
theorem blk_spec (r : XRound) (than g : List Int) : ((blk r than g).2 = true ∧ (blk r than g).1 ∈ devL r (flB r g) ∧ bet r than g (flB r g) (blk r than g).1 = true) ∨ ((blk r than g) = ([], false) ∧ ∀ x ∈ devL r (flB r g), bet r than g (flB r g) x = false) := by
  unfold blk
  cases h : (devL r (flB r g)).find? (bet r than g (flB r g)) with
  | none => right; exact ⟨rfl, fun x hx => by have := List.find?_eq_none.1 h x hx; simpa using this⟩
  | some x => left; exact ⟨rfl, List.mem_of_find?_eq_some h, List.find?_some h⟩
theorem csum_zero {own : Int → Int} {cost : Int → Int → Int} {o : Int} {l : List (Int × Int)} (h : ∀ p ∈ l, own p.1 ≠ o) : csum own cost o l = 0 := by
  induction l with
  | nil => rfl
  | cons p t ih =>
    obtain ⟨f, s⟩ := p
    simp only [csum]
    rw [if_neg (h (f, s) (List.mem_cons_self ..)), ih fun p hp => h p (List.mem_cons_of_mem _ hp)]; rfl
theorem hasF_iff {r : XRound} {o : Int} : hasF r o = true ↔ ∃ f : Int, 0 ≤ f ∧ f < r.owners.length ∧ ownr r f = o := by
  unfold hasF
  simp only [List.any_eq_true, decide_eq_true_eq]
  constructor
  · rintro ⟨x, hx, rfl⟩
    obtain ⟨i, hi, rfl⟩ := List.getElem_of_mem hx
    exact ⟨i, by omega, by omega, by unfold ownr; rw [Int.toNat_natCast, getD_getElem hi]⟩
  · rintro ⟨f, h1, h2, rfl⟩
    exact ⟨_, getD_mem (by omega), rfl⟩
theorem zip_own {r : XRound} {fl s : List Int} {o : Int} (hf : ∀ f ∈ fl, 0 ≤ f ∧ f < r.owners.length) (h : hasF r o = false) : csum (ownr r) (cst r) o (fl.zip s) = 0 := by
  refine csum_zero fun p hp e => ?_
  have := List.of_mem_zip hp
  have := hf _ this.1
  have : hasF r o = true := hasF_iff.2 ⟨p.1, this.1, this.2, e⟩
  rw [h] at this; cases this
/-- whoever blocks has flights -/
theorem bet_has {r : XRound} {s g x : List Int} (hg : grp g) (hb : bet r (cvec r (ownL r) s) g (flB r g) x = true) : ∀ o ∈ g, hasF r o = true := by
  intro o ho
  cases hh : hasF r o with
  | true => rfl
  | false =>
    unfold bet at hb
    rw [List.all_eq_true] at hb
    have := hb o ho
    have ho8 := hg o ho
    unfold cvec at this
    rw [getD_map_range (by omega), getD_map_range (by omega), show ((o.toNat : Nat) : Int) = o by omega] at this
    rw [zip_own (fun f hf => (mem_flB.1 hf).1) hh, zip_own (fun f hf => mem_ownL.1 hf) hh] at this
    simp at this
theorem not_stable {r : XRound} {s g x : List Int} (hg : grp g) (hp : g.Pairwise (· < ·)) (hne : g ≠ []) (hx : x ∈ devL r (flB r g)) (hb : bet r (cvec r (ownL r) s) g (flB r g) x = true) : stableB r s = false := by
  obtain ⟨b, hb256, rfl⟩ := grp_bits hg hp
  have hs : stB r (cvec r (ownL r) s) b = true := by
    unfold stB
    simp only [Bool.and_eq_true, List.all_eq_true, List.mem_range, Bool.or_eq_true, Bool.not_eq_true', decide_eq_false_iff_not]
    refine ⟨fun o ho => ?_, ?_, ?_⟩
    · cases hbo : bitOn b o
      · left; rfl
      · right; exact bet_has hg hb _ (mem_grpOf.2 ⟨by omega, by omega, by rwa [Int.toNat_natCast]⟩)
    · have := List.length_pos_iff.2 hne; omega
    · rcases blk_spec r (cvec r (ownL r) s) (grpOf b) with h | ⟨_, h⟩
      · exact h.1
      · rw [h x hx] at hb; cases hb
  unfold stableB
  have : (List.range 256).any (stB r (cvec r (ownL r) s)) = true := List.any_eq_true.2 ⟨b, List.mem_range.2 hb256, hs⟩
  rw [this]; simp
end Go.Fx



/- Chapter 37: members, better. -/
set_option linter.unusedSimpArgs false
set_option linter.unusedVariables false
namespace Go.Fx
open Go Go.RowKit
theorem m21_eq (r : XRound) (g : List Int) (hv : Val r) (hp : g.Pairwise (· < ·)) (hg : g.length ≤ 20) : m21_overflightlaw37_members r g = some (flB r g) := by
  unfold m21_overflightlaw37_members
  have hn8 := hv.n8
  refine up_listB (s := ([] : List Int)) (fun i l => l.length ≤ i ∧ l ++ ((List.range' i (r.owners.length - i)).map fun j : Nat => (j : Int)).filter (fun f => g.any fun x => decide (ownr r f = x)) = flB r g) (fun _ _ _ => some (flB r g)) r.owners (by omega) ?_ ?_ (show r.owners.length < ((r.owners.length : Int) - 0).toNat + 1 by omega) ⟨Nat.le_refl _, by simp [flB, ownL, List.range_eq_range']⟩
  · intro sf l hI
    have hI := hI.2
    rw [Nat.sub_self] at hI
    simp only [List.range'_zero, List.map_nil, List.filter_nil, List.append_nil] at hI
    subst hI
    unfold m21_overflightlaw37_members_B0
    have c1 : ¬ (r.owners.length : Int) < r.owners.length := by omega
    rw [decide_eq_false c1]; rfl
  · intro sf i l y t h1 h2 h3 hI ih
    unfold m21_overflightlaw37_members_B0
    have c1 : (0 : Int) ≤ i ∧ (i : Int) < r.owners.length := by omega
    rw [decide_eq_true c1.2, cond_true, ck_eq c1]
    refine (up_listB (s := l) (fun j s => s.length ≤ i + j) (fun j t s => sf (s ++ if ownr r i ∈ g.drop j then [(i : Int)] else []) ((i : Int) + 1)) g (by omega) ?_ ?_ (show g.length < ((g.length : Int) - 0).toNat + 1 by omega) (by have := hI.1; omega)).trans ?_
    · intro sg s hJ
      unfold m21_overflightlaw37_members_B1
      have d1 : ¬ (g.length : Int) < g.length := by omega
      rw [decide_eq_false d1, cond_false, h3]; simp
    · intro sg j s x u j1 j2 j3 hJ ih2
      unfold m21_overflightlaw37_members_B1
      have d1 : (0 : Int) ≤ j ∧ (j : Int) < g.length := by omega
      have hx : g.getD (j : Int).toNat default = x := getD_of j2
      have e1 : r.owners.getD (i : Int).toNat default = ownr r i := rfl
      have d2 : (s.length + [(i : Int)].length) * 8 ≤ 140737488355328 := by simp; omega
      have hdr : g.drop j = x :: g.drop (j + 1) := by
        obtain ⟨hj, rfl⟩ := List.getElem?_eq_some_iff.1 j2
        exact List.drop_eq_getElem_cons hj
      have hnx : ∀ z ∈ g.drop (j + 1), x < z := by
        have := hp.sublist (List.drop_sublist j g)
        rw [hdr, List.pairwise_cons] at this
        exact this.1
      rw [decide_eq_true d1.2, cond_true, ck_eq d1, hx, e1, j3, hdr]
      by_cases q : x = ownr r i
      · rw [decide_eq_true q, cond_true, ck_eq d2, ih2 _ (by simp; omega)]
        have n1 : ownr r (i : Int) ∉ g.drop (j + 1) := fun h => by have := hnx _ h; omega
        rw [if_neg n1, if_pos (by rw [q]; exact List.mem_cons_self ..)]; simp
      · rw [decide_eq_false q, cond_false, ih2 _ (by omega)]
        have : (ownr r (i : Int) ∈ x :: g.drop (j + 1)) = (ownr r (i : Int) ∈ g.drop (j + 1)) := by
          apply propext; rw [List.mem_cons]; exact ⟨fun h => h.resolve_left fun e => q e.symm, .inr⟩
        simp only [this]
    · obtain ⟨k, hk⟩ : ∃ k, r.owners.length - i = k + 1 := ⟨r.owners.length - i - 1, by omega⟩
      obtain ⟨hI1, hI2⟩ := hI
      rw [hk, List.range'_succ, List.map_cons, List.filter_cons] at hI2
      have hk2 : r.owners.length - (i + 1) = k := by omega
      rw [List.drop_zero]
      have hany : (g.any fun x => decide (ownr r (i : Int) = x)) = decide (ownr r (i : Int) ∈ g) := by rw [contains_any]; simp
      rw [hany] at hI2
      by_cases q : ownr r (i : Int) ∈ g
      · rw [if_pos q]; rw [decide_eq_true q] at hI2
        exact ih _ ⟨by simp; omega, by rw [hk2]; simpa using hI2⟩
      · rw [if_neg q]; rw [decide_eq_false q] at hI2
        exact ih _ ⟨by simp; omega, by rw [hk2]; simpa using hI2⟩
def dupB (s : List Int) (i k : Nat) : Bool := decide (k < i) && decide (s.getD k default = s.getD i default)
/-- slot i is an own one, not taken twice, and can be used -/
def okB (r : XRound) (fl s : List Int) (i : Nat) : Bool := !(List.range' 0 fl.length).any (dupB s i) && (decide (s.getD i default ∈ fl) && decide (0 ≤ cst r (fl.getD i default) (s.getD i default)))
def lessB (r : XRound) (g fl s than : List Int) : Bool := g.all fun o => decide (csum (ownr r) (cst r) o (fl.zip s) < than.getD o.toNat default)
def betterB (r : XRound) (g s than : List Int) : Bool := decide (s.length = (flB r g).length) && ((List.range' 0 (flB r g).length).all (okB r (flB r g) s) && lessB r g (flB r g) s than)
theorem m20_eq (r : XRound) (g s than : List Int) (hv : Val r) (hp : g.Pairwise (· < ·)) (hg : grp g) (hgl : g.length ≤ 20) (ht : than.length = 8) (hsl : s.length < 9223372036854775807) : m20_overflightlaw37_better r g s than = some (betterB r g s than) := by
  unfold m20_overflightlaw37_better betterB
  rw [m21_eq r g hv hp hgl, Option.bind_some]
  have hfl : ∀ f ∈ flB r g, 0 ≤ f ∧ f < r.owners.length := fun f hf => (mem_flB.1 hf).1
  have hfn : (flB r g).length ≤ 8 := by have := flB_len r g; have := hv.n8; omega
  generalize flB r g = fl at *
  by_cases q : s.length = fl.length
  case neg =>
    have q' : (s.length : Int) ≠ fl.length := by omega
    rw [decide_eq_true q', decide_eq_false q]; rfl
  have q' : ¬ (s.length : Int) ≠ fl.length := by omega
  rw [decide_eq_false q', decide_eq_true q, cond_false, Bool.true_and]
  rw [← q]
  have hfits : ∀ i < fl.length, s.getD i default ∈ fl → fits r (fl.getD i default) (s.getD i default) := by
    intro i hi hm
    have a1 := hfl _ (getD_mem hi)
    have a2 := hfl _ hm
    have := hv.s3
    exact ⟨a1.1, a1.2, a2.1, by omega⟩
  have hz : (fl.zip s).take s.length = fl.zip s := by rw [List.take_of_length_le (by simp; omega)]
  refine up_listA (s := ([] : List (Int × Int))) (fun i m => (∀ j < i, s.getD j default ∈ fl) ∧ ∀ o, (mget m o).getD 0 = csum (ownr r) (cst r) o ((fl.zip s).take i)) (fun i t m => some ((List.range' i t.length).all (okB r fl s) && lessB r g fl s than)) s hsl ?_ ?_ (show s.length < ((s.length : Int) - 0).toNat + 1 by omega) ⟨fun j hj => by omega, fun o => by simp [csum, mget]⟩
  · intro sf m hI
    have hI := hI.2
    rw [hz] at hI
    unfold m20_overflightlaw37_better_B0
    have c1 : ¬ (s.length : Int) < s.length := by omega
    rw [decide_eq_false c1, cond_false]
    rw [show (List.range' s.length ([] : List Int).length).all (okB r fl s) = true from rfl, Bool.true_and]
    unfold lessB
    refine up_list0 (fun t => some (t.all fun o => decide (csum (ownr r) (cst r) o (fl.zip s) < than.getD o.toNat default))) g (by omega) ?_ ?_ (show g.length < ((g.length : Int) - 0).toNat + 1 by omega)
    · intro sf; unfold m20_overflightlaw37_better_B2
      have d1 : ¬ (g.length : Int) < g.length := by omega
      rw [decide_eq_false d1]; rfl
    · intro sg i y u h1 h2 h3 ih
      unfold m20_overflightlaw37_better_B2
      have hy : g.getD (i : Int).toNat default = y := getD_of h2
      have ho := hg y (List.mem_of_getElem? h2)
      have d1 : (0 : Int) ≤ i ∧ (i : Int) < g.length := by omega
      have d2 : (0 : Int) ≤ y ∧ y < than.length := by omega
      rw [decide_eq_true d1.2, cond_true, ck_eq d1, jn_eq]
      rw [hy, decide_eq_false (show ¬ y < 0 by omega), decide_eq_false (show ¬ (than.length : Int) ≤ y by omega), cond_false, cond_false, ck_eq d2, hI, List.all_cons, h3, ih]
      by_cases z : than.getD y.toNat default ≤ csum (ownr r) (cst r) y (fl.zip s)
      · have z2 : ¬ csum (ownr r) (cst r) y (fl.zip s) < than.getD y.toNat default := by omega
        rw [decide_eq_true z, decide_eq_false z2]; rfl
      · have z2 : csum (ownr r) (cst r) y (fl.zip s) < than.getD y.toNat default := by omega
        rw [decide_eq_false z, decide_eq_true z2]; rfl
  · intro sf i m x t h1 h2 h3 hI ih
    unfold m20_overflightlaw37_better_B0
    have c1 : (0 : Int) ≤ i ∧ (i : Int) < s.length := by omega
    rw [decide_eq_true c1.2, cond_true, ck_eq c1, List.length_cons, all_range']
    have hx : s.getD (i : Int).toNat default = s.getD i default := rfl
    let fin : Bool → Option Bool := fun own => bif !own || !decide (0 ≤ cst r (fl.getD i default) (s.getD i default)) then some false else some ((List.range' (i + 1) t.length).all (okB r fl s) && lessB r g fl s than)
    refine (up_listB (s := false) (fun k own => own = (decide (s.getD i default ∈ fl.take k))) (fun k u own => bif (List.range' k u.length).any (dupB s i) then some false else fin (decide (s.getD i default ∈ fl))) fl (by omega) ?_ ?_ (show fl.length < ((fl.length : Int) - 0).toNat + 1 by omega) (by simp)).trans ?_
    · intro sg own hJ
      rw [List.take_length] at hJ
      unfold m20_overflightlaw37_better_B1
      have d1 : ¬ (fl.length : Int) < fl.length := by omega
      have d2 : (0 : Int) ≤ i ∧ (i : Int) < fl.length := by omega
      rw [decide_eq_false d1, cond_false, ck_eq d2, jn_eq]
      rw [show (List.range' fl.length ([] : List Int).length).any (dupB s i) = false from rfl, cond_false]
      have hf : fl.getD (i : Int).toNat default = fl.getD i default := rfl
      rw [hx, hf]
      by_cases z : s.getD i default ∈ fl
      case neg => rw [hJ, decide_eq_false z]; rfl
      rw [hJ, decide_eq_true z]
      obtain ⟨a1, a2, a3, a4⟩ := hfits i (by omega) z
      have hcost := fits.cst hv (hfits i (by omega) z)
      have hrow := hv.row (fl.getD i default).toNat (by omega)
      have hs4 := hv.s4
      have d3 : (0 : Int) ≤ fl.getD i default ∧ fl.getD i default < r.costs.length := by omega
      have d4 : (0 : Int) ≤ s.getD i default ∧ s.getD i default < ((r.costs.getD (fl.getD i default).toNat default).length : Int) := by omega
      have d5 : (0 : Int) ≤ fl.getD i default ∧ fl.getD i default < r.owners.length := by omega
      have e1 : (r.costs.getD (fl.getD i default).toNat default).getD (s.getD i default).toNat default = cst r (fl.getD i default) (s.getD i default) := rfl
      have e2 : r.owners.getD (fl.getD i default).toNat default = ownr r (fl.getD i default) := rfl
      rw [Bool.not_true, cond_false, decide_eq_false (show ¬ s.getD i default < 0 by omega), cond_false, decide_eq_false (show ¬ (r.costs.length : Int) ≤ fl.getD i default by omega), cond_false, ck_eq d3, decide_eq_false (show ¬ ((r.costs.getD (fl.getD i default).toNat default).length : Int) ≤ s.getD i default by omega), cond_false, ck_eq d3, ck_eq d4, ck_eq d5, ck_eq d3, ck_eq d4, e1, e2, h3]
      have hfin : fin true = bif !decide (0 ≤ cst r (fl.getD i default) (s.getD i default)) then some false else some ((List.range' (i + 1) t.length).all (okB r fl s) && lessB r g fl s than) := rfl
      rw [hfin]
      by_cases w : cst r (fl.getD i default) (s.getD i default) < 0
      · rw [decide_eq_true w, decide_eq_false (show ¬ 0 ≤ cst r (fl.getD i default) (s.getD i default) by omega)]; rfl
      rw [decide_eq_false w, decide_eq_true (show 0 ≤ cst r (fl.getD i default) (s.getD i default) by omega)]
      show sf _ _ = some ((List.range' (i + 1) t.length).all (okB r fl s) && lessB r g fl s than)
      refine ih _ ⟨fun j hj => ?_, fun o => ?_⟩
      · by_cases e : j = i
        · subst e; exact z
        · exact hI.1 j (by omega)
      · have t1 := zip_take_succ (l := fl) (m := s) (i := i) (by omega) h1
        have hb := csum_bound (own := ownr r) (cost := cst r) (o := ownr r (fl.getD i default)) (b := 1048576) (l := (fl.zip s).take i) (by omega) (fun p hp => by
          obtain ⟨j, hj, rfl⟩ := List.getElem_of_mem hp
          have hj2 : j < i := by simp at hj; omega
          have := fits.cst hv (hfits j (by omega) (hI.1 j hj2))
          rw [getD_getElem (by omega), getD_getElem (by omega)] at this
          simp only [List.getElem_take, List.getElem_zip]; omega)
        have hle : ((fl.zip s).take i).length ≤ 8 := by simp; omega
        have hle2 : (1048576 : Int) * ((fl.zip s).take i).length ≤ 1048576 * 8 := by omega
        rw [hI.2, mget_put, t1, csum_append]
        simp only [csum]
        by_cases e : ownr r (fl.getD i default) = o
        · rw [if_pos e, if_pos e, Option.getD_some, wrap_i64 (by omega) (by omega), e]; omega
        · rw [if_neg e, if_neg e, hI.2]; omega
    · intro sg k own y u j1 j2 j3 hJ ih2
      unfold m20_overflightlaw37_better_B1
      have d1 : (0 : Int) ≤ k ∧ (k : Int) < fl.length := by omega
      have hy : fl.getD (k : Int).toNat default = y := getD_of j2
      have hk : s.getD (k : Int).toNat default = s.getD k default := rfl
      have d2 : (0 : Int) ≤ k ∧ (k : Int) < s.length := by omega
      rw [decide_eq_true d1.2, cond_true, ck_eq d1, jn_eq]
      rw [List.length_cons, any_range', j3]
      have hown : ∀ o2, o2 = (own || decide (y = s.getD i default)) → o2 = decide (s.getD i default ∈ fl.take (k + 1)) := by
        intro o2 h
        rw [h, hJ, List.take_add_one, j2, Bool.eq_iff_iff]
        simp only [Bool.or_eq_true, decide_eq_true_eq, List.mem_append, Option.toList_some, List.mem_singleton]
        exact or_congr_right eq_comm
      have hdup : dupB s i k = (decide (k < i) && decide (s.getD k default = s.getD i default)) := rfl
      have fin2 : ∀ o2, o2 = (own || decide (y = s.getD i default)) → (jn (fun (v_3 : Bool) => bif v_3 then some false else sg o2 ((k : Int) + 1)) fun k80 => bif decide ((k : Int) < i) then ck ((0 : Int) ≤ k ∧ (k : Int) < (s.length : Int)) (k80 (decide (s.getD (k : Int).toNat default = s.getD (i : Int).toNat default))) else k80 false) = bif (dupB s i k || (List.range' (k + 1) u.length).any (dupB s i)) then some false else fin (decide (s.getD i default ∈ fl)) := by
        intro o2 h
        rw [jn_eq, hk, hx, hdup, ih2 _ (hown o2 h), ck_eq d2]
        by_cases z : k < i
        · rw [decide_eq_true (show (k : Int) < i by omega), decide_eq_true z, cond_true, Bool.true_and]
          cases decide (s.getD k default = s.getD i default) <;> rfl
        · rw [decide_eq_false (show ¬ (k : Int) < i by omega), decide_eq_false z, cond_false, Bool.false_and]; rfl
      rw [hy]
      cases own
      · exact fin2 _ (by rw [hx]; rfl)
      · exact fin2 _ (by rfl)
    · unfold okB
      show (bif (List.range' 0 fl.length).any (dupB s i) then some false else bif !decide (s.getD i default ∈ fl) || !decide (0 ≤ cst r (fl.getD i default) (s.getD i default)) then some false else some ((List.range' (i + 1) t.length).all (okB r fl s) && lessB r g fl s than)) = _
      cases (List.range' 0 fl.length).any (dupB s i) <;> cases decide (s.getD i default ∈ fl) <;> cases decide (0 ≤ cst r (fl.getD i default) (s.getD i default)) <;> rfl
/-- better as the program's search sees it -/
theorem betterB_iff {r : XRound} {g s than : List Int} (hg : grp g) : betterB r g s than = true ↔ s ∈ devL r (flB r g) ∧ bet r than g (flB r g) s = true := by
  have hless : lessB r g (flB r g) s than = bet r than g (flB r g) s := by
    unfold lessB bet
    rw [Bool.eq_iff_iff, List.all_eq_true, List.all_eq_true]
    refine forall_congr' fun o => imp_congr_right fun ho => ?_
    have := hg o ho
    unfold cvec
    rw [getD_map_range (by omega), show ((o.toNat : Nat) : Int) = o by omega]
  unfold betterB
  rw [hless, mem_devL]
  simp only [Bool.and_eq_true, decide_eq_true_eq, List.all_eq_true, List.mem_range'_1, Nat.zero_le, true_and, Nat.zero_add]
  generalize flB r g = fl
  constructor
  · rintro ⟨h1, h2, h3⟩
    refine ⟨⟨h1, fun i hi => ?_⟩, h3⟩
    have := h2 i (by omega)
    unfold okB at this
    simp only [Bool.and_eq_true, decide_eq_true_eq, Bool.not_eq_true', List.any_eq_false, List.mem_range'_1, Nat.zero_le, true_and, Nat.zero_add] at this
    refine ⟨this.2.1, this.2.2, fun j hj e => ?_⟩
    have := this.1 j (by omega)
    unfold dupB at this; simp only [Bool.and_eq_true, decide_eq_true_eq] at this; exact this ⟨hj, e⟩
  · rintro ⟨⟨h1, h2⟩, h3⟩
    refine ⟨h1, fun i hi => ?_, h3⟩
    obtain ⟨a1, a2, a3⟩ := h2 i (by omega)
    unfold okB
    simp only [Bool.and_eq_true, decide_eq_true_eq, Bool.not_eq_true', List.any_eq_false, List.mem_range'_1, Nat.zero_le, true_and, Nat.zero_add]
    refine ⟨fun j hj => ?_, a1, a2⟩
    unfold dupB; simp only [Bool.and_eq_true, decide_eq_true_eq]; rintro ⟨h, e⟩; exact a3 j h e
end Go.Fx



/- CoalitionOwn. -/
set_option linter.unusedSimpArgs false
set_option linter.unusedVariables false
namespace Go.Fx
open Go Go.RowKit
theorem asg_own {r : XRound} (hv : Val r) : asgB r (ownL r) = true := by
  unfold asgB
  simp only [Bool.and_eq_true, decide_eq_true_eq, List.all_eq_true, List.mem_range]
  refine ⟨ownL_len r, fun i hi => ?_⟩
  rw [ownL_len] at hi
  unfold okS
  rw [ownL_getD hi]
  have h3 := hv.s3
  have hd := hv.diag i hi
  have e : cst r (i : Int) (i : Int) = (r.costs.getD i default).getD i default := by unfold cst; simp
  have ha : ((ownL r).take i).any (fun x => decide ((i : Int) = x)) = false := by
    rw [List.any_eq_false]
    intro x hx hc
    have hx' := of_decide_eq_true hc
    obtain ⟨j, hj, hje⟩ := List.getElem_of_mem hx
    rw [List.length_take, ownL_len] at hj
    rw [List.getElem_take] at hje
    have : (ownL r)[j]'(by rw [ownL_len]; omega) = (j : Int) := by simp [ownL]
    omega
  rw [ha, e, decide_eq_false (show ¬ ((i : Int) < 0) by omega), decide_eq_false (show ¬ (r.slots ≤ (i : Int)) by omega), decide_eq_false (show ¬ (r.costs.getD i default).getD i default < 0 by omega)]
  rfl
theorem worse_own (r : XRound) : worseL r (ownL r) = [] := by
  unfold worseL
  rw [List.map_eq_nil_iff, List.filter_eq_nil_iff]
  intro i _ h
  have := of_decide_eq_true h
  omega
theorem cvec_nil {r : XRound} {s : List Int} {o : Int} (h0 : 0 ≤ o) (h8 : o < 8) (h : flB r [o] = []) : (cvec r (ownL r) s).getD o.toNat default = 0 := by
  unfold cvec
  rw [getD_map_range (by omega), show ((o.toNat : Nat) : Int) = o by omega]
  refine csum_zero fun p hp he => ?_
  have hm := List.of_mem_zip hp
  have : p.1 ∈ flB r [o] := mem_flB.2 ⟨mem_ownL.1 hm.1, by rw [he]; exact List.mem_singleton.2 rfl⟩
  rw [h] at this; cases this
theorem CoalitionOwn_law (r : XRound) (slots : List Int) (airline : Int) (turn : UInt8) (hr : smXRound r) (hs : SmL (InK .i64) slots) (hai : InK .i64 airline) (_ : SmT turn) : m4_overflightlaw37_CoalitionOwn r slots airline turn = some true := by
  have hl : slots.length < 9223372036854775807 := by have := hs.1; omega
  unfold m4_overflightlaw37_CoalitionOwn
  rw [sane_eq, m16_eq r hr, m22_eq r hr]
  simp only [Option.bind_some, Bool.not_true, cond_false, jn_eq]
  cases hf : fewB r
  · rfl
  rw [Bool.not_true, cond_false]
  by_cases c1 : 20 < (slots.length : Int)
  · rw [decide_eq_true c1]; rfl
  rw [decide_eq_false c1]
  cases hvb : valB r
  · rfl
  have hv := Val.of hvb
  have hn8 := hv.n8
  simp only [cond_true, cond_false]
  rw [decide_eq_false (show ¬ ((0 : Int) ≠ 0) by decide), cond_false]
  have hlo : (ownL r).length < 9223372036854775807 := by rw [ownL_len]; omega
  have hgo : goodB r (ownL r) = true := by unfold goodB; rw [hvb, asg_own hv]; rfl
  have key : ∀ (own : List Int), own = ownL r → ∀ sf, m4_overflightlaw37_CoalitionOwn_B0 r slots airline turn sf own (r.owners.length : Int) = some true := by
    intro own he sf
    subst he
    unfold m4_overflightlaw37_CoalitionOwn_B0
    have e0 : (cvec r (ownL r) (ownL r)).length = 8 := by simp [cvec]
    rw [decide_eq_false (show ¬ (r.owners.length : Int) < r.owners.length by omega), cond_false, m23_eq r _ hr hlo, m18_eq r _ hr hlo, hgo, worse_own]
    simp only [Option.bind_some, cond_true, jn_eq, e0, List.length_nil]
    rw [decide_eq_false (show ¬ ((0 : Int) ≠ 0) by decide), cond_false, cond_false, decide_eq_false (show ¬ (((0 : Nat) : Int) ≠ 0) by decide), cond_false, decide_eq_false (show ¬ (((8 : Nat) : Int) ≠ 8) by decide), cond_false, m19_eq r slots hr hl]
    cases hg : goodB r slots
    · rfl
    obtain ⟨_, ha⟩ := good_props hg
    rw [cond_true, Option.bind_some, decide_eq_false (show ¬ ((0 : Int) ≠ 0) by decide), cond_false]
    cases hst : stableB r slots
    · rfl
    have e1 : (cvec r (ownL r) slots).length = 8 := by simp [cvec]
    rw [Bool.not_true, cond_false, m18_eq r slots hr hl, hg]
    simp only [Option.bind_some, cond_true, e1]
    rw [decide_eq_false (show ¬ ((0 : Int) ≠ 0) by decide), cond_false, decide_eq_false (show ¬ (((8 : Nat) : Int) ≠ 8) by decide), cond_false]
    have hw : worseL r slots = [] := by
      unfold stableB at hst
      rw [Bool.and_eq_true] at hst
      exact of_decide_eq_true hst.1
    have hle : ∀ i < 8, (cvec r (ownL r) slots).getD i default ≤ (cvec r (ownL r) (ownL r)).getD i default := by
      intro i hi
      unfold worseL at hw
      rw [List.map_eq_nil_iff, List.filter_eq_nil_iff] at hw
      have := hw i (List.mem_range.2 hi)
      simp only [decide_eq_true_eq] at this
      omega
    refine up_list0 (fun _ => some true) (cvec r (ownL r) slots) (by omega) ?_ ?_ (by rw [e1]; decide)
    · intro sf
      unfold m4_overflightlaw37_CoalitionOwn_B1
      rw [decide_eq_false (show ¬ ((cvec r (ownL r) slots).length : Int) < (cvec r (ownL r) slots).length by omega), cond_false]
      simp only [jn_eq]
      by_cases d1 : airline < 0
      · rw [decide_eq_true d1]; rfl
      by_cases d2 : 8 ≤ airline
      · rw [decide_eq_false d1, decide_eq_true d2]; rfl
      rw [decide_eq_false d1, decide_eq_false d2, cond_false, cond_false, m21_eq r [airline] hv (List.pairwise_singleton _ _) (by simp), Option.bind_some]
      by_cases d3 : ((flB r [airline]).length : Int) = 0
      · rw [decide_eq_true d3, cond_true, e1, ck_eq (by omega), cvec_nil (by omega) (by omega) (List.length_eq_zero_iff.1 (by omega))]
        rfl
      · rw [decide_eq_false d3, cond_false, ck_eq d3]
        have hfl := flB_len r [airline]
        have h1 : (0 : Int) ≤ ((turn.toNat : Int).tmod ((flB r [airline]).length : Int)) := Int.tmod_nonneg _ (by omega)
        have h2 : ((turn.toNat : Int).tmod ((flB r [airline]).length : Int)) < (flB r [airline]).length := Int.tmod_lt_of_pos _ (by omega)
        generalize ((turn.toNat : Int).tmod ((flB r [airline]).length : Int)) = k at h1 h2
        rw [ck_eq (by omega), ck_eq (by simp only [List.length_nil, List.length_take, List.length_drop]; omega), ck_eq (by omega), ck_eq (by simp only [List.length_append, List.length_nil, List.length_take, List.length_drop]; omega)]
        have hgr : grp [airline] := fun o ho => by rw [List.mem_singleton.1 ho]; omega
        rw [m20_eq r [airline] _ _ hv (List.pairwise_singleton _ _) hgr (by simp) e1 (by simp only [List.length_append, List.length_nil, List.length_take, List.length_drop]; omega), Option.bind_some]
        cases hb : betterB r [airline] ([] ++ List.take ((flB r [airline]).length - k.toNat) (List.drop k.toNat (flB r [airline])) ++ List.take (k.toNat - 0) (List.drop 0 (flB r [airline]))) (cvec r (ownL r) slots)
        · rfl
        · obtain ⟨b1, b2⟩ := (betterB_iff hgr).1 hb
          rw [not_stable hgr (List.pairwise_singleton _ _) (by simp) b1 b2] at hst
          cases hst
    · intro sf i x t h1 h2 h3 ih
      unfold m4_overflightlaw37_CoalitionOwn_B1
      have hb := hle i (by omega)
      show (bif decide ((i : Int) < ((cvec r (ownL r) slots).length : Int)) then ck ((0 : Int) ≤ (i : Int) ∧ (i : Int) < ((cvec r (ownL r) slots).length : Int)) (ck ((0 : Int) ≤ (i : Int) ∧ (i : Int) < ((cvec r (ownL r) (ownL r)).length : Int)) (bif decide ((cvec r (ownL r) (ownL r)).getD i default < (cvec r (ownL r) slots).getD i default) then some false else sf (IntKind.i64.wrap ((i : Int) + 1)))) else _) = some true
      rw [decide_eq_true (show (i : Int) < (cvec r (ownL r) slots).length by omega), cond_true, ck_eq (by omega), e0, ck_eq (by omega), decide_eq_false (show ¬ (cvec r (ownL r) (ownL r)).getD i default < (cvec r (ownL r) slots).getD i default by omega), cond_false, h3, ih]
  refine up_listB (fun i own => own = ownL { r with owners := r.owners.take i } ) (fun _ _ _ => some true) r.owners (by omega) ?_ ?_ (by omega) (by rfl)
  · intro sf own hI
    rw [List.take_length] at hI
    exact key own hI sf
  · intro sf i own x t h1 h2 h3 hI ih
    unfold m4_overflightlaw37_CoalitionOwn_B0
    have hlen : own.length = i := by rw [hI, ownL_len]; simp; omega
    rw [decide_eq_true (show (i : Int) < r.owners.length by omega), cond_true, ck_eq (by simp [hlen]; omega), h3]
    refine ih _ ?_
    rw [hI]
    unfold ownL
    simp only [List.length_take]
    rw [Nat.min_eq_left (by omega), Nat.min_eq_left (by omega), List.range_succ, List.map_append]
    rfl
end Go.Fx



namespace Go.Proofs.Ythakjfdppgdmaaa.lawCoalitionOwn
open Go Go.Proofs Go.ChangeShapes Go.WideShapes Go.ChangeAt Go.RowKit Go.Fx
open Go.ChangeMaps (open_string shut_string)
set_option linter.unusedVariables false
set_option maxRecDepth 100000
theorem own : ownKnob Try.prog.godebug = none := by kernel_rfl
theorem laidOut : laidOutB Try.prog = true := by kernel_rfl
set_option maxRecDepth 100000 in
set_option maxHeartbeats 1000000 in
theorem lifted (os : Os) (started : os.Started) (H : Type) (enc : TypeId × Value → H) :
    ReturnsInHanded {} Try.checked os 4 .any (Rows.coalitionOwnSpec.pre6 enc Try.prog Try.f4 Rows.coalitionOwnRow.domain false) (Rows.coalitionOwnSpec.post enc Try.prog Try.f4 false true false false) := by
  refine returnsInHanded_of_change_sized (C := Try.checked) own started (by kernel_rfl) Try.func4
    (ChangeSpec.witness6 (enc := enc) (C := Try.checked) false ⟨#[], #[.agg #[(.int .i64 0), (.slice none 0 0), (.slice none 0 0)], (.slice none 0 0), (.int .i64 0), (.int .u8 0)], []⟩ 8 (by kernel_rfl) (by kernel_rfl) (by kernel_rfl) (by kernel_rfl)) ?_
  intro W base args ds gs before hval0 hW hcnd hsz _
  have hval : ∀ (j : Nat) t v, Try.f4.params[j]? = some t → args[j]? = some v → Value.okWide Try.prog W .any base t v := hval0
  have hW' := hW
  obtain ⟨p, q, hA0, hV, rfl, hfz, hnd⟩ := hW
  have hA : DataW.TrodAll enc Try.prog W 0 (fun _ => true) true Try.f4.params.toList args.toList ds p := hA0
  rw [Try.params4] at hA hval
  obtain ⟨v0, vs0, d0, ds0, p0, q0, hargs, rfl, rfl, h0, r0⟩ := trodAll_cons hA
  obtain ⟨v1, vs1, d1, ds1, p1, q1, rfl, rfl, rfl, h1, r1⟩ := trodAll_cons r0
  obtain ⟨v2, vs2, d2, ds2, p2, q2, rfl, rfl, rfl, h2, r2⟩ := trodAll_cons r1
  obtain ⟨v3, vs3, d3, ds3, p3, q3, rfl, rfl, rfl, h3, r3⟩ := trodAll_cons r2
  obtain ⟨rfl, rfl, rfl⟩ := trodAll_nil r3
  obtain rfl : args = #[v0, v1, v2, v3] := by cases args; simp_all
  obtain ⟨rfl, rfl⟩ := trodVars_none hV
  have k0 := h0
  have lt0 : ∀ x ∈ p0, x.block < W.heap.size := by obtain ⟨m, hm⟩ := k0; exact DataW.trod_lt m _ _ _ hm
  obtain ⟨fu0, hf0⟩ := h0
  obtain ⟨r_, rr0, sm0⟩ := rd25.2 _ _ _ hf0
  replace sm0 := sm0 (fun n hn => by have := List.all_eq_true.1 hsz n (DataW.weights_mem_each (j := 0) (t := 25) rfl rfl n hn); simpa using this)
  obtain ⟨⟨cs0⟩, rfl, _⟩ := okWide_struct Try.underlying25 (hval 0 25 v0 rfl rfl)
  replace rr0 : rXRound.rd W [] cs0 r_ := rr0
  obtain ⟨_, _, rfl, ⟨rfl, r_r__slots⟩, ⟨_, _, rfl, ⟨a_r__owners, c_r__owners, rfl, f_r__owners⟩, ⟨a_r__costs, c_r__costs, rfl, f_r__costs⟩⟩⟩ := rr0
  have k1 := h1
  have lt1 : ∀ x ∈ p1, x.block < W.heap.size := by obtain ⟨m, hm⟩ := k1; exact DataW.trod_lt m _ _ _ hm
  obtain ⟨fu1, hf1⟩ := h1
  obtain ⟨slots, rr1, sm1⟩ := rd22.2 _ _ _ hf1
  replace sm1 := sm1 (fun n hn => by have := List.all_eq_true.1 hsz n (DataW.weights_mem_each (j := 1) (t := 22) rfl rfl n hn); simpa using this)
  obtain ⟨b1, l1, c1, rfl⟩ := okWide_slice Try.underlying22 (hval 1 22 v1 rfl rfl)
  replace rr1 : (rSl (rInt .i64)).rd W [] [.slice b1 l1 c1] slots := rr1
  obtain ⟨a_slots, c_slots, e1, f_slots⟩ := un_sl rr1
  simp only [Value.slice.injEq] at e1
  obtain ⟨rfl, rfl, rfl⟩ := e1
  have k2 := h2
  have lt2 : ∀ x ∈ p2, x.block < W.heap.size := by obtain ⟨m, hm⟩ := k2; exact DataW.trod_lt m _ _ _ hm
  obtain ⟨fu2, hf2⟩ := h2
  obtain ⟨airline, rr2, sm2⟩ := rd3.2 _ _ _ hf2
  replace sm2 := sm2 (fun n hn => by have := List.all_eq_true.1 hsz n (DataW.weights_mem_each (j := 2) (t := 3) rfl rfl n hn); simpa using this)
  obtain ⟨n2, rfl⟩ := okWide_int Try.underlying3 (hval 2 3 v2 rfl rfl)
  replace rr2 : (rInt .i64).rd W [] [.int .i64 n2] airline := rr2
  obtain ⟨e2, r_airline⟩ := un_int rr2
  obtain rfl : airline = n2 := by simpa using e2.symm
  have k3 := h3
  have lt3 : ∀ x ∈ p3, x.block < W.heap.size := by obtain ⟨m, hm⟩ := k3; exact DataW.trod_lt m _ _ _ hm
  obtain ⟨fu3, hf3⟩ := h3
  obtain ⟨turn, rr3, sm3⟩ := rd5.2 _ _ _ hf3
  replace sm3 := sm3 (fun n hn => by have := List.all_eq_true.1 hsz n (DataW.weights_mem_each (j := 3) (t := 5) rfl rfl n hn); simpa using this)
  obtain ⟨n3, rfl⟩ := okWide_int Try.underlying5 (hval 3 5 v3 rfl rfl)
  replace rr3 : rU8.rd W [] [.int .u8 n3] turn := rr3
  obtain rfl : n3 = (turn.toNat : Int) := by have := un_u8 rr3; simpa using this
  have hm : m4_overflightlaw37_CoalitionOwn r_ slots airline turn = some true := CoalitionOwn_law _ _ _ _ sm0 sm1 sm2 sm3
  have hc := Fn.calls (c4_overflightlaw37_CoalitionOwn (r_ := r_) (slots := slots) (airline := airline) (turn := turn) (w := W) (O := []) (by simp) r_r__slots f_r__owners f_r__costs f_slots r_airline hm)
  clear hA0 hval0
  refine Calls.mono hc ?_
  rintro e W' ⟨v, rfl, bel, hv⟩
  replace bel := bel.below; obtain rfl : v = .bool true := hv
  exact ⟨_, rfl, _, _, _, [], _, [], hW', trodAll_mk1 (shut_bool Try.underlying4 _), (trodAll_cons_mk (Below.trod laidOut (by kernel_rfl) (of_decide_eq_true (by kernel_rfl)) k0 bel lt0) (trodAll_cons_mk (Below.trod laidOut (by kernel_rfl) (of_decide_eq_true (by kernel_rfl)) k1 bel lt1) (trodAll_cons_mk (Below.trod laidOut (by kernel_rfl) (of_decide_eq_true (by kernel_rfl)) k2 bel lt2) (trodAll_cons_mk (Below.trod laidOut (by kernel_rfl) (of_decide_eq_true (by kernel_rfl)) k3 bel lt3) trodAll_mk0)))), rfl, bel.frame _, fun h => by cases h⟩
theorem over : Rows.coalitionOwnRow.holds Try.pinned (OpenSpec.ofChange Rows.coalitionOwnSpec) :=
  OpenClaim.holds_of_wide 4 Try.f4 rfl rfl rfl rfl rfl rfl rfl ⟨rfl, rfl, rfl, rfl, rfl⟩ rfl rfl rfl rfl rfl (by kernel_rfl) Try.func4 (by kernel_rfl)
    (of_decide_eq_true (by kernel_rfl)) (by unfold Func.isWrapper; first | (rw [if_pos (by decide +kernel)]; kernel_rfl) | (rw [if_neg (by decide +kernel)]; exact ⟨rfl, rfl⟩))
    (fun os started H enc _ => lifted os started H enc)
theorem proved : Rows.CoalitionOwnSaid := over
end Go.Proofs.Ythakjfdppgdmaaa.lawCoalitionOwn


