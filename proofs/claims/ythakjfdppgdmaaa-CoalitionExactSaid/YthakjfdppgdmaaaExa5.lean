/- What Blocks returns is a deviation that is better for all of the group, and if it returns nothing there is none, for every round, all slots and groups: the law CoalitionExact holds. -/
import Derived.Test.YthakjfdppgdmaaaExa4
import Derived.Test.YthakjfdppgdmaaaRows
import Derived.WalkKit
import Derived.ShutString
set_option linter.unusedVariables false
set_option linter.unusedSimpArgs false
set_option maxRecDepth 100000
set_option maxHeartbeats 0
namespace Go.Fx
open Go Go.RowKit Go.Proofs
def m20_overflightlaw37_better_B1 (r_ : XRound) (slots : List Int) (members_1 : (List Int)) (v_1 : Int) (map_1 : List (Int × Int)) (sf32 : Int → (List (Int × Int)) → Option Bool) (sf52 : Bool → Int → Option Bool) (own_1 : Bool) (v_2 : Int) : Option Bool :=
  bif (decide (v_2 < (members_1.length : Int))) then
    ck ((0 : Int) ≤ v_2 ∧ v_2 < (members_1.length : Int)) <|
    jn (fun (own_2 : Bool) =>
      jn (fun (v_3 : Bool) =>
        bif v_3 then
          some false
        else
          sf52 own_2 (IntKind.wrap .i64 (v_2 + 1)))
      (fun k80 =>
        bif (decide (v_2 < v_1)) then
          ck ((0 : Int) ≤ v_2 ∧ v_2 < (slots.length : Int)) <|
          k80 (decide ((slots.getD v_2.toNat default) = (slots.getD v_1.toNat default)))
        else
          k80 false))
    (fun k70 =>
      bif own_1 then
        k70 true
      else
        k70 (decide ((members_1.getD v_2.toNat default) = (slots.getD v_1.toNat default))))
  else
    ck ((0 : Int) ≤ v_1 ∧ v_1 < (members_1.length : Int)) <|
    jn (fun (v_4 : Bool) =>
      bif v_4 then
        some false
      else
        ck ((0 : Int) ≤ (members_1.getD v_1.toNat default) ∧ (members_1.getD v_1.toNat default) < (r_.owners.length : Int)) <|
        ck ((0 : Int) ≤ (members_1.getD v_1.toNat default) ∧ (members_1.getD v_1.toNat default) < (r_.costs.length : Int)) <|
        ck ((0 : Int) ≤ (slots.getD v_1.toNat default) ∧ (slots.getD v_1.toNat default) < ((r_.costs.getD (members_1.getD v_1.toNat default).toNat default).length : Int)) <|
        sf32 (IntKind.wrap .i64 (v_1 + 1)) (mput map_1 (r_.owners.getD (members_1.getD v_1.toNat default).toNat default) (IntKind.wrap .i64 (((mget map_1 (r_.owners.getD (members_1.getD v_1.toNat default).toNat default)).getD 0) + ((r_.costs.getD (members_1.getD v_1.toNat default).toNat default).getD (slots.getD v_1.toNat default).toNat default)))))
    (fun k106 =>
      bif (!own_1) then
        k106 true
      else
        bif (decide ((slots.getD v_1.toNat default) < 0)) then
          k106 true
        else
          bif (decide ((r_.costs.length : Int) ≤ (members_1.getD v_1.toNat default))) then
            k106 true
          else
            ck ((0 : Int) ≤ (members_1.getD v_1.toNat default) ∧ (members_1.getD v_1.toNat default) < (r_.costs.length : Int)) <|
            bif (decide (((r_.costs.getD (members_1.getD v_1.toNat default).toNat default).length : Int) ≤ (slots.getD v_1.toNat default))) then
              k106 true
            else
              ck ((0 : Int) ≤ (members_1.getD v_1.toNat default) ∧ (members_1.getD v_1.toNat default) < (r_.costs.length : Int)) <|
              ck ((0 : Int) ≤ (slots.getD v_1.toNat default) ∧ (slots.getD v_1.toNat default) < ((r_.costs.getD (members_1.getD v_1.toNat default).toNat default).length : Int)) <|
              k106 (decide (((r_.costs.getD (members_1.getD v_1.toNat default).toNat default).getD (slots.getD v_1.toNat default).toNat default) < 0)))

def m20_overflightlaw37_better_B2 (group : List Int) (than : List Int) (map_1 : List (Int × Int)) (sf253 : Int → Option Bool) (v_5 : Int) : Option Bool :=
  bif (decide (v_5 < (group.length : Int))) then
    ck ((0 : Int) ≤ v_5 ∧ v_5 < (group.length : Int)) <|
    jn (fun (v_6 : Bool) =>
      bif v_6 then
        some false
      else
        sf253 (IntKind.wrap .i64 (v_5 + 1)))
    (fun k272 =>
      bif (decide ((group.getD v_5.toNat default) < 0)) then
        k272 true
      else
        bif (decide ((than.length : Int) ≤ (group.getD v_5.toNat default))) then
          k272 true
        else
          ck ((0 : Int) ≤ (group.getD v_5.toNat default) ∧ (group.getD v_5.toNat default) < (than.length : Int)) <|
          k272 (decide ((than.getD (group.getD v_5.toNat default).toNat default) ≤ ((mget map_1 (group.getD v_5.toNat default)).getD 0))))
  else
    some true

def m20_overflightlaw37_better_B0 (r_ : XRound) (group : List Int) (slots : List Int) (than : List Int) (members_1 : (List Int)) (sf32 : Int → (List (Int × Int)) → Option Bool) (v_1 : Int) (map_1 : List (Int × Int)) : Option Bool :=
  bif (decide (v_1 < (slots.length : Int))) then
    ck ((0 : Int) ≤ v_1 ∧ v_1 < (slots.length : Int)) <|
    loop2 (m20_overflightlaw37_better_B1 r_ slots members_1 v_1 map_1 sf32) (((members_1.length : Int) - 0).toNat + 1) false 0
  else
    loop1 (m20_overflightlaw37_better_B2 group than map_1) (((group.length : Int) - 0).toNat + 1) 0

def m20_overflightlaw37_better (r_ : XRound) (group : List Int) (slots : List Int) (than : List Int) : Option Bool :=
  (m21_overflightlaw37_members r_ group).bind fun members_1 =>
  bif (decide ((slots.length : Int) ≠ (members_1.length : Int))) then
    some false
  else
    loop2 (m20_overflightlaw37_better_B0 r_ group slots than members_1) (((slots.length : Int) - 0).toNat + 1) 0 ([] : List (Int × Int))

theorem c20_overflightlaw37_better {w : World} {O : List Nat} {r_ : XRound} {group : List Int} {slots : List Int} {than : List Int} {a_r__owners : Option Addr} {c_r__owners : Nat} {a_r__costs : Option Addr} {c_r__costs : Nat} {a_group : Option Addr} {c_group : Nat} {a_slots : Option Addr} {c_slots : Nat} {a_than : Option Addr} {c_than : Nat} (hO : ∀ k ∈ O, k < w.heap.size) (r_r__slots : InK .i64 r_.slots) (f_r__owners : SlR (rInt .i64) w O a_r__owners c_r__owners r_.owners) (f_r__costs : SlR (rSl (rInt .i64)) w O a_r__costs c_r__costs r_.costs) (f_group : SlR (rInt .i64) w O a_group c_group group) (f_slots : SlR (rInt .i64) w O a_slots c_slots slots) (f_than : SlR (rInt .i64) w O a_than c_than than) {x : Bool} (hm : m20_overflightlaw37_better r_ group slots than = some x) :
    Ok Try.prog 20 [(Value.agg [(Value.int .i64 r_.slots), (Value.slice a_r__owners r_.owners.length c_r__owners), (Value.slice a_r__costs r_.costs.length c_r__costs)].toArray), (Value.slice a_group group.length c_group), (Value.slice a_slots slots.length c_slots), (Value.slice a_than than.length c_than)] w O vB x := by
  unfold m20_overflightlaw37_better at hm
  refine Fn_of_Wp (n := 140) (xs := [.tmp 8]) Try.func20 rfl Try.ntmps20 Try.results20 rfl ?_
  have hs := St.start hO
  refine Wp_seq ?_
  refine Wp_region ?_  -- 0 law.go:78
  refine Rg_op rfl (op_box (cs := [(Value.int .i64 r_.slots), (Value.slice a_r__owners r_.owners.length c_r__owners), (Value.slice a_r__costs r_.costs.length c_r__costs)]) hs rfl rfl ?_)
  intro b1 w2 _ p3 hs4
  replace f_r__owners := f_r__owners.step p3
  replace f_r__costs := f_r__costs.step p3
  replace f_group := f_group.step p3
  replace f_slots := f_slots.step p3
  replace f_than := f_than.step p3
  clear p3
  refine Rg_op rfl (op_assign (v := (Value.bool false)) rfl ?_)
  refine Rg_nil ?_
  refine Wp_seq ?_
  refine Wp_region ?_  -- 1 law.go:79
  refine Rg_op rfl (op_loadA (cs := [(Value.int .i64 r_.slots), (Value.slice a_r__owners r_.owners.length c_r__owners), (Value.slice a_r__costs r_.costs.length c_r__costs)]) (vs := [(Value.int .i64 r_.slots), (Value.slice a_r__owners r_.owners.length c_r__owners), (Value.slice a_r__costs r_.costs.length c_r__costs)]) (i := 0) ty25 hs4 rfl rfl rfl rfl ?_)
  refine Rg_op rfl (op_move (v := (Value.slice a_group group.length c_group)) rfl ?_)
  replace hm := bd hm; obtain ⟨members_1, hv6, hm⟩ := hm
  refine Rg_op rfl (op_call Try.call21 (g21_overflightlaw37_members (r_ := r_) (group := group) hs4.ltw r_r__slots f_r__owners f_r__costs f_group hv6) rfl ?_)
  rintro _ w8 ⟨hx9, a12, c13, k14, o15, rfl, hk16, f17⟩
  obtain ⟨hs11, p18⟩ := hs4.callG (o := o15) hx9 hk16
  rw [← ks_cons (o := o15)] at f17
  replace f_r__owners := f_r__owners.step p18
  replace f_r__costs := f_r__costs.step p18
  replace f_group := f_group.step p18
  replace f_slots := f_slots.step p18
  replace f_than := f_than.step p18
  clear p18 hs4
  refine Rg_op rfl (op_assign (v := (Value.slice a12 members_1.length c13)) rfl ?_)
  refine Rg_nil ?_
  refine Wp_seq ?_
  refine Wp_seq ?_
  refine Wp_region ?_  -- 2 law.go:80
  refine Rg_op rfl (op_move (v := (Value.slice a_slots slots.length c_slots)) rfl ?_)
  refine Rg_op rfl (op_len Try.underlying22 rfl ?_)
  refine Rg_op rfl (op_move (v := (Value.slice a12 members_1.length c13)) rfl ?_)
  refine Rg_op rfl (op_len Try.underlying22 rfl ?_)
  refine Rg_op rfl (op_neq rfl rfl ?_)
  refine Rg_nil ?_
  refine Wp_cond rfl (fun hc20 => ?_) (fun hc20 => ?_)
  ·
    replace hm := bif_t hm hc20
    refine Wp_seq ?_
    obtain ⟨hs21, p22⟩ := hs11.sub (bs' := []) (.cons _ (.cons _ List.Sublist.slnil))
    clear f_r__owners f_r__costs f_group f_slots f_than f17
    clear p22 hs11
    refine Wp_region ?_  -- 3 law.go:81
    refine Rg_op rfl (op_assign (v := (Value.bool false)) rfl ?_)
    refine Rg_nil ?_
    refine Wp_ret ?_
    have hz := step_all hs21
    refine ⟨_, (show Closes [] _ _ from rfl), [(Value.bool false)], ⟨rfl, trivial⟩, hs21.ext, ?_⟩
    exact Vr.eq (a := vB) (x := false) rfl (Option.some.inj hm)
  ·
    replace hm := bif_f hm hc20
    refine Wp_skip ?_
    refine Wp_seq ?_
    refine Wp_region ?_  -- 4 law.go:83
    refine Rg_op rfl (op_makeMap hs11 ?_)
    intro b23 w24 p25 hs26
    replace f_r__owners := f_r__owners.step p25
    replace f_r__costs := f_r__costs.step p25
    replace f_group := f_group.step p25
    replace f_slots := f_slots.step p25
    replace f_than := f_than.step p25
    replace f17 := f17.step p25
    clear p25 hs11
    have M27 : Mo .i64 (mvI .i64) (Obj.map #[] 0) ([] : List (Int × Int)) := Mo.nil_
    refine Rg_op rfl (op_assign (v := (Value.map (some b23))) rfl ?_)
    refine Rg_nil ?_
    refine Wp_seq ?_
    refine Wp_seq ?_
    refine Wp_region ?_  -- 5 law.go:84
    refine Rg_op rfl (op_move (v := (Value.slice a_slots slots.length c_slots)) rfl ?_)
    refine Rg_op rfl (op_len Try.underlying22 rfl ?_)
    refine Rg_op rfl (op_move (v := (Value.int .i64 0)) rfl ?_)
    refine Rg_nil ?_
    refine Wp_block ?_
    refine Wp_reset [] [(1, (Value.slice a_group group.length c_group)), (2, (Value.slice a_slots slots.length c_slots)), (3, (Value.slice a_than than.length c_than)), (4, (Value.pointer (some ⟨b1, 0, none⟩))), (9, (Value.slice a12 members_1.length c13)), (10, (Value.map (some b23))), (28, (Value.slice a_slots slots.length c_slots)), (29, (Value.int .i64 (slots.length : Int))), (30, (Value.int .i64 0))] rfl ⟨rfl, rfl, rfl, rfl, rfl, rfl, rfl, rfl, rfl, trivial⟩ fun ξ31 => ?_
    refine Wp_loopM [8, 11, 12, 13, 14, 15, 16, 30, 31, 32, 33, 34, 35, 36, 37, 38, 39, 40, 41, 42, 43, 44, 45, 46, 47, 48, 49, 50, 51, 52, 53, 54, 55, 56, 57, 58, 59, 60, 61, 62, 63, 64, 65, 66, 67, 68, 69, 70, 71, 72, 73, 74, 75, 76, 77, 78, 79, 80, 81, 82, 83, 84, 85, 86, 87, 88, 89, 90, 91, 92, 93, 94, 95, 96, 97, 98, 99, 100, 101, 102, 103, 104, 105, 106, 107, 108, 109, 110, 111, 112, 113, 114] (fun m fr w' => ∃ (v_1 : Int) (map_1 : List (Int × Int)) (o_g30 : Obj) (Ebs : Ents), Ebs = [(some b23, o_g30), (k14, o15), (some b1, Obj.cells [(Value.int .i64 r_.slots), (Value.slice a_r__owners r_.owners.length c_r__owners), (Value.slice a_r__costs r_.costs.length c_r__costs)].toArray 25)] ∧ fr [] [(30, (Value.int .i64 v_1))] ∧ Step (ks [(some b23, (Obj.map #[] 0)), (k14, o15), (some b1, Obj.cells [(Value.int .i64 r_.slots), (Value.slice a_r__owners r_.owners.length c_r__owners), (Value.slice a_r__costs r_.costs.length c_r__costs)].toArray 25)] O) w24 (ks Ebs O) w' ∧ St ⟨w, [], []⟩ O w' Ebs ∧ InK .i64 v_1 ∧ Mo .i64 (mvI .i64) o_g30 map_1 ∧ loop2 (m20_overflightlaw37_better_B0 r_ group slots than members_1) m v_1 map_1 = some x) (((slots.length : Int) - 0).toNat + 1) ⟨0, ([] : List (Int × Int)), (Obj.map #[] 0), _, rfl, ⟨Out.refl _ _, rfl, rfl, trivial⟩, Step.refl _ _, hs26, (show InK .i64 0 from by decide), M27, hm⟩ ?_ ?_
    · rintro _ _ ⟨_, _, _, _, _, _, _, _, _, _, hm⟩; exact loop2_z hm
    · rintro m35 K34 hK34 ρ40 w36 ⟨v_1, map_1, o_g30, Ebs, hEbs, hfr39, hst38, hs37, r_y29, M_g30, hm⟩
      obtain ⟨sf32, hsf33, hm⟩ := loop2_s hm; unfold m20_overflightlaw37_better_B0 at hm
      subst hEbs; rw [hfr39.eq]; clear hfr39
      replace f_r__owners := f_r__owners.step hst38
      replace f_r__costs := f_r__costs.step hst38
      replace f_group := f_group.step hst38
      replace f_slots := f_slots.step hst38
      replace f_than := f_than.step hst38
      replace f17 := f17.step hst38
      have ch41 := hst38
      refine Wp_seq ?_
      refine Wp_region ?_  -- 6 law.go:84
      refine Rg_op rfl (op_lss rfl rfl ?_)
      refine Rg_nil ?_
      refine Wp_seq ?_
      refine Wp_cond rfl (fun hc42 => ?_) (fun hc42 => ?_)
      ·
        replace hm := bif_t hm hc42
        refine Wp_skip ?_
        refine Wp_seq ?_
        refine Wp_block ?_
        refine Wp_seq ?_
        refine Wp_region ?_  -- 7 law.go:84
        refine Rg_op rfl (op_move (v := (Value.int .i64 v_1)) rfl ?_)
        replace hm := ck_some hm; obtain ⟨hc43, hm⟩ := hm
        refine Rg_op rfl (op_indexAddr (q := (rInt .i64)) ty22 ty3 rfl rfl f_slots rfl hc43.1 hc43.2 ?_)
        intro p44 f45
        refine Rg_op rfl (op_loadP ty3 rfl f45 rfl ?_)
        intro v46 h47
        obtain ⟨rfl, r_y48⟩ := un_int h47
        refine Rg_op rfl (op_assign (v := (Value.int .i64 v_1)) rfl ?_)
        refine Rg_op rfl (op_assign (v := (Value.int .i64 (slots.getD v_1.toNat default))) rfl ?_)
        refine Rg_nil ?_
        refine Wp_seq ?_
        clear f45
        refine Wp_region ?_  -- 8 law.go:85
        refine Rg_op rfl (op_assign (v := (Value.bool false)) rfl ?_)
        refine Rg_nil ?_
        refine Wp_seq ?_
        refine Wp_seq ?_
        refine Wp_region ?_  -- 9 law.go:86
        refine Rg_op rfl (op_move (v := (Value.slice a12 members_1.length c13)) rfl ?_)
        refine Rg_op rfl (op_len Try.underlying22 rfl ?_)
        refine Rg_op rfl (op_move (v := (Value.int .i64 0)) rfl ?_)
        refine Rg_nil ?_
        refine Wp_block ?_
        refine Wp_reset2 [8, 11, 12, 13, 14, 15, 16, 30, 31, 32, 33, 34, 35, 36, 37, 38, 39, 40, 41, 42, 43, 44, 45, 46, 47, 48, 49, 50, 51, 52, 53, 54, 55, 56, 57, 58, 59, 60, 61, 62, 63, 64, 65, 66, 67, 68, 69, 70, 71, 72, 73, 74, 75, 76, 77, 78, 79, 80, 81, 82, 83, 84, 85, 86, 87, 88, 89, 90, 91, 92, 93, 94, 95, 96, 97, 98, 99, 100, 101, 102, 103, 104, 105, 106, 107, 108, 109, 110, 111, 112, 113, 114] [] (updL ⟨ξ31, []⟩ [(1, (Value.slice a_group group.length c_group)), (2, (Value.slice a_slots slots.length c_slots)), (3, (Value.slice a_than than.length c_than)), (4, (Value.pointer (some ⟨b1, 0, none⟩))), (9, (Value.slice a12 members_1.length c13)), (10, (Value.map (some b23))), (28, (Value.slice a_slots slots.length c_slots)), (29, (Value.int .i64 (slots.length : Int))), (30, (Value.int .i64 0))]) [(11, (Value.int .i64 v_1)), (12, (Value.int .i64 (slots.getD v_1.toNat default))), (13, (Value.bool false)), (30, (Value.int .i64 v_1)), (35, (Value.slice a12 members_1.length c13)), (36, (Value.int .i64 (members_1.length : Int))), (37, (Value.int .i64 0))] (by repeat (first | with_reducible exact Out.refl _ _ | refine Out.upd ?_ rfl | refine Out.updL ?_ rfl | refine Out.mix' ?_ rfl | exact Out.refl _ _)) rfl ⟨rfl, rfl, rfl, rfl, rfl, rfl, rfl, trivial⟩ fun ξ51 => ?_
        refine Wp_loopM [8, 13, 14, 15, 37, 38, 39, 40, 41, 42, 43, 44, 45, 46, 47, 48, 49, 50, 51, 52, 53, 54, 55, 56, 57, 58, 59] (fun m fr w' => ∃ (own_1 : Bool) (v_2 : Int) (Ebs : Ents), Ebs = [(some b23, o_g30), (k14, o15), (some b1, Obj.cells [(Value.int .i64 r_.slots), (Value.slice a_r__owners r_.owners.length c_r__owners), (Value.slice a_r__costs r_.costs.length c_r__costs)].toArray 25)] ∧ fr [] [(13, (Value.bool own_1)), (37, (Value.int .i64 v_2))] ∧ Step (ks [(some b23, o_g30), (k14, o15), (some b1, Obj.cells [(Value.int .i64 r_.slots), (Value.slice a_r__owners r_.owners.length c_r__owners), (Value.slice a_r__costs r_.costs.length c_r__costs)].toArray 25)] O) w36 (ks Ebs O) w' ∧ St ⟨w, [], []⟩ O w' Ebs ∧ InK .i64 v_2 ∧ loop2 (m20_overflightlaw37_better_B1 r_ slots members_1 v_1 map_1 sf32) m own_1 v_2 = some x) (((members_1.length : Int) - 0).toNat + 1) ⟨false, 0, _, rfl, ⟨Out.refl _ _, rfl, rfl, rfl, trivial⟩, Step.refl _ _, hs37, (show InK .i64 0 from by decide), hm⟩ ?_ ?_
        · rintro _ _ ⟨_, _, _, _, _, _, _, _, hm⟩; exact loop2_z hm
        · rintro m55 K54 hK54 ρ60 w56 ⟨own_1, v_2, Ebs, hEbs, hfr59, hst58, hs57, r_y50, hm⟩
          obtain ⟨sf52, hsf53, hm⟩ := loop2_s hm; unfold m20_overflightlaw37_better_B1 at hm
          subst hEbs; rw [hfr59.eq]; clear hfr59
          replace f_r__owners := f_r__owners.step hst58
          replace f_r__costs := f_r__costs.step hst58
          replace f_group := f_group.step hst58
          replace f_slots := f_slots.step hst58
          replace f_than := f_than.step hst58
          replace f17 := f17.step hst58
          replace ch41 := ch41.trans hst58
          have ch61 := hst58
          refine Wp_seq ?_
          refine Wp_region ?_  -- 10 law.go:86
          refine Rg_op rfl (op_lss rfl rfl ?_)
          refine Rg_nil ?_
          refine Wp_seq ?_
          refine Wp_cond rfl (fun hc62 => ?_) (fun hc62 => ?_)
          ·
            replace hm := bif_t hm hc62
            refine Wp_skip ?_
            refine Wp_seq ?_
            refine Wp_block ?_
            refine Wp_seq ?_
            refine Wp_region ?_  -- 11 law.go:86
            refine Rg_op rfl (op_move (v := (Value.int .i64 v_2)) rfl ?_)
            replace hm := ck_some hm; obtain ⟨hc63, hm⟩ := hm
            refine Rg_op rfl (op_indexAddrG ty22 ty3 rfl rfl f17 hc63 ?_)
            rintro b64 rfl rfl
            refine Rg_op rfl (op_loadG (i := 1) ty3 rfl hs57 rfl rfl f17 hc63 ?_)
            intro v65 h66
            obtain ⟨rfl, r_y67⟩ := un_int h66
            refine Rg_op rfl (op_assign (v := (Value.int .i64 v_2)) rfl ?_)
            refine Rg_op rfl (op_assign (v := (Value.int .i64 (members_1.getD v_2.toNat default))) rfl ?_)
            refine Rg_nil ?_
            refine Wp_reset2 [8, 13, 14, 15, 37, 38, 39, 40, 41, 42, 43, 44, 45, 46, 47, 48, 49, 50, 51, 52, 53, 54, 55, 56, 57, 58, 59] [] (updL (mix [8, 11, 12, 13, 14, 15, 16, 30, 31, 32, 33, 34, 35, 36, 37, 38, 39, 40, 41, 42, 43, 44, 45, 46, 47, 48, 49, 50, 51, 52, 53, 54, 55, 56, 57, 58, 59, 60, 61, 62, 63, 64, 65, 66, 67, 68, 69, 70, 71, 72, 73, 74, 75, 76, 77, 78, 79, 80, 81, 82, 83, 84, 85, 86, 87, 88, 89, 90, 91, 92, 93, 94, 95, 96, 97, 98, 99, 100, 101, 102, 103, 104, 105, 106, 107, 108, 109, 110, 111, 112, 113, 114] [] ξ51 (updL ⟨ξ31, []⟩ [(1, (Value.slice a_group group.length c_group)), (2, (Value.slice a_slots slots.length c_slots)), (3, (Value.slice a_than than.length c_than)), (4, (Value.pointer (some ⟨b1, 0, none⟩))), (9, (Value.slice (some ⟨b64, 0, none⟩) members_1.length c13)), (10, (Value.map (some b23))), (28, (Value.slice a_slots slots.length c_slots)), (29, (Value.int .i64 (slots.length : Int))), (30, (Value.int .i64 0))])) [(11, (Value.int .i64 v_1)), (12, (Value.int .i64 (slots.getD v_1.toNat default))), (13, (Value.bool false)), (30, (Value.int .i64 v_1)), (35, (Value.slice (some ⟨b64, 0, none⟩) members_1.length c13)), (36, (Value.int .i64 (members_1.length : Int))), (37, (Value.int .i64 0))]) [(13, (Value.bool own_1)), (14, (Value.int .i64 v_2)), (15, (Value.int .i64 (members_1.getD v_2.toNat default))), (37, (Value.int .i64 v_2))] (by repeat (first | with_reducible exact Out.refl _ _ | refine Out.upd ?_ rfl | refine Out.updL ?_ rfl | refine Out.mix' ?_ rfl | exact Out.refl _ _)) rfl ⟨rfl, rfl, rfl, rfl, trivial⟩ fun ξ68 => ?_
            replace hm := jn_elim hm; obtain ⟨k70, hk71, hm⟩ := hm
            refine Wp_seqJ [13, 42, 43, 44, 45, 46, 47] (fun fr w' => ∃ (own_2 : Bool) (Ebs : Ents), Ebs = [(some b23, o_g30), (some b64, o15), (some b1, Obj.cells [(Value.int .i64 r_.slots), (Value.slice a_r__owners r_.owners.length c_r__owners), (Value.slice a_r__costs r_.costs.length c_r__costs)].toArray 25)] ∧ fr [] [(13, (Value.bool own_2))] ∧ Step (ks [(some b23, o_g30), (some b64, o15), (some b1, Obj.cells [(Value.int .i64 r_.slots), (Value.slice a_r__owners r_.owners.length c_r__owners), (Value.slice a_r__costs r_.costs.length c_r__costs)].toArray 25)] O) w56 (ks Ebs O) w' ∧ St ⟨w, [], []⟩ O w' Ebs ∧ k70 own_2 = some x) ?_ ?_
            ·
              rintro ρ77 w73 ⟨own_2, Ebs, hEbs, hfr76, hst75, hs74, hm⟩
              replace hm := jnE1 hk71 hm
              subst hEbs; rw [hfr76.eq]; clear hfr76
              replace f_r__owners := f_r__owners.step hst75
              replace f_r__costs := f_r__costs.step hst75
              replace f_group := f_group.step hst75
              replace f_slots := f_slots.step hst75
              replace f_than := f_than.step hst75
              replace f17 := f17.step hst75
              replace ch41 := ch41.trans hst75
              replace ch61 := ch61.trans hst75
              clear hst75 hs57
              refine Wp_reset2 [8, 13, 14, 15, 37, 38, 39, 40, 41, 42, 43, 44, 45, 46, 47, 48, 49, 50, 51, 52, 53, 54, 55, 56, 57, 58, 59] [] (updL (mix [8, 11, 12, 13, 14, 15, 16, 30, 31, 32, 33, 34, 35, 36, 37, 38, 39, 40, 41, 42, 43, 44, 45, 46, 47, 48, 49, 50, 51, 52, 53, 54, 55, 56, 57, 58, 59, 60, 61, 62, 63, 64, 65, 66, 67, 68, 69, 70, 71, 72, 73, 74, 75, 76, 77, 78, 79, 80, 81, 82, 83, 84, 85, 86, 87, 88, 89, 90, 91, 92, 93, 94, 95, 96, 97, 98, 99, 100, 101, 102, 103, 104, 105, 106, 107, 108, 109, 110, 111, 112, 113, 114] [] ξ51 (updL ⟨ξ31, []⟩ [(1, (Value.slice a_group group.length c_group)), (2, (Value.slice a_slots slots.length c_slots)), (3, (Value.slice a_than than.length c_than)), (4, (Value.pointer (some ⟨b1, 0, none⟩))), (9, (Value.slice (some ⟨b64, 0, none⟩) members_1.length c13)), (10, (Value.map (some b23))), (28, (Value.slice a_slots slots.length c_slots)), (29, (Value.int .i64 (slots.length : Int))), (30, (Value.int .i64 0))])) [(11, (Value.int .i64 v_1)), (12, (Value.int .i64 (slots.getD v_1.toNat default))), (13, (Value.bool false)), (30, (Value.int .i64 v_1)), (35, (Value.slice (some ⟨b64, 0, none⟩) members_1.length c13)), (36, (Value.int .i64 (members_1.length : Int))), (37, (Value.int .i64 0))]) [(13, (Value.bool own_2)), (14, (Value.int .i64 v_2)), (37, (Value.int .i64 v_2))] (by repeat (first | with_reducible exact Out.refl _ _ | refine Out.upd ?_ rfl | refine Out.updL ?_ rfl | refine Out.mix' ?_ rfl | exact Out.refl _ _)) rfl ⟨rfl, rfl, rfl, trivial⟩ fun ξ78 => ?_
              replace hm := jn_elim hm; obtain ⟨k80, hk81, hm⟩ := hm
              refine Wp_seqJ [48, 49, 50, 51, 52, 53, 54, 55, 56, 57, 58] (fun fr w' => ∃ (v_3 : Bool) (Ebs : Ents), Ebs = [(some b23, o_g30), (some b64, o15), (some b1, Obj.cells [(Value.int .i64 r_.slots), (Value.slice a_r__owners r_.owners.length c_r__owners), (Value.slice a_r__costs r_.costs.length c_r__costs)].toArray 25)] ∧ fr [] [(58, (Value.bool v_3))] ∧ Step (ks [(some b23, o_g30), (some b64, o15), (some b1, Obj.cells [(Value.int .i64 r_.slots), (Value.slice a_r__owners r_.owners.length c_r__owners), (Value.slice a_r__costs r_.costs.length c_r__costs)].toArray 25)] O) w73 (ks Ebs O) w' ∧ St ⟨w, [], []⟩ O w' Ebs ∧ k80 v_3 = some x) ?_ ?_
              ·
                rintro ρ87 w83 ⟨v_3, Ebs, hEbs, hfr86, hst85, hs84, hm⟩
                replace hm := jnE1 hk81 hm
                subst hEbs; rw [hfr86.eq]; clear hfr86
                replace f_r__owners := f_r__owners.step hst85
                replace f_r__costs := f_r__costs.step hst85
                replace f_group := f_group.step hst85
                replace f_slots := f_slots.step hst85
                replace f_than := f_than.step hst85
                replace f17 := f17.step hst85
                replace ch41 := ch41.trans hst85
                replace ch61 := ch61.trans hst85
                clear hst85 hs74
                refine Wp_cond rfl (fun hc88 => ?_) (fun hc88 => ?_)
                ·
                  replace hm := bif_t hm hc88
                  refine Wp_seq ?_
                  clear f_group f_slots f_than f17
                  refine Wp_region ?_  -- 14 law.go:89
                  refine Rg_op rfl (op_assign (v := (Value.bool false)) rfl ?_)
                  refine Rg_nil ?_
                  refine Wp_ret ?_
                  have hz := step_all hs84
                  replace f_r__owners := f_r__owners.step hz
                  replace f_r__costs := f_r__costs.step hz
                  refine ⟨_, (show Closes [] _ _ from rfl), [(Value.bool false)], ⟨rfl, trivial⟩, hs84.ext, ?_⟩
                  exact Vr.eq (a := vB) (x := false) rfl (Option.some.inj hm)
                ·
                  replace hm := bif_f hm hc88
                  refine Wp_skip ?_
                  refine Wp_region ?_  -- 15 law.go:86
                  refine Rg_op rfl (op_addw rfl rfl ?_)
                  refine Rg_op rfl (op_move (v := (Value.int .i64 (IntKind.wrap .i64 (v_2 + 1)))) rfl ?_)
                  refine Rg_nil ?_
                  exact hK54 _ _ ⟨own_2, (IntKind.wrap .i64 (v_2 + 1)), _, rfl, ⟨(by repeat (first | with_reducible exact Out.refl _ _ | refine Out.upd ?_ rfl | refine Out.updL ?_ rfl | refine Out.mix' ?_ rfl | exact Out.refl _ _)), rfl, rfl, rfl, trivial⟩, ch61, hs84, (inK_wrap .i64 _), jnE2 hsf53 hm⟩
              ·
                intro K82 hK82
                have ch89 := Step.refl (ks [(some b23, o_g30), (some b64, o15), (some b1, Obj.cells [(Value.int .i64 r_.slots), (Value.slice a_r__owners r_.owners.length c_r__owners), (Value.slice a_r__costs r_.costs.length c_r__costs)].toArray 25)] O) w73
                refine Wp_region ?_  -- 13 law.go:88
                refine Rg_op rfl (op_move (v := (Value.int .i64 v_2)) rfl ?_)
                refine Rg_op rfl (op_move (v := (Value.int .i64 v_1)) rfl ?_)
                refine Rg_op rfl (op_lss rfl rfl ?_)
                refine Rg_op rfl (op_move (v := (Value.bool (decide (v_2 < v_1)))) rfl ?_)
                refine Rg_case (fun hg90 => ?_) (fun hg90 => ?_)
                ·
                  replace hm := bif_t hm hg90
                  refine Rg_opg rfl rfl rfl (op_move (v := (Value.slice a_slots slots.length c_slots)) rfl ?_)
                  refine Rg_opg rfl rfl rfl (op_move (v := (Value.int .i64 v_2)) rfl ?_)
                  replace hm := ck_some hm; obtain ⟨hc91, hm⟩ := hm
                  refine Rg_opg rfl rfl rfl (op_indexAddr (q := (rInt .i64)) ty22 ty3 rfl rfl f_slots rfl hc91.1 hc91.2 ?_)
                  intro p92 f93
                  refine Rg_opg rfl rfl rfl (op_loadP ty3 rfl f93 rfl ?_)
                  intro v94 h95
                  obtain ⟨rfl, r_y96⟩ := un_int h95
                  refine Rg_opg rfl rfl rfl (op_move (v := (Value.int .i64 (slots.getD v_1.toNat default))) rfl ?_)
                  refine Rg_opg rfl rfl rfl (op_eql rfl rfl ?_)
                  refine Rg_op rfl (op_pick_t (v := (Value.bool (decide ((slots.getD v_2.toNat default) = (slots.getD v_1.toNat default))))) rfl rfl ?_)
                  refine Rg_nil ?_
                  exact hK82 _ _ ⟨(decide ((slots.getD v_2.toNat default) = (slots.getD v_1.toNat default))), _, rfl, ⟨(by repeat (first | with_reducible exact Out.refl _ _ | refine Out.upd ?_ rfl | refine Out.updL ?_ rfl | refine Out.mix' ?_ rfl | exact Out.refl _ _)), rfl, rfl, trivial⟩, ch89, hs74, hm⟩
                ·
                  replace hm := bif_f hm hg90
                  refine Rg_opx rfl (asB_ne rfl rfl) rfl ?_
                  refine Rg_opx rfl (asB_ne rfl rfl) rfl ?_
                  refine Rg_opx rfl (asB_ne rfl rfl) rfl ?_
                  refine Rg_opx rfl (asB_ne rfl rfl) rfl ?_
                  refine Rg_opx rfl (asB_ne rfl rfl) rfl ?_
                  refine Rg_opx rfl (asB_ne rfl rfl) rfl ?_
                  refine Rg_op rfl (op_pick_f (v := (Value.bool false)) rfl rfl ?_)
                  refine Rg_nil ?_
                  exact hK82 _ _ ⟨false, _, rfl, ⟨(by repeat (first | with_reducible exact Out.refl _ _ | refine Out.upd ?_ rfl | refine Out.updL ?_ rfl | refine Out.mix' ?_ rfl | exact Out.refl _ _)), rfl, rfl, trivial⟩, ch89, hs74, hm⟩
            ·
              intro K72 hK72
              have ch97 := Step.refl (ks [(some b23, o_g30), (some b64, o15), (some b1, Obj.cells [(Value.int .i64 r_.slots), (Value.slice a_r__owners r_.owners.length c_r__owners), (Value.slice a_r__costs r_.costs.length c_r__costs)].toArray 25)] O) w56
              refine Wp_region ?_  -- 12 law.go:87
              refine Rg_op rfl (op_move (v := (Value.bool own_1)) rfl ?_)
              refine Rg_op rfl (op_move (v := (Value.bool own_1)) rfl ?_)
              refine Rg_case (fun hg98 => ?_) (fun hg98 => ?_)
              ·
                replace hm := bif_t hm hg98
                refine Rg_opx rfl (asB_ne rfl rfl) rfl ?_
                refine Rg_opx rfl (asB_ne rfl rfl) rfl ?_
                refine Rg_opx rfl (asB_ne rfl rfl) rfl ?_
                refine Rg_op rfl (op_pick_t (v := (Value.bool true)) rfl rfl ?_)
                refine Rg_op rfl (op_assign (v := (Value.bool true)) rfl ?_)
                refine Rg_nil ?_
                exact hK72 _ _ ⟨true, _, rfl, ⟨(by repeat (first | with_reducible exact Out.refl _ _ | refine Out.upd ?_ rfl | refine Out.updL ?_ rfl | refine Out.mix' ?_ rfl | exact Out.refl _ _)), rfl, rfl, trivial⟩, ch97, hs57, hm⟩
              ·
                replace hm := bif_f hm hg98
                refine Rg_opg rfl rfl rfl (op_move (v := (Value.int .i64 (members_1.getD v_2.toNat default))) rfl ?_)
                refine Rg_opg rfl rfl rfl (op_move (v := (Value.int .i64 (slots.getD v_1.toNat default))) rfl ?_)
                refine Rg_opg rfl rfl rfl (op_eql rfl rfl ?_)
                refine Rg_op rfl (op_pick_f (v := (Value.bool (decide ((members_1.getD v_2.toNat default) = (slots.getD v_1.toNat default))))) rfl rfl ?_)
                refine Rg_op rfl (op_assign (v := (Value.bool (decide ((members_1.getD v_2.toNat default) = (slots.getD v_1.toNat default))))) rfl ?_)
                refine Rg_nil ?_
                exact hK72 _ _ ⟨(decide ((members_1.getD v_2.toNat default) = (slots.getD v_1.toNat default))), _, rfl, ⟨(by repeat (first | with_reducible exact Out.refl _ _ | refine Out.upd ?_ rfl | refine Out.updL ?_ rfl | refine Out.mix' ?_ rfl | exact Out.refl _ _)), rfl, rfl, trivial⟩, ch97, hs57, hm⟩
          ·
            replace hm := bif_f hm hc62
            refine Wp_exit ?_
            refine Wp_seq ?_
            refine Wp_region ?_  -- 16 law.go:92
            refine Rg_op rfl (op_move (v := (Value.slice a12 members_1.length c13)) rfl ?_)
            refine Rg_op rfl (op_move (v := (Value.int .i64 v_1)) rfl ?_)
            replace hm := ck_some hm; obtain ⟨hc99, hm⟩ := hm
            refine Rg_op rfl (op_indexAddrG ty22 ty3 rfl rfl f17 hc99 ?_)
            rintro b100 rfl rfl
            refine Rg_op rfl (op_loadG (i := 1) ty3 rfl hs57 rfl rfl f17 hc99 ?_)
            intro v101 h102
            obtain ⟨rfl, r_y103⟩ := un_int h102
            refine Rg_op rfl (op_assign (v := (Value.int .i64 (members_1.getD v_1.toNat default))) rfl ?_)
            refine Rg_nil ?_
            refine Wp_seq ?_
            refine Wp_reset2 [8, 11, 12, 13, 14, 15, 16, 30, 31, 32, 33, 34, 35, 36, 37, 38, 39, 40, 41, 42, 43, 44, 45, 46, 47, 48, 49, 50, 51, 52, 53, 54, 55, 56, 57, 58, 59, 60, 61, 62, 63, 64, 65, 66, 67, 68, 69, 70, 71, 72, 73, 74, 75, 76, 77, 78, 79, 80, 81, 82, 83, 84, 85, 86, 87, 88, 89, 90, 91, 92, 93, 94, 95, 96, 97, 98, 99, 100, 101, 102, 103, 104, 105, 106, 107, 108, 109, 110, 111, 112, 113, 114] [] (updL ⟨ξ31, []⟩ [(1, (Value.slice a_group group.length c_group)), (2, (Value.slice a_slots slots.length c_slots)), (3, (Value.slice a_than than.length c_than)), (4, (Value.pointer (some ⟨b1, 0, none⟩))), (9, (Value.slice (some ⟨b100, 0, none⟩) members_1.length c13)), (10, (Value.map (some b23))), (28, (Value.slice a_slots slots.length c_slots)), (29, (Value.int .i64 (slots.length : Int))), (30, (Value.int .i64 0))]) [(12, (Value.int .i64 (slots.getD v_1.toNat default))), (13, (Value.bool own_1)), (16, (Value.int .i64 (members_1.getD v_1.toNat default))), (30, (Value.int .i64 v_1))] (by repeat (first | with_reducible exact Out.refl _ _ | refine Out.upd ?_ rfl | refine Out.updL ?_ rfl | refine Out.mix' ?_ rfl | exact Out.refl _ _)) rfl ⟨rfl, rfl, rfl, rfl, trivial⟩ fun ξ104 => ?_
            replace hm := jn_elim hm; obtain ⟨k106, hk107, hm⟩ := hm
            refine Wp_seqJ [64, 65, 66, 67, 68, 69, 70, 71, 72, 73, 74, 75, 76, 77, 78, 79, 80, 81, 82, 83, 84, 85, 86, 87, 88, 89, 90, 91, 92, 93, 94, 95, 96, 97] (fun fr w' => ∃ (v_4 : Bool) (Ebs : Ents), Ebs = [(some b23, o_g30), (some b100, o15), (some b1, Obj.cells [(Value.int .i64 r_.slots), (Value.slice a_r__owners r_.owners.length c_r__owners), (Value.slice a_r__costs r_.costs.length c_r__costs)].toArray 25)] ∧ fr [] [(97, (Value.bool v_4))] ∧ Step (ks [(some b23, o_g30), (some b100, o15), (some b1, Obj.cells [(Value.int .i64 r_.slots), (Value.slice a_r__owners r_.owners.length c_r__owners), (Value.slice a_r__costs r_.costs.length c_r__costs)].toArray 25)] O) w56 (ks Ebs O) w' ∧ St ⟨w, [], []⟩ O w' Ebs ∧ k106 v_4 = some x) ?_ ?_
            ·
              rintro ρ113 w109 ⟨v_4, Ebs, hEbs, hfr112, hst111, hs110, hm⟩
              replace hm := jnE1 hk107 hm
              subst hEbs; rw [hfr112.eq]; clear hfr112
              replace f_r__owners := f_r__owners.step hst111
              replace f_r__costs := f_r__costs.step hst111
              replace f_group := f_group.step hst111
              replace f_slots := f_slots.step hst111
              replace f_than := f_than.step hst111
              replace f17 := f17.step hst111
              replace ch41 := ch41.trans hst111
              replace ch61 := ch61.trans hst111
              clear hst111 hs57
              refine Wp_cond rfl (fun hc114 => ?_) (fun hc114 => ?_)
              ·
                replace hm := bif_t hm hc114
                refine Wp_seq ?_
                clear f_group f_slots f_than f17
                refine Wp_region ?_  -- 18 law.go:94
                refine Rg_op rfl (op_assign (v := (Value.bool false)) rfl ?_)
                refine Rg_nil ?_
                refine Wp_ret ?_
                have hz := step_all hs110
                replace f_r__owners := f_r__owners.step hz
                replace f_r__costs := f_r__costs.step hz
                refine ⟨_, (show Closes [] _ _ from rfl), [(Value.bool false)], ⟨rfl, trivial⟩, hs110.ext, ?_⟩
                exact Vr.eq (a := vB) (x := false) rfl (Option.some.inj hm)
              ·
                replace hm := bif_f hm hc114
                refine Wp_skip ?_
                refine Wp_drawR (g0 := []) (m := 15) (fl := []) (TS_inv hs110) (.inl rfl) rfl (by decide +kernel) ?_  -- 19
                refine Dw_eq (Value.map (some b23)) (fun ρ115 w116 g hle hi ht => ?_) ?_
                ·
                  obtain ⟨-, hst, -⟩ := hle
                  refine StepOp_plain (op_move (v := (Value.map (some b23))) (ht 10 rfl) ?_)
                  exact Goes.same hi rfl
                refine Dw_eq (Value.pointer (some ⟨b1, 1, none⟩)) (fun ρ118 w119 g hle hi ht => ?_) ?_
                ·
                  obtain ⟨-, hst, -⟩ := hle
                  refine StepOp_plain (op_fieldAddr ty25 rfl ty22 (by decide) (ht 4 rfl) (rfl : _ = (⟨_, 1, none⟩ : Addr)) ?_)
                  exact Goes.same hi rfl
                refine Dw_eq (Value.slice a_r__owners r_.owners.length c_r__owners) (fun ρ121 w122 g hle hi ht => ?_) ?_
                ·
                  obtain ⟨-, hst, -⟩ := hle
                  have hsn := (Step.nx hi).1
                  refine StepOp_plain (op_load (cs := [(Value.int .i64 r_.slots), (Value.slice a_r__owners r_.owners.length c_r__owners), (Value.slice a_r__costs r_.costs.length c_r__costs)]) (i := 2) ty22 hsn (ht 99 rfl) rfl rfl ?_)
                  exact Goes.same hi rfl
                refine Dw_eq (Value.int .i64 (members_1.getD v_1.toNat default)) (fun ρ124 w125 g hle hi ht => ?_) ?_
                ·
                  obtain ⟨-, hst, -⟩ := hle
                  refine StepOp_plain (op_move (v := (Value.int .i64 (members_1.getD v_1.toNat default))) (ht 16 rfl) ?_)
                  exact Goes.same hi rfl
                replace hm := ck_some hm; obtain ⟨hc130, hm⟩ := hm
                refine Dw_op (VP O [(some b23, o_g30), (some b100, o15), (some b1, Obj.cells [(Value.int .i64 r_.slots), (Value.slice a_r__owners r_.owners.length c_r__owners), (Value.slice a_r__costs r_.costs.length c_r__costs)].toArray 25)] (rInt .i64) (r_.owners.getD (members_1.getD v_1.toNat default).toNat default)) (VP.stab _ _) (fun ρ127 w128 g hle hi ht => ?_) ?_
                ·
                  obtain ⟨-, hst, -⟩ := hle
                  replace f_r__owners := f_r__owners.step hst
                  refine StepOp_plain (op_indexAddr (q := (rInt .i64)) ty22 ty3 (ht 100 rfl) (ht 101 rfl) f_r__owners rfl hc130.1 hc130.2 ?_)
                  intro p131 f132
                  exact Goes.same hi ⟨_, rfl, f132⟩
                refine Dw_op (VD O [(some b23, o_g30), (some b100, o15), (some b1, Obj.cells [(Value.int .i64 r_.slots), (Value.slice a_r__owners r_.owners.length c_r__owners), (Value.slice a_r__costs r_.costs.length c_r__costs)].toArray 25)] (vI .i64) (r_.owners.getD (members_1.getD v_1.toNat default).toNat default)) (VD.stab _ _) (fun ρ133 w134 g hle hi ht => ?_) ?_
                ·
                  obtain ⟨-, hst, -⟩ := hle
                  obtain ⟨p136, q137, f138⟩ := ht 102 rfl
                  refine StepOp_plain (op_loadP ty3 q137 f138 rfl ?_)
                  intro v139 h140
                  obtain ⟨rfl, r_y141⟩ := un_int h140
                  exact Goes.same hi (show Vr.vd (vI .i64) _ _ _ _ from ⟨rfl, r_y141⟩)
                refine Dw_eq (Value.int .i64 ((mget map_1 (r_.owners.getD (members_1.getD v_1.toNat default).toNat default)).getD 0)) (fun ρ142 w143 g hle hi ht => ?_) ?_
                ·
                  obtain ⟨-, hst, -⟩ := hle
                  have hsn := (Step.nx hi).1
                  have h145 : Vr.vd (vI .i64) _ _ _ _ := ht 103 rfl
                  obtain ⟨q146, r_y147⟩ := h145
                  refine StepOp_plain (op_lookup (q := .i64) (m := (mvI .i64)) (z := 0) Try.underlying55 Try.underlying3 Try.zeroValue3 (hsn.get (i := 0) rfl) M_g30 (ht 98 rfl) q146 ?_)
                  exact Goes.same hi rfl
                refine Dw_eq (Value.pointer (some ⟨b1, 2, none⟩)) (fun ρ148 w149 g hle hi ht => ?_) ?_
                ·
                  obtain ⟨-, hst, -⟩ := hle
                  refine StepOp_plain (op_fieldAddr ty25 rfl ty23 (by decide) (ht 4 rfl) (rfl : _ = (⟨_, 2, none⟩ : Addr)) ?_)
                  exact Goes.same hi rfl
                refine Dw_eq (Value.slice a_r__costs r_.costs.length c_r__costs) (fun ρ151 w152 g hle hi ht => ?_) ?_
                ·
                  obtain ⟨-, hst, -⟩ := hle
                  have hsn := (Step.nx hi).1
                  refine StepOp_plain (op_load (cs := [(Value.int .i64 r_.slots), (Value.slice a_r__owners r_.owners.length c_r__owners), (Value.slice a_r__costs r_.costs.length c_r__costs)]) (i := 2) ty23 hsn (ht 105 rfl) rfl rfl ?_)
                  exact Goes.same hi rfl
                refine Dw_eq (Value.int .i64 (members_1.getD v_1.toNat default)) (fun ρ154 w155 g hle hi ht => ?_) ?_
                ·
                  obtain ⟨-, hst, -⟩ := hle
                  refine StepOp_plain (op_move (v := (Value.int .i64 (members_1.getD v_1.toNat default))) (ht 16 rfl) ?_)
                  exact Goes.same hi rfl
                replace hm := ck_some hm; obtain ⟨hc160, hm⟩ := hm
                refine Dw_op (VP O [(some b23, o_g30), (some b100, o15), (some b1, Obj.cells [(Value.int .i64 r_.slots), (Value.slice a_r__owners r_.owners.length c_r__owners), (Value.slice a_r__costs r_.costs.length c_r__costs)].toArray 25)] (rSl (rInt .i64)) (r_.costs.getD (members_1.getD v_1.toNat default).toNat default)) (VP.stab _ _) (fun ρ157 w158 g hle hi ht => ?_) ?_
                ·
                  obtain ⟨-, hst, -⟩ := hle
                  replace f_r__costs := f_r__costs.step hst
                  refine StepOp_plain (op_indexAddr (q := (rSl (rInt .i64))) ty23 ty22 (ht 106 rfl) (ht 107 rfl) f_r__costs rfl hc160.1 hc160.2 ?_)
                  intro p161 f162
                  exact Goes.same hi ⟨_, rfl, f162⟩
                refine Dw_op (VD O [(some b23, o_g30), (some b100, o15), (some b1, Obj.cells [(Value.int .i64 r_.slots), (Value.slice a_r__owners r_.owners.length c_r__owners), (Value.slice a_r__costs r_.costs.length c_r__costs)].toArray 25)] (vC (rSl (rInt .i64))) (r_.costs.getD (members_1.getD v_1.toNat default).toNat default)) (VD.stab _ _) (fun ρ163 w164 g hle hi ht => ?_) ?_
                ·
                  obtain ⟨-, hst, -⟩ := hle
                  obtain ⟨p166, q167, f168⟩ := ht 108 rfl
                  refine StepOp_plain (op_loadP ty22 q167 f168 rfl ?_)
                  intro v169 h170
                  obtain ⟨a_y171, c_y171, rfl, f_y171⟩ := un_sl h170
                  exact Goes.same hi (show Vr.vd (vC (rSl (rInt .i64))) _ _ _ _ from (mkC (mk_sl f_y171)))
                refine Dw_eq (Value.int .i64 (slots.getD v_1.toNat default)) (fun ρ172 w173 g hle hi ht => ?_) ?_
                ·
                  obtain ⟨-, hst, -⟩ := hle
                  refine StepOp_plain (op_move (v := (Value.int .i64 (slots.getD v_1.toNat default))) (ht 12 rfl) ?_)
                  exact Goes.same hi rfl
                replace hm := ck_some hm; obtain ⟨hc181, hm⟩ := hm
                refine Dw_op (VP O [(some b23, o_g30), (some b100, o15), (some b1, Obj.cells [(Value.int .i64 r_.slots), (Value.slice a_r__owners r_.owners.length c_r__owners), (Value.slice a_r__costs r_.costs.length c_r__costs)].toArray 25)] (rInt .i64) ((r_.costs.getD (members_1.getD v_1.toNat default).toNat default).getD (slots.getD v_1.toNat default).toNat default)) (VP.stab _ _) (fun ρ175 w176 g hle hi ht => ?_) ?_
                ·
                  obtain ⟨-, hst, -⟩ := hle
                  have h178 : Vr.vd (vC (rSl (rInt .i64))) _ _ _ _ := ht 109 rfl
                  obtain ⟨a_y180, c_y180, q179, f_y180⟩ := un_sl h178
                  refine StepOp_plain (op_indexAddr (q := (rInt .i64)) ty22 ty3 q179 (ht 110 rfl) f_y180 rfl hc181.1 hc181.2 ?_)
                  intro p182 f183
                  exact Goes.same hi ⟨_, rfl, f183⟩
                refine Dw_op (VD O [(some b23, o_g30), (some b100, o15), (some b1, Obj.cells [(Value.int .i64 r_.slots), (Value.slice a_r__owners r_.owners.length c_r__owners), (Value.slice a_r__costs r_.costs.length c_r__costs)].toArray 25)] (vI .i64) ((r_.costs.getD (members_1.getD v_1.toNat default).toNat default).getD (slots.getD v_1.toNat default).toNat default)) (VD.stab _ _) (fun ρ184 w185 g hle hi ht => ?_) ?_
                ·
                  obtain ⟨-, hst, -⟩ := hle
                  obtain ⟨p187, q188, f189⟩ := ht 111 rfl
                  refine StepOp_plain (op_loadP ty3 q188 f189 rfl ?_)
                  intro v190 h191
                  obtain ⟨rfl, r_y192⟩ := un_int h191
                  exact Goes.same hi (show Vr.vd (vI .i64) _ _ _ _ from ⟨rfl, r_y192⟩)
                refine Dw_nil fun w197 g198 hl199 hi200 => ?_
                obtain ⟨-, hst201, -⟩ := hl199
                obtain ⟨hs203, p202⟩ := Step.nx hi200
                rintro v204 h205
                replace h205 : Vr.vd (vI .i64) _ _ _ _ := h205
                obtain ⟨rfl, r_y206⟩ := h205
                rintro _ ⟨p207, rfl, f208⟩
                rintro _ rfl
                rintro v209 h210
                replace h210 : Vr.vd (vC (rSl (rInt .i64))) _ _ _ _ := h210
                obtain ⟨a_y211, c_y211, rfl, f_y211⟩ := un_sl h210
                rintro _ ⟨p212, rfl, f213⟩
                rintro _ rfl
                rintro _ rfl
                rintro _ rfl
                rintro _ rfl
                rintro v214 h215
                replace h215 : Vr.vd (vI .i64) _ _ _ _ := h215
                obtain ⟨rfl, r_y216⟩ := h215
                rintro _ ⟨p217, rfl, f218⟩
                rintro _ rfl
                rintro _ rfl
                rintro _ rfl
                rintro _ rfl
                have p219 : Step (ks [(some b23, o_g30), (some b100, o15), (some b1, Obj.cells [(Value.int .i64 r_.slots), (Value.slice a_r__owners r_.owners.length c_r__owners), (Value.slice a_r__costs r_.costs.length c_r__costs)].toArray 25)] O) w109 (ks [(some b23, o_g30), (some b100, o15), (some b1, Obj.cells [(Value.int .i64 r_.slots), (Value.slice a_r__owners r_.owners.length c_r__owners), (Value.slice a_r__costs r_.costs.length c_r__costs)].toArray 25)] O) w197 := hst201.trans p202
                replace f208 := f208.step p202
                replace f_y211 := f_y211.step p202
                replace f213 := f213.step p202
                replace f218 := f218.step p202
                replace f_r__owners := f_r__owners.step p219
                replace f_r__costs := f_r__costs.step p219
                replace f_group := f_group.step p219
                replace f_slots := f_slots.step p219
                replace f_than := f_than.step p219
                replace f17 := f17.step p219
                replace ch41 := ch41.trans p219
                replace ch61 := ch61.trans p219
                clear p219 hs110
                refine Rg_op rfl (op_addw rfl rfl ?_)
                refine Rg_op_ (op_mapUpdate (q := .i64) (m := (mvI .i64)) (v := (IntKind.wrap .i64 (((mget map_1 (r_.owners.getD (members_1.getD v_1.toNat default).toNat default)).getD 0) + ((r_.costs.getD (members_1.getD v_1.toNat default).toNat default).getD (slots.getD v_1.toNat default).toNat default)))) (i := 0) Try.underlying55 Try.underlying3 hs203 rfl M_g30 rfl rfl rfl rfl r_y216 (inK_wrap .i64 _) ?_)
                intro o220 w221 p222 hs223 M224
                replace f_r__owners := f_r__owners.step p222
                replace f_r__costs := f_r__costs.step p222
                replace f_group := f_group.step p222
                replace f_slots := f_slots.step p222
                replace f_than := f_than.step p222
                replace f17 := f17.step p222
                replace f208 := f208.step p222
                replace f_y211 := f_y211.step p222
                replace f213 := f213.step p222
                replace f218 := f218.step p222
                replace ch41 := ch41.trans p222
                replace ch61 := ch61.trans p222
                clear p222 hs203
                refine Rg_nil ?_
                clear f208 f_y211 f213 f218
                refine Wp_reset2 [8, 11, 12, 13, 14, 15, 16, 30, 31, 32, 33, 34, 35, 36, 37, 38, 39, 40, 41, 42, 43, 44, 45, 46, 47, 48, 49, 50, 51, 52, 53, 54, 55, 56, 57, 58, 59, 60, 61, 62, 63, 64, 65, 66, 67, 68, 69, 70, 71, 72, 73, 74, 75, 76, 77, 78, 79, 80, 81, 82, 83, 84, 85, 86, 87, 88, 89, 90, 91, 92, 93, 94, 95, 96, 97, 98, 99, 100, 101, 102, 103, 104, 105, 106, 107, 108, 109, 110, 111, 112, 113, 114] [] (updL ⟨ξ31, []⟩ [(1, (Value.slice a_group group.length c_group)), (2, (Value.slice a_slots slots.length c_slots)), (3, (Value.slice a_than than.length c_than)), (4, (Value.pointer (some ⟨b1, 0, none⟩))), (9, (Value.slice (some ⟨b100, 0, none⟩) members_1.length c13)), (10, (Value.map (some b23))), (28, (Value.slice a_slots slots.length c_slots)), (29, (Value.int .i64 (slots.length : Int))), (30, (Value.int .i64 0))]) [(30, (Value.int .i64 v_1))] (by repeat (first | with_reducible exact Out.refl _ _ | refine Out.upd ?_ rfl | refine Out.updL ?_ rfl | refine Out.mix' ?_ rfl | exact Out.refl _ _)) rfl ⟨rfl, trivial⟩ fun ξ225 => ?_
                refine Wp_region ?_  -- 20 law.go:84
                refine Rg_op rfl (op_addw rfl rfl ?_)
                refine Rg_op rfl (op_move (v := (Value.int .i64 (IntKind.wrap .i64 (v_1 + 1)))) rfl ?_)
                refine Rg_nil ?_
                exact hK34 _ _ ⟨(IntKind.wrap .i64 (v_1 + 1)), (mput map_1 (r_.owners.getD (members_1.getD v_1.toNat default).toNat default) (IntKind.wrap .i64 (((mget map_1 (r_.owners.getD (members_1.getD v_1.toNat default).toNat default)).getD 0) + ((r_.costs.getD (members_1.getD v_1.toNat default).toNat default).getD (slots.getD v_1.toNat default).toNat default)))), o220, _, rfl, ⟨(by repeat (first | with_reducible exact Out.refl _ _ | refine Out.upd ?_ rfl | refine Out.updL ?_ rfl | refine Out.mix' ?_ rfl | exact Out.refl _ _)), rfl, rfl, trivial⟩, ch41, hs223, (inK_wrap .i64 _), M224, jnE2 hsf33 hm⟩
            ·
              intro K108 hK108
              have ch226 := Step.refl (ks [(some b23, o_g30), (some b100, o15), (some b1, Obj.cells [(Value.int .i64 r_.slots), (Value.slice a_r__owners r_.owners.length c_r__owners), (Value.slice a_r__costs r_.costs.length c_r__costs)].toArray 25)] O) w56
              refine Wp_region ?_  -- 17 law.go:93
              refine Rg_op rfl (op_move (v := (Value.bool own_1)) rfl ?_)
              refine Rg_op rfl (op_not rfl ?_)
              refine Rg_op rfl (op_move (v := (Value.bool (!own_1))) rfl ?_)
              refine Rg_case (fun hg227 => ?_) (fun hg227 => ?_)
              ·
                replace hm := bif_t hm hg227
                refine Rg_opx rfl (asB_ne rfl rfl) rfl ?_
                refine Rg_opx rfl (asB_ne rfl rfl) rfl ?_
                refine Rg_op rfl (op_pick_t (v := (Value.bool true)) rfl rfl ?_)
                refine Rg_op rfl (op_move (v := (Value.bool true)) rfl ?_)
                refine Rg_opx rfl (asB_ne rfl rfl) rfl ?_
                refine Rg_opx rfl (asB_ne rfl rfl) rfl ?_
                refine Rg_opx rfl (asB_ne rfl rfl) rfl ?_
                refine Rg_opx rfl (asB_ne rfl rfl) rfl ?_
                refine Rg_opx rfl (asB_ne rfl rfl) rfl ?_
                refine Rg_op rfl (op_pick_t (v := (Value.bool true)) rfl rfl ?_)
                refine Rg_op rfl (op_move (v := (Value.bool true)) rfl ?_)
                refine Rg_opx rfl (asB_ne rfl rfl) rfl ?_
                refine Rg_opx rfl (asB_ne rfl rfl) rfl ?_
                refine Rg_opx rfl (asB_ne rfl rfl) rfl ?_
                refine Rg_opx rfl (asB_ne rfl rfl) rfl ?_
                refine Rg_opx rfl (asB_ne rfl rfl) rfl ?_
                refine Rg_opx rfl (asB_ne rfl rfl) rfl ?_
                refine Rg_opx rfl (asB_ne rfl rfl) rfl ?_
                refine Rg_opx rfl (asB_ne rfl rfl) rfl ?_
                refine Rg_op rfl (op_pick_t (v := (Value.bool true)) rfl rfl ?_)
                refine Rg_op rfl (op_move (v := (Value.bool true)) rfl ?_)
                refine Rg_opx rfl (asB_ne rfl rfl) rfl ?_
                refine Rg_opx rfl (asB_ne rfl rfl) rfl ?_
                refine Rg_opx rfl (asB_ne rfl rfl) rfl ?_
                refine Rg_opx rfl (asB_ne rfl rfl) rfl ?_
                refine Rg_opx rfl (asB_ne rfl rfl) rfl ?_
                refine Rg_opx rfl (asB_ne rfl rfl) rfl ?_
                refine Rg_opx rfl (asB_ne rfl rfl) rfl ?_
                refine Rg_opx rfl (asB_ne rfl rfl) rfl ?_
                refine Rg_opx rfl (asB_ne rfl rfl) rfl ?_
                refine Rg_op rfl (op_pick_t (v := (Value.bool true)) rfl rfl ?_)
                refine Rg_nil ?_
                exact hK108 _ _ ⟨true, _, rfl, ⟨(by repeat (first | with_reducible exact Out.refl _ _ | refine Out.upd ?_ rfl | refine Out.updL ?_ rfl | refine Out.mix' ?_ rfl | exact Out.refl _ _)), rfl, rfl, trivial⟩, ch226, hs57, hm⟩
              ·
                replace hm := bif_f hm hg227
                refine Rg_opg rfl rfl rfl (op_move (v := (Value.int .i64 (slots.getD v_1.toNat default))) rfl ?_)
                refine Rg_opg rfl rfl rfl (op_lss rfl rfl ?_)
                refine Rg_op rfl (op_pick_f (v := (Value.bool (decide ((slots.getD v_1.toNat default) < 0)))) rfl rfl ?_)
                refine Rg_op rfl (op_move (v := (Value.bool (decide ((slots.getD v_1.toNat default) < 0)))) rfl ?_)
                refine Rg_case (fun hg228 => ?_) (fun hg228 => ?_)
                ·
                  replace hm := bif_t hm hg228
                  refine Rg_opx rfl (asB_ne rfl rfl) rfl ?_
                  refine Rg_opx rfl (asB_ne rfl rfl) rfl ?_
                  refine Rg_opx rfl (asB_ne rfl rfl) rfl ?_
                  refine Rg_opx rfl (asB_ne rfl rfl) rfl ?_
                  refine Rg_opx rfl (asB_ne rfl rfl) rfl ?_
                  refine Rg_op rfl (op_pick_t (v := (Value.bool true)) rfl rfl ?_)
                  refine Rg_op rfl (op_move (v := (Value.bool true)) rfl ?_)
                  refine Rg_opx rfl (asB_ne rfl rfl) rfl ?_
                  refine Rg_opx rfl (asB_ne rfl rfl) rfl ?_
                  refine Rg_opx rfl (asB_ne rfl rfl) rfl ?_
                  refine Rg_opx rfl (asB_ne rfl rfl) rfl ?_
                  refine Rg_opx rfl (asB_ne rfl rfl) rfl ?_
                  refine Rg_opx rfl (asB_ne rfl rfl) rfl ?_
                  refine Rg_opx rfl (asB_ne rfl rfl) rfl ?_
                  refine Rg_opx rfl (asB_ne rfl rfl) rfl ?_
                  refine Rg_op rfl (op_pick_t (v := (Value.bool true)) rfl rfl ?_)
                  refine Rg_op rfl (op_move (v := (Value.bool true)) rfl ?_)
                  refine Rg_opx rfl (asB_ne rfl rfl) rfl ?_
                  refine Rg_opx rfl (asB_ne rfl rfl) rfl ?_
                  refine Rg_opx rfl (asB_ne rfl rfl) rfl ?_
                  refine Rg_opx rfl (asB_ne rfl rfl) rfl ?_
                  refine Rg_opx rfl (asB_ne rfl rfl) rfl ?_
                  refine Rg_opx rfl (asB_ne rfl rfl) rfl ?_
                  refine Rg_opx rfl (asB_ne rfl rfl) rfl ?_
                  refine Rg_opx rfl (asB_ne rfl rfl) rfl ?_
                  refine Rg_opx rfl (asB_ne rfl rfl) rfl ?_
                  refine Rg_op rfl (op_pick_t (v := (Value.bool true)) rfl rfl ?_)
                  refine Rg_nil ?_
                  exact hK108 _ _ ⟨true, _, rfl, ⟨(by repeat (first | with_reducible exact Out.refl _ _ | refine Out.upd ?_ rfl | refine Out.updL ?_ rfl | refine Out.mix' ?_ rfl | exact Out.refl _ _)), rfl, rfl, trivial⟩, ch226, hs57, hm⟩
                ·
                  replace hm := bif_f hm hg228
                  refine Rg_opg rfl rfl rfl (op_move (v := (Value.int .i64 (members_1.getD v_1.toNat default))) rfl ?_)
                  refine Rg_opg rfl rfl rfl (op_fieldAddr ty25 rfl ty23 (by decide) rfl (rfl : _ = (⟨_, 2, none⟩ : Addr)) ?_)
                  refine Rg_opg rfl rfl rfl (op_load (cs := [(Value.int .i64 r_.slots), (Value.slice a_r__owners r_.owners.length c_r__owners), (Value.slice a_r__costs r_.costs.length c_r__costs)]) (i := 2) ty23 hs57 rfl rfl rfl ?_)
                  refine Rg_opg rfl rfl rfl (op_len Try.underlying23 rfl ?_)
                  refine Rg_opg rfl rfl rfl (op_geq rfl rfl ?_)
                  refine Rg_op rfl (op_pick_f (v := (Value.bool (decide ((r_.costs.length : Int) ≤ (members_1.getD v_1.toNat default))))) rfl rfl ?_)
                  refine Rg_op rfl (op_move (v := (Value.bool (decide ((r_.costs.length : Int) ≤ (members_1.getD v_1.toNat default))))) rfl ?_)
                  refine Rg_case (fun hg229 => ?_) (fun hg229 => ?_)
                  ·
                    replace hm := bif_t hm hg229
                    refine Rg_opx rfl (asB_ne rfl rfl) rfl ?_
                    refine Rg_opx rfl (asB_ne rfl rfl) rfl ?_
                    refine Rg_opx rfl (asB_ne rfl rfl) rfl ?_
                    refine Rg_opx rfl (asB_ne rfl rfl) rfl ?_
                    refine Rg_opx rfl (asB_ne rfl rfl) rfl ?_
                    refine Rg_opx rfl (asB_ne rfl rfl) rfl ?_
                    refine Rg_opx rfl (asB_ne rfl rfl) rfl ?_
                    refine Rg_opx rfl (asB_ne rfl rfl) rfl ?_
                    refine Rg_op rfl (op_pick_t (v := (Value.bool true)) rfl rfl ?_)
                    refine Rg_op rfl (op_move (v := (Value.bool true)) rfl ?_)
                    refine Rg_opx rfl (asB_ne rfl rfl) rfl ?_
                    refine Rg_opx rfl (asB_ne rfl rfl) rfl ?_
                    refine Rg_opx rfl (asB_ne rfl rfl) rfl ?_
                    refine Rg_opx rfl (asB_ne rfl rfl) rfl ?_
                    refine Rg_opx rfl (asB_ne rfl rfl) rfl ?_
                    refine Rg_opx rfl (asB_ne rfl rfl) rfl ?_
                    refine Rg_opx rfl (asB_ne rfl rfl) rfl ?_
                    refine Rg_opx rfl (asB_ne rfl rfl) rfl ?_
                    refine Rg_opx rfl (asB_ne rfl rfl) rfl ?_
                    refine Rg_op rfl (op_pick_t (v := (Value.bool true)) rfl rfl ?_)
                    refine Rg_nil ?_
                    exact hK108 _ _ ⟨true, _, rfl, ⟨(by repeat (first | with_reducible exact Out.refl _ _ | refine Out.upd ?_ rfl | refine Out.updL ?_ rfl | refine Out.mix' ?_ rfl | exact Out.refl _ _)), rfl, rfl, trivial⟩, ch226, hs57, hm⟩
                  ·
                    replace hm := bif_f hm hg229
                    refine Rg_opg rfl rfl rfl (op_move (v := (Value.int .i64 (slots.getD v_1.toNat default))) rfl ?_)
                    refine Rg_opg rfl rfl rfl (op_fieldAddr ty25 rfl ty23 (by decide) rfl (rfl : _ = (⟨_, 2, none⟩ : Addr)) ?_)
                    refine Rg_opg rfl rfl rfl (op_load (cs := [(Value.int .i64 r_.slots), (Value.slice a_r__owners r_.owners.length c_r__owners), (Value.slice a_r__costs r_.costs.length c_r__costs)]) (i := 2) ty23 hs57 rfl rfl rfl ?_)
                    refine Rg_opg rfl rfl rfl (op_move (v := (Value.int .i64 (members_1.getD v_1.toNat default))) rfl ?_)
                    replace hm := ck_some hm; obtain ⟨hc230, hm⟩ := hm
                    refine Rg_opg rfl rfl rfl (op_indexAddr (q := (rSl (rInt .i64))) ty23 ty22 rfl rfl f_r__costs rfl hc230.1 hc230.2 ?_)
                    intro p231 f232
                    refine Rg_opg rfl rfl rfl (op_loadP ty22 rfl f232 rfl ?_)
                    intro v233 h234
                    obtain ⟨a_y235, c_y235, rfl, f_y235⟩ := un_sl h234
                    refine Rg_opg rfl rfl rfl (op_len Try.underlying22 rfl ?_)
                    refine Rg_opg rfl rfl rfl (op_geq rfl rfl ?_)
                    refine Rg_op rfl (op_pick_f (v := (Value.bool (decide (((r_.costs.getD (members_1.getD v_1.toNat default).toNat default).length : Int) ≤ (slots.getD v_1.toNat default))))) rfl rfl ?_)
                    refine Rg_op rfl (op_move (v := (Value.bool (decide (((r_.costs.getD (members_1.getD v_1.toNat default).toNat default).length : Int) ≤ (slots.getD v_1.toNat default))))) rfl ?_)
                    refine Rg_case (fun hg236 => ?_) (fun hg236 => ?_)
                    ·
                      replace hm := bif_t hm hg236
                      refine Rg_opx rfl (asB_ne rfl rfl) rfl ?_
                      refine Rg_opx rfl (asB_ne rfl rfl) rfl ?_
                      refine Rg_opx rfl (asB_ne rfl rfl) rfl ?_
                      refine Rg_opx rfl (asB_ne rfl rfl) rfl ?_
                      refine Rg_opx rfl (asB_ne rfl rfl) rfl ?_
                      refine Rg_opx rfl (asB_ne rfl rfl) rfl ?_
                      refine Rg_opx rfl (asB_ne rfl rfl) rfl ?_
                      refine Rg_opx rfl (asB_ne rfl rfl) rfl ?_
                      refine Rg_opx rfl (asB_ne rfl rfl) rfl ?_
                      refine Rg_op rfl (op_pick_t (v := (Value.bool true)) rfl rfl ?_)
                      refine Rg_nil ?_
                      exact hK108 _ _ ⟨true, _, rfl, ⟨(by repeat (first | with_reducible exact Out.refl _ _ | refine Out.upd ?_ rfl | refine Out.updL ?_ rfl | refine Out.mix' ?_ rfl | exact Out.refl _ _)), rfl, rfl, trivial⟩, ch226, hs57, hm⟩
                    ·
                      replace hm := bif_f hm hg236
                      refine Rg_opg rfl rfl rfl (op_fieldAddr ty25 rfl ty23 (by decide) rfl (rfl : _ = (⟨_, 2, none⟩ : Addr)) ?_)
                      refine Rg_opg rfl rfl rfl (op_load (cs := [(Value.int .i64 r_.slots), (Value.slice a_r__owners r_.owners.length c_r__owners), (Value.slice a_r__costs r_.costs.length c_r__costs)]) (i := 2) ty23 hs57 rfl rfl rfl ?_)
                      refine Rg_opg rfl rfl rfl (op_move (v := (Value.int .i64 (members_1.getD v_1.toNat default))) rfl ?_)
                      replace hm := ck_some hm; obtain ⟨hc237, hm⟩ := hm
                      refine Rg_opg rfl rfl rfl (op_indexAddr (q := (rSl (rInt .i64))) ty23 ty22 rfl rfl f_r__costs rfl hc237.1 hc237.2 ?_)
                      intro p238 f239
                      refine Rg_opg rfl rfl rfl (op_loadP ty22 rfl f239 rfl ?_)
                      intro v240 h241
                      obtain ⟨a_y242, c_y242, rfl, f_y242⟩ := un_sl h241
                      refine Rg_opg rfl rfl rfl (op_move (v := (Value.int .i64 (slots.getD v_1.toNat default))) rfl ?_)
                      replace hm := ck_some hm; obtain ⟨hc243, hm⟩ := hm
                      refine Rg_opg rfl rfl rfl (op_indexAddr (q := (rInt .i64)) ty22 ty3 rfl rfl f_y242 rfl hc243.1 hc243.2 ?_)
                      intro p244 f245
                      refine Rg_opg rfl rfl rfl (op_loadP ty3 rfl f245 rfl ?_)
                      intro v246 h247
                      obtain ⟨rfl, r_y248⟩ := un_int h247
                      refine Rg_opg rfl rfl rfl (op_lss rfl rfl ?_)
                      refine Rg_op rfl (op_pick_f (v := (Value.bool (decide (((r_.costs.getD (members_1.getD v_1.toNat default).toNat default).getD (slots.getD v_1.toNat default).toNat default) < 0)))) rfl rfl ?_)
                      refine Rg_nil ?_
                      exact hK108 _ _ ⟨(decide (((r_.costs.getD (members_1.getD v_1.toNat default).toNat default).getD (slots.getD v_1.toNat default).toNat default) < 0)), _, rfl, ⟨(by repeat (first | with_reducible exact Out.refl _ _ | refine Out.upd ?_ rfl | refine Out.updL ?_ rfl | refine Out.mix' ?_ rfl | exact Out.refl _ _)), rfl, rfl, trivial⟩, ch226, hs57, hm⟩
      ·
        replace hm := bif_f hm hc42
        refine Wp_exit ?_
        refine Wp_seq ?_
        refine Wp_seq ?_
        obtain ⟨hs249, p250⟩ := hs37.sub (bs' := [(some b23, o_g30)]) (.cons_cons _ (.cons _ (.cons _ List.Sublist.slnil)))
        clear f_r__owners f_r__costs f_slots f17
        replace f_group := f_group.step p250
        replace f_than := f_than.step p250
        replace ch41 := ch41.trans p250
        clear p250 hs37
        refine Wp_region ?_  -- 21 law.go:98
        refine Rg_op rfl (op_move (v := (Value.slice a_group group.length c_group)) rfl ?_)
        refine Rg_op rfl (op_len Try.underlying22 rfl ?_)
        refine Rg_op rfl (op_move (v := (Value.int .i64 0)) rfl ?_)
        refine Rg_nil ?_
        refine Wp_block ?_
        refine Wp_reset [] [(3, (Value.slice a_than than.length c_than)), (10, (Value.map (some b23))), (115, (Value.slice a_group group.length c_group)), (116, (Value.int .i64 (group.length : Int))), (117, (Value.int .i64 0))] rfl ⟨rfl, rfl, rfl, rfl, rfl, trivial⟩ fun ξ252 => ?_
        refine Wp_loopM [8, 18, 117, 118, 119, 120, 121, 122, 123, 124, 125, 126, 127, 128, 129, 130, 131, 132, 133, 134, 135, 136, 137, 138, 139] (fun m fr w' => ∃ (v_5 : Int) (Ebs : Ents), Ebs = [(some b23, o_g30)] ∧ fr [] [(117, (Value.int .i64 v_5))] ∧ Step (ks [(some b23, o_g30)] O) w36 (ks Ebs O) w' ∧ St ⟨w, [], []⟩ O w' Ebs ∧ InK .i64 v_5 ∧ loop1 (m20_overflightlaw37_better_B2 group than map_1) m v_5 = some x) (((group.length : Int) - 0).toNat + 1) ⟨0, _, rfl, ⟨Out.refl _ _, rfl, rfl, trivial⟩, Step.refl _ _, hs249, (show InK .i64 0 from by decide), hm⟩ ?_ ?_
        · rintro _ _ ⟨_, _, _, _, _, _, _, hm⟩; exact loop1_z hm
        · rintro m256 K255 hK255 ρ261 w257 ⟨v_5, Ebs, hEbs, hfr260, hst259, hs258, r_y251, hm⟩
          obtain ⟨sf253, hsf254, hm⟩ := loop1_s hm; unfold m20_overflightlaw37_better_B2 at hm
          subst hEbs; rw [hfr260.eq]; clear hfr260
          replace f_group := f_group.step hst259
          replace f_than := f_than.step hst259
          replace ch41 := ch41.trans hst259
          have ch262 := hst259
          refine Wp_seq ?_
          refine Wp_region ?_  -- 22 law.go:98
          refine Rg_op rfl (op_lss rfl rfl ?_)
          refine Rg_nil ?_
          refine Wp_seq ?_
          refine Wp_cond rfl (fun hc263 => ?_) (fun hc263 => ?_)
          ·
            replace hm := bif_t hm hc263
            refine Wp_skip ?_
            refine Wp_seq ?_
            refine Wp_block ?_
            refine Wp_seq ?_
            refine Wp_region ?_  -- 23 law.go:98
            replace hm := ck_some hm; obtain ⟨hc264, hm⟩ := hm
            refine Rg_op rfl (op_indexAddr (q := (rInt .i64)) ty22 ty3 rfl rfl f_group rfl hc264.1 hc264.2 ?_)
            intro p265 f266
            refine Rg_op rfl (op_loadP ty3 rfl f266 rfl ?_)
            intro v267 h268
            obtain ⟨rfl, r_y269⟩ := un_int h268
            refine Rg_op rfl (op_assign (v := (Value.int .i64 (group.getD v_5.toNat default))) rfl ?_)
            refine Rg_nil ?_
            refine Wp_reset2 [8, 18, 117, 118, 119, 120, 121, 122, 123, 124, 125, 126, 127, 128, 129, 130, 131, 132, 133, 134, 135, 136, 137, 138, 139] [] (updL ⟨ξ252, []⟩ [(3, (Value.slice a_than than.length c_than)), (10, (Value.map (some b23))), (115, (Value.slice a_group group.length c_group)), (116, (Value.int .i64 (group.length : Int))), (117, (Value.int .i64 0))]) [(18, (Value.int .i64 (group.getD v_5.toNat default))), (117, (Value.int .i64 v_5))] (by repeat (first | with_reducible exact Out.refl _ _ | refine Out.upd ?_ rfl | refine Out.updL ?_ rfl | refine Out.mix' ?_ rfl | exact Out.refl _ _)) rfl ⟨rfl, rfl, trivial⟩ fun ξ270 => ?_
            replace hm := jn_elim hm; obtain ⟨k272, hk273, hm⟩ := hm
            refine Wp_seqJ [121, 122, 123, 124, 125, 126, 127, 128, 129, 130, 131, 132, 133, 134, 135, 136, 137, 138] (fun fr w' => ∃ (v_6 : Bool) (Ebs : Ents), Ebs = [(some b23, o_g30)] ∧ fr [] [(138, (Value.bool v_6))] ∧ Step (ks [(some b23, o_g30)] O) w257 (ks Ebs O) w' ∧ St ⟨w, [], []⟩ O w' Ebs ∧ k272 v_6 = some x) ?_ ?_
            ·
              rintro ρ279 w275 ⟨v_6, Ebs, hEbs, hfr278, hst277, hs276, hm⟩
              replace hm := jnE1 hk273 hm
              subst hEbs; rw [hfr278.eq]; clear hfr278
              replace f_group := f_group.step hst277
              replace f_than := f_than.step hst277
              replace f266 := f266.step hst277
              replace ch41 := ch41.trans hst277
              replace ch262 := ch262.trans hst277
              clear hst277 hs258
              refine Wp_cond rfl (fun hc280 => ?_) (fun hc280 => ?_)
              ·
                replace hm := bif_t hm hc280
                refine Wp_seq ?_
                clear f_group f_than f266
                refine Wp_region ?_  -- 25 law.go:100
                refine Rg_op rfl (op_assign (v := (Value.bool false)) rfl ?_)
                refine Rg_nil ?_
                refine Wp_ret ?_
                have hz := step_all hs276
                refine ⟨_, (show Closes [] _ _ from rfl), [(Value.bool false)], ⟨rfl, trivial⟩, hs276.ext, ?_⟩
                exact Vr.eq (a := vB) (x := false) rfl (Option.some.inj hm)
              ·
                replace hm := bif_f hm hc280
                refine Wp_skip ?_
                clear f266
                refine Wp_region ?_  -- 26 law.go:98
                refine Rg_op rfl (op_addw rfl rfl ?_)
                refine Rg_op rfl (op_move (v := (Value.int .i64 (IntKind.wrap .i64 (v_5 + 1)))) rfl ?_)
                refine Rg_nil ?_
                exact hK255 _ _ ⟨(IntKind.wrap .i64 (v_5 + 1)), _, rfl, ⟨(by repeat (first | with_reducible exact Out.refl _ _ | refine Out.upd ?_ rfl | refine Out.updL ?_ rfl | refine Out.mix' ?_ rfl | exact Out.refl _ _)), rfl, rfl, trivial⟩, ch262, hs276, (inK_wrap .i64 _), jnE1 hsf254 hm⟩
            ·
              intro K274 hK274
              have ch281 := Step.refl (ks [(some b23, o_g30)] O) w257
              clear f266
              refine Wp_drawR (g0 := []) (m := 16) (fl := []) (TS_inv hs258) (.inl rfl) rfl (by decide +kernel) ?_  -- 24
              refine Dw_eq (Value.int .i64 (group.getD v_5.toNat default)) (fun ρ282 w283 g hle hi ht => ?_) ?_
              ·
                obtain ⟨-, hst, -⟩ := hle
                refine StepOp_plain (op_move (v := (Value.int .i64 (group.getD v_5.toNat default))) (ht 18 rfl) ?_)
                exact Goes.same hi rfl
              refine Dw_eq (Value.bool (decide ((group.getD v_5.toNat default) < 0))) (fun ρ285 w286 g hle hi ht => ?_) ?_
              ·
                obtain ⟨-, hst, -⟩ := hle
                refine StepOp_plain (op_lss (ht 121 rfl) rfl ?_)
                exact Goes.same hi rfl
              refine Dw_opB (decide ((group.getD v_5.toNat default) < 0)) (fun ρ288 w289 g hle hi ht => ?_) (fun hg291 => ?_) (fun hg291 => ?_)
              ·
                obtain ⟨-, hst, -⟩ := hle
                refine StepOp_plain (op_move (v := (Value.bool (decide ((group.getD v_5.toNat default) < 0)))) (ht 122 rfl) ?_)
                exact Goes.same hi rfl
              ·
                replace hm := bif_t hm hg291
                refine Dw_skip (fun _ _ _ ht => wanted_x rfl (ht 123 rfl) rfl) ?_
                refine Dw_skip (fun _ _ _ ht => wanted_x rfl (ht 123 rfl) rfl) ?_
                refine Dw_skip (fun _ _ _ ht => wanted_x rfl (ht 123 rfl) rfl) ?_
                refine Dw_skip (fun _ _ _ ht => wanted_x rfl (ht 123 rfl) rfl) ?_
                refine Dw_eq (Value.bool true) (fun ρ292 w293 g hle hi ht => ?_) ?_
                ·
                  obtain ⟨-, hst, -⟩ := hle
                  refine StepOp_plain (op_pick_t (v := (Value.bool true)) (ht 123 rfl) rfl ?_)
                  exact Goes.same hi rfl
                refine Dw_eq (Value.bool true) (fun ρ295 w296 g hle hi ht => ?_) ?_
                ·
                  obtain ⟨-, hst, -⟩ := hle
                  refine StepOp_plain (op_move (v := (Value.bool true)) (ht 128 rfl) ?_)
                  exact Goes.same hi rfl
                refine Dw_skip (fun _ _ _ ht => wanted_x rfl (ht 129 rfl) rfl) ?_
                refine Dw_skip (fun _ _ _ ht => wanted_x rfl (ht 129 rfl) rfl) ?_
                refine Dw_skip (fun _ _ _ ht => wanted_x rfl (ht 129 rfl) rfl) ?_
                refine Dw_skip (fun _ _ _ ht => wanted_x rfl (ht 129 rfl) rfl) ?_
                refine Dw_skip (fun _ _ _ ht => wanted_x rfl (ht 129 rfl) rfl) ?_
                refine Dw_skip (fun _ _ _ ht => wanted_x rfl (ht 129 rfl) rfl) ?_
                refine Dw_skip (fun _ _ _ ht => wanted_x rfl (ht 129 rfl) rfl) ?_
                refine Dw_nil fun w302 g303 hl304 hi305 => ?_
                obtain ⟨-, hst306, -⟩ := hl304
                obtain ⟨hs308, p307⟩ := Step.nx hi305
                rintro _ rfl
                rintro _ rfl
                rintro _ rfl
                rintro _ rfl
                rintro _ rfl
                rintro _ rfl
                rintro _ rfl
                rintro _ rfl
                rintro _ rfl
                rintro _ rfl
                rintro _ rfl
                rintro _ rfl
                rintro _ rfl
                rintro _ rfl
                rintro _ rfl
                rintro _ rfl
                have p309 : Step (ks [(some b23, o_g30)] O) w257 (ks [(some b23, o_g30)] O) w302 := hst306.trans p307
                replace f_group := f_group.step p309
                replace f_than := f_than.step p309
                replace ch41 := ch41.trans p309
                replace ch262 := ch262.trans p309
                replace ch281 := ch281.trans p309
                clear p309 hs258
                refine Rg_opx rfl (asB_ne rfl rfl) rfl ?_
                refine Rg_op rfl (op_pick_t (v := (Value.bool true)) rfl rfl ?_)
                refine Rg_nil ?_
                exact hK274 _ _ ⟨true, _, rfl, ⟨(by repeat (first | with_reducible exact Out.refl _ _ | refine Out.upd ?_ rfl | refine Out.updL ?_ rfl | refine Out.mix' ?_ rfl | exact Out.refl _ _)), rfl, rfl, trivial⟩, ch281, hs308, hm⟩
              ·
                replace hm := bif_f hm hg291
                refine Dw_eq (Value.int .i64 (group.getD v_5.toNat default)) (fun ρ310 w311 g hle hi ht => ?_) ?_
                ·
                  obtain ⟨-, hst, -⟩ := hle
                  refine StepOp_g rfl (ht 123 rfl) (op_move (v := (Value.int .i64 (group.getD v_5.toNat default))) (ht 18 rfl) ?_)
                  exact Goes.same hi rfl
                refine Dw_eq (Value.slice a_than than.length c_than) (fun ρ313 w314 g hle hi ht => ?_) ?_
                ·
                  obtain ⟨-, hst, -⟩ := hle
                  refine StepOp_g rfl (ht 123 rfl) (op_move (v := (Value.slice a_than than.length c_than)) (ht 3 rfl) ?_)
                  exact Goes.same hi rfl
                refine Dw_eq (Value.int .i64 (than.length : Int)) (fun ρ316 w317 g hle hi ht => ?_) ?_
                ·
                  obtain ⟨-, hst, -⟩ := hle
                  refine StepOp_g rfl (ht 123 rfl) (op_len Try.underlying22 (ht 125 rfl) ?_)
                  exact Goes.same hi rfl
                refine Dw_eq (Value.bool (decide ((than.length : Int) ≤ (group.getD v_5.toNat default)))) (fun ρ319 w320 g hle hi ht => ?_) ?_
                ·
                  obtain ⟨-, hst, -⟩ := hle
                  refine StepOp_g rfl (ht 123 rfl) (op_geq (ht 124 rfl) (ht 126 rfl) ?_)
                  exact Goes.same hi rfl
                refine Dw_eq (Value.bool (decide ((than.length : Int) ≤ (group.getD v_5.toNat default)))) (fun ρ322 w323 g hle hi ht => ?_) ?_
                ·
                  obtain ⟨-, hst, -⟩ := hle
                  refine StepOp_plain (op_pick_f (v := (Value.bool (decide ((than.length : Int) ≤ (group.getD v_5.toNat default))))) (ht 123 rfl) (ht 127 rfl) ?_)
                  exact Goes.same hi rfl
                refine Dw_opB (decide ((than.length : Int) ≤ (group.getD v_5.toNat default))) (fun ρ325 w326 g hle hi ht => ?_) (fun hg328 => ?_) (fun hg328 => ?_)
                ·
                  obtain ⟨-, hst, -⟩ := hle
                  refine StepOp_plain (op_move (v := (Value.bool (decide ((than.length : Int) ≤ (group.getD v_5.toNat default))))) (ht 128 rfl) ?_)
                  exact Goes.same hi rfl
                ·
                  replace hm := bif_t hm hg328
                  refine Dw_skip (fun _ _ _ ht => wanted_x rfl (ht 129 rfl) rfl) ?_
                  refine Dw_skip (fun _ _ _ ht => wanted_x rfl (ht 129 rfl) rfl) ?_
                  refine Dw_skip (fun _ _ _ ht => wanted_x rfl (ht 129 rfl) rfl) ?_
                  refine Dw_skip (fun _ _ _ ht => wanted_x rfl (ht 129 rfl) rfl) ?_
                  refine Dw_skip (fun _ _ _ ht => wanted_x rfl (ht 129 rfl) rfl) ?_
                  refine Dw_skip (fun _ _ _ ht => wanted_x rfl (ht 129 rfl) rfl) ?_
                  refine Dw_skip (fun _ _ _ ht => wanted_x rfl (ht 129 rfl) rfl) ?_
                  refine Dw_nil fun w333 g334 hl335 hi336 => ?_
                  obtain ⟨-, hst337, -⟩ := hl335
                  obtain ⟨hs339, p338⟩ := Step.nx hi336
                  rintro _ rfl
                  rintro _ rfl
                  rintro _ rfl
                  rintro _ rfl
                  rintro _ rfl
                  rintro _ rfl
                  rintro _ rfl
                  rintro _ rfl
                  rintro _ rfl
                  rintro _ rfl
                  rintro _ rfl
                  rintro _ rfl
                  rintro _ rfl
                  rintro _ rfl
                  rintro _ rfl
                  rintro _ rfl
                  have p340 : Step (ks [(some b23, o_g30)] O) w257 (ks [(some b23, o_g30)] O) w333 := hst337.trans p338
                  replace f_group := f_group.step p340
                  replace f_than := f_than.step p340
                  replace ch41 := ch41.trans p340
                  replace ch262 := ch262.trans p340
                  replace ch281 := ch281.trans p340
                  clear p340 hs258
                  refine Rg_opx rfl (asB_ne rfl rfl) rfl ?_
                  refine Rg_op rfl (op_pick_t (v := (Value.bool true)) rfl rfl ?_)
                  refine Rg_nil ?_
                  exact hK274 _ _ ⟨true, _, rfl, ⟨(by repeat (first | with_reducible exact Out.refl _ _ | refine Out.upd ?_ rfl | refine Out.updL ?_ rfl | refine Out.mix' ?_ rfl | exact Out.refl _ _)), rfl, rfl, trivial⟩, ch281, hs339, hm⟩
                ·
                  replace hm := bif_f hm hg328
                  refine Dw_eq (Value.map (some b23)) (fun ρ341 w342 g hle hi ht => ?_) ?_
                  ·
                    obtain ⟨-, hst, -⟩ := hle
                    refine StepOp_g rfl (ht 129 rfl) (op_move (v := (Value.map (some b23))) (ht 10 rfl) ?_)
                    exact Goes.same hi rfl
                  refine Dw_eq (Value.int .i64 (group.getD v_5.toNat default)) (fun ρ344 w345 g hle hi ht => ?_) ?_
                  ·
                    obtain ⟨-, hst, -⟩ := hle
                    refine StepOp_g rfl (ht 129 rfl) (op_move (v := (Value.int .i64 (group.getD v_5.toNat default))) (ht 18 rfl) ?_)
                    exact Goes.same hi rfl
                  refine Dw_eq (Value.int .i64 ((mget map_1 (group.getD v_5.toNat default)).getD 0)) (fun ρ347 w348 g hle hi ht => ?_) ?_
                  ·
                    obtain ⟨-, hst, -⟩ := hle
                    have hsn := (Step.nx hi).1
                    refine StepOp_g rfl (ht 129 rfl) (op_lookup (q := .i64) (m := (mvI .i64)) (z := 0) Try.underlying55 Try.underlying3 Try.zeroValue3 (hsn.get (i := 0) rfl) M_g30 (ht 130 rfl) (ht 131 rfl) ?_)
                    exact Goes.same hi rfl
                  refine Dw_eq (Value.slice a_than than.length c_than) (fun ρ350 w351 g hle hi ht => ?_) ?_
                  ·
                    obtain ⟨-, hst, -⟩ := hle
                    refine StepOp_g rfl (ht 129 rfl) (op_move (v := (Value.slice a_than than.length c_than)) (ht 3 rfl) ?_)
                    exact Goes.same hi rfl
                  refine Dw_eq (Value.int .i64 (group.getD v_5.toNat default)) (fun ρ353 w354 g hle hi ht => ?_) ?_
                  ·
                    obtain ⟨-, hst, -⟩ := hle
                    refine StepOp_g rfl (ht 129 rfl) (op_move (v := (Value.int .i64 (group.getD v_5.toNat default))) (ht 18 rfl) ?_)
                    exact Goes.same hi rfl
                  replace hm := ck_some hm; obtain ⟨hc359, hm⟩ := hm
                  refine Dw_op (VP O [(some b23, o_g30)] (rInt .i64) (than.getD (group.getD v_5.toNat default).toNat default)) (VP.stab _ _) (fun ρ356 w357 g hle hi ht => ?_) ?_
                  ·
                    obtain ⟨-, hst, -⟩ := hle
                    replace f_than := f_than.step hst
                    refine StepOp_g rfl (ht 129 rfl) (op_indexAddr (q := (rInt .i64)) ty22 ty3 (ht 133 rfl) (ht 134 rfl) f_than rfl hc359.1 hc359.2 ?_)
                    intro p360 f361
                    exact Goes.same hi ⟨_, rfl, f361⟩
                  refine Dw_op (VD O [(some b23, o_g30)] (vI .i64) (than.getD (group.getD v_5.toNat default).toNat default)) (VD.stab _ _) (fun ρ362 w363 g hle hi ht => ?_) ?_
                  ·
                    obtain ⟨-, hst, -⟩ := hle
                    obtain ⟨p365, q366, f367⟩ := ht 135 rfl
                    refine StepOp_g rfl (ht 129 rfl) (op_loadP ty3 q366 f367 rfl ?_)
                    intro v368 h369
                    obtain ⟨rfl, r_y370⟩ := un_int h369
                    exact Goes.same hi (show Vr.vd (vI .i64) _ _ _ _ from ⟨rfl, r_y370⟩)
                  refine Dw_nil fun w375 g376 hl377 hi378 => ?_
                  obtain ⟨-, hst379, -⟩ := hl377
                  obtain ⟨hs381, p380⟩ := Step.nx hi378
                  rintro v382 h383
                  replace h383 : Vr.vd (vI .i64) _ _ _ _ := h383
                  obtain ⟨rfl, r_y384⟩ := h383
                  rintro _ ⟨p385, rfl, f386⟩
                  rintro _ rfl
                  rintro _ rfl
                  rintro _ rfl
                  rintro _ rfl
                  rintro _ rfl
                  rintro _ rfl
                  rintro _ rfl
                  rintro _ rfl
                  rintro _ rfl
                  rintro _ rfl
                  rintro _ rfl
                  rintro _ rfl
                  rintro _ rfl
                  rintro _ rfl
                  have p387 : Step (ks [(some b23, o_g30)] O) w257 (ks [(some b23, o_g30)] O) w375 := hst379.trans p380
                  replace f386 := f386.step p380
                  replace f_group := f_group.step p387
                  replace f_than := f_than.step p387
                  replace ch41 := ch41.trans p387
                  replace ch262 := ch262.trans p387
                  replace ch281 := ch281.trans p387
                  clear p387 hs258
                  refine Rg_opg rfl rfl rfl (op_geq rfl rfl ?_)
                  refine Rg_op rfl (op_pick_f (v := (Value.bool (decide ((than.getD (group.getD v_5.toNat default).toNat default) ≤ ((mget map_1 (group.getD v_5.toNat default)).getD 0))))) rfl rfl ?_)
                  refine Rg_nil ?_
                  exact hK274 _ _ ⟨(decide ((than.getD (group.getD v_5.toNat default).toNat default) ≤ ((mget map_1 (group.getD v_5.toNat default)).getD 0))), _, rfl, ⟨(by repeat (first | with_reducible exact Out.refl _ _ | refine Out.upd ?_ rfl | refine Out.updL ?_ rfl | refine Out.mix' ?_ rfl | exact Out.refl _ _)), rfl, rfl, trivial⟩, ch281, hs381, hm⟩
          ·
            replace hm := bif_f hm hc263
            refine Wp_exit ?_
            refine Wp_seq ?_
            obtain ⟨hs388, p389⟩ := hs258.sub (bs' := []) (.cons _ List.Sublist.slnil)
            clear f_group f_than
            replace ch41 := ch41.trans p389
            replace ch262 := ch262.trans p389
            clear p389 hs258
            refine Wp_region ?_  -- 27 law.go:103
            refine Rg_op rfl (op_assign (v := (Value.bool true)) rfl ?_)
            refine Rg_nil ?_
            refine Wp_ret ?_
            have hz := step_all hs388
            refine ⟨_, (show Closes [] _ _ from rfl), [(Value.bool true)], ⟨rfl, trivial⟩, hs388.ext, ?_⟩
            exact Vr.eq (a := vB) (x := true) rfl (Option.some.inj hm)

end Go.Fx


set_option linter.unusedVariables false
set_option linter.unusedSimpArgs false
set_option maxRecDepth 100000
set_option maxHeartbeats 0
namespace Go.Fx
open Go Go.RowKit Go.Proofs
def m3_overflightlaw37_CoalitionExact (r_ : XRound) (slots : List Int) (group : List Int) (other : List Int) : Option Bool :=
  (m15_overflightlaw37_sane).bind fun sane_1 =>
  bif (!sane_1) then
    some false
  else
    jn (fun (v_1 : Bool) =>
      bif v_1 then
        some true
      else
        (m17_coalition_Blocks r_ slots group).bind fun blocks_1 =>
        (m18_coalition_Costs r_ slots).bind fun costs_1 =>
        bif (decide (blocks_1.2.2 ≠ 0)) then
          bif (!blocks_1.2.1) then
            some (decide ((blocks_1.1.length : Int) = 0))
          else
            some false
        else
          (m19_coalition_Stable r_ slots).bind fun stable_1 =>
          jn (fun (v_2 : Bool) =>
            bif v_2 then
              some false
            else
              jn (fun (v_3 : Bool) =>
                bif v_3 then
                  some false
                else
                  bif (!blocks_1.2.1) then
                    some true
                  else
                    some (!stable_1.1))
              (fun k92 =>
                (m20_overflightlaw37_better r_ group other costs_1.1).bind fun better_1 =>
                bif better_1 then
                  bif (!blocks_1.2.1) then
                    k92 true
                  else
                    k92 stable_1.1
                else
                  k92 false))
          (fun k79 =>
            bif (decide (costs_1.2 ≠ 0)) then
              k79 true
            else
              bif (decide (stable_1.2 ≠ 0)) then
                k79 true
              else
                bif (decide ((costs_1.1.length : Int) ≠ 8)) then
                  k79 true
                else
                  (m20_overflightlaw37_better r_ group blocks_1.1 costs_1.1).bind fun better_2 =>
                  bif (!(blocks_1.2.1 == better_2)) then
                    bif blocks_1.2.1 then
                      k79 true
                    else
                      (m21_overflightlaw37_members r_ group).bind fun members_1 =>
                      k79 (decide (0 < (members_1.length : Int)))
                  else
                    k79 false))
    (fun k19 =>
      (m16_overflightref37_Few r_).bind fun few_1 =>
      bif (!few_1) then
        k19 true
      else
        bif (decide (20 < (slots.length : Int))) then
          k19 true
        else
          bif (decide (20 < (group.length : Int))) then
            k19 true
          else
            k19 (decide (20 < (other.length : Int))))

theorem c3_overflightlaw37_CoalitionExact {w : World} {O : List Nat} {r_ : XRound} {slots : List Int} {group : List Int} {other : List Int} {a_r__owners : Option Addr} {c_r__owners : Nat} {a_r__costs : Option Addr} {c_r__costs : Nat} {a_slots : Option Addr} {c_slots : Nat} {a_group : Option Addr} {c_group : Nat} {a_other : Option Addr} {c_other : Nat} (hO : ∀ k ∈ O, k < w.heap.size) (r_r__slots : InK .i64 r_.slots) (f_r__owners : SlR (rInt .i64) w O a_r__owners c_r__owners r_.owners) (f_r__costs : SlR (rSl (rInt .i64)) w O a_r__costs c_r__costs r_.costs) (f_slots : SlR (rInt .i64) w O a_slots c_slots slots) (f_group : SlR (rInt .i64) w O a_group c_group group) (f_other : SlR (rInt .i64) w O a_other c_other other) {x : Bool} (hm : m3_overflightlaw37_CoalitionExact r_ slots group other = some x) :
    Ok Try.prog 3 [(Value.agg [(Value.int .i64 r_.slots), (Value.slice a_r__owners r_.owners.length c_r__owners), (Value.slice a_r__costs r_.costs.length c_r__costs)].toArray), (Value.slice a_slots slots.length c_slots), (Value.slice a_group group.length c_group), (Value.slice a_other other.length c_other)] w O vB x := by
  unfold m3_overflightlaw37_CoalitionExact at hm
  refine Fn_of_Wp (n := 113) (xs := [.tmp 8]) Try.func3 rfl Try.ntmps3 Try.results3 rfl ?_
  have hs := St.start hO
  refine Wp_seq ?_
  refine Wp_region ?_  -- 0 law.go:107
  refine Rg_op rfl (op_box (cs := [(Value.int .i64 r_.slots), (Value.slice a_r__owners r_.owners.length c_r__owners), (Value.slice a_r__costs r_.costs.length c_r__costs)]) hs rfl rfl ?_)
  intro b1 w2 _ p3 hs4
  replace f_r__owners := f_r__owners.step p3
  replace f_r__costs := f_r__costs.step p3
  replace f_slots := f_slots.step p3
  replace f_group := f_group.step p3
  replace f_other := f_other.step p3
  clear p3
  refine Rg_op rfl (op_assign (v := (Value.bool false)) rfl ?_)
  refine Rg_nil ?_
  refine Wp_seq ?_
  refine Wp_seq ?_
  refine Wp_region ?_  -- 1 law.go:108
  replace hm := bd hm; obtain ⟨sane_1, hv6, hm⟩ := hm
  refine Rg_op rfl (op_call Try.call15 (c15_overflightlaw37_sane  hs4.ltw  hv6) rfl ?_)
  rintro v7 w8 ⟨hx9, h10⟩
  have hs11 := hs4.call hx9
  have p12 := Step.ext (O := ks [(some b1, Obj.cells [(Value.int .i64 r_.slots), (Value.slice a_r__owners r_.owners.length c_r__owners), (Value.slice a_r__costs r_.costs.length c_r__costs)].toArray 25)] O) hx9
  clear hx9
  replace f_r__owners := f_r__owners.step p12
  replace f_r__costs := f_r__costs.step p12
  replace f_slots := f_slots.step p12
  replace f_group := f_group.step p12
  replace f_other := f_other.step p12
  clear p12 hs4
  obtain rfl := h10
  refine Rg_op rfl (op_not rfl ?_)
  refine Rg_nil ?_
  refine Wp_cond rfl (fun hc14 => ?_) (fun hc14 => ?_)
  ·
    replace hm := bif_t hm hc14
    refine Wp_seq ?_
    obtain ⟨hs15, p16⟩ := hs11.sub (bs' := []) (.cons _ List.Sublist.slnil)
    clear f_r__owners f_r__costs f_slots f_group f_other
    clear p16 hs11
    refine Wp_region ?_  -- 2 law.go:109
    refine Rg_op rfl (op_assign (v := (Value.bool false)) rfl ?_)
    refine Rg_nil ?_
    refine Wp_ret ?_
    have hz := step_all hs15
    refine ⟨_, (show Closes [] _ _ from rfl), [(Value.bool false)], ⟨rfl, trivial⟩, hs15.ext, ?_⟩
    exact Vr.eq (a := vB) (x := false) rfl (Option.some.inj hm)
  ·
    replace hm := bif_f hm hc14
    refine Wp_skip ?_
    refine Wp_seq ?_
    refine Wp_reset [] [(1, (Value.slice a_slots slots.length c_slots)), (2, (Value.slice a_group group.length c_group)), (3, (Value.slice a_other other.length c_other)), (4, (Value.pointer (some ⟨b1, 0, none⟩)))] rfl ⟨rfl, rfl, rfl, rfl, trivial⟩ fun ξ17 => ?_
    replace hm := jn_elim hm; obtain ⟨k19, hk20, hm⟩ := hm
    refine Wp_seqJ [18, 19, 20, 21, 22, 23, 24, 25, 26, 27, 28, 29, 30, 31, 32, 33, 34, 35] (fun fr w' => ∃ (v_1 : Bool) (Ebs : Ents), Ebs = [(some b1, Obj.cells [(Value.int .i64 r_.slots), (Value.slice a_r__owners r_.owners.length c_r__owners), (Value.slice a_r__costs r_.costs.length c_r__costs)].toArray 25)] ∧ fr [] [(35, (Value.bool v_1))] ∧ Step (ks [(some b1, Obj.cells [(Value.int .i64 r_.slots), (Value.slice a_r__owners r_.owners.length c_r__owners), (Value.slice a_r__costs r_.costs.length c_r__costs)].toArray 25)] O) w8 (ks Ebs O) w' ∧ St ⟨w, [], []⟩ O w' Ebs ∧ k19 v_1 = some x) ?_ ?_
    ·
      rintro ρ26 w22 ⟨v_1, Ebs, hEbs, hfr25, hst24, hs23, hm⟩
      replace hm := jnE1 hk20 hm
      subst hEbs; rw [hfr25.eq]; clear hfr25
      replace f_r__owners := f_r__owners.step hst24
      replace f_r__costs := f_r__costs.step hst24
      replace f_slots := f_slots.step hst24
      replace f_group := f_group.step hst24
      replace f_other := f_other.step hst24
      clear hst24 hs11
      refine Wp_cond rfl (fun hc27 => ?_) (fun hc27 => ?_)
      ·
        replace hm := bif_t hm hc27
        refine Wp_seq ?_
        obtain ⟨hs28, p29⟩ := hs23.sub (bs' := []) (.cons _ List.Sublist.slnil)
        clear f_r__owners f_r__costs f_slots f_group f_other
        clear p29 hs23
        refine Wp_region ?_  -- 4 law.go:112
        refine Rg_op rfl (op_assign (v := (Value.bool true)) rfl ?_)
        refine Rg_nil ?_
        refine Wp_ret ?_
        have hz := step_all hs28
        refine ⟨_, (show Closes [] _ _ from rfl), [(Value.bool true)], ⟨rfl, trivial⟩, hs28.ext, ?_⟩
        exact Vr.eq (a := vB) (x := true) rfl (Option.some.inj hm)
      ·
        replace hm := bif_f hm hc27
        refine Wp_skip ?_
        refine Wp_seq ?_
        refine Wp_region ?_  -- 5 law.go:114
        refine Rg_op rfl (op_loadA (cs := [(Value.int .i64 r_.slots), (Value.slice a_r__owners r_.owners.length c_r__owners), (Value.slice a_r__costs r_.costs.length c_r__costs)]) (vs := [(Value.int .i64 r_.slots), (Value.slice a_r__owners r_.owners.length c_r__owners), (Value.slice a_r__costs r_.costs.length c_r__costs)]) (i := 0) ty25 hs23 rfl rfl rfl rfl ?_)
        refine Rg_op rfl (op_move (v := (Value.slice a_slots slots.length c_slots)) rfl ?_)
        refine Rg_op rfl (op_move (v := (Value.slice a_group group.length c_group)) rfl ?_)
        replace hm := bd hm; obtain ⟨blocks_1, hv30, hm⟩ := hm
        refine Rg_op rfl (op_call Try.call17 (c17_coalition_Blocks (r_ := r_) (slots := slots) (group := group) hs23.ltw r_r__slots f_r__owners f_r__costs f_slots f_group hv30) rfl ?_)
        rintro v31 w32 ⟨hx33, h34⟩
        have hs35 := hs23.call hx33
        have p36 := Step.ext (O := ks [(some b1, Obj.cells [(Value.int .i64 r_.slots), (Value.slice a_r__owners r_.owners.length c_r__owners), (Value.slice a_r__costs r_.costs.length c_r__costs)].toArray 25)] O) hx33
        clear hx33
        replace f_r__owners := f_r__owners.step p36
        replace f_r__costs := f_r__costs.step p36
        replace f_slots := f_slots.step p36
        replace f_group := f_group.step p36
        replace f_other := f_other.step p36
        clear p36 hs23
        obtain ⟨v37, v38, v39, rfl, h40, h41, h42⟩ := h34
        obtain ⟨a_y43, c_y43, rfl, f_y43⟩ := un_sl h40
        obtain rfl := h41
        obtain ⟨rfl, r_y45⟩ := h42
        refine Rg_op rfl (op_move (v := (Value.tuple [(Value.slice a_y43 blocks_1.1.length c_y43), (Value.bool blocks_1.2.1), (Value.int .i64 blocks_1.2.2)].toArray)) rfl ?_)
        refine Rg_op rfl (op_extract (v := (Value.slice a_y43 blocks_1.1.length c_y43)) rfl rfl ?_)
        refine Rg_op rfl (op_extract (v := (Value.bool blocks_1.2.1)) rfl rfl ?_)
        refine Rg_op rfl (op_extract (v := (Value.int .i64 blocks_1.2.2)) rfl rfl ?_)
        refine Rg_op rfl (op_assign (v := (Value.slice a_y43 blocks_1.1.length c_y43)) rfl ?_)
        refine Rg_op rfl (op_assign (v := (Value.bool blocks_1.2.1)) rfl ?_)
        refine Rg_op rfl (op_assign (v := (Value.int .i64 blocks_1.2.2)) rfl ?_)
        refine Rg_nil ?_
        refine Wp_seq ?_
        refine Wp_region ?_  -- 6 law.go:115
        refine Rg_op rfl (op_loadA (cs := [(Value.int .i64 r_.slots), (Value.slice a_r__owners r_.owners.length c_r__owners), (Value.slice a_r__costs r_.costs.length c_r__costs)]) (vs := [(Value.int .i64 r_.slots), (Value.slice a_r__owners r_.owners.length c_r__owners), (Value.slice a_r__costs r_.costs.length c_r__costs)]) (i := 0) ty25 hs35 rfl rfl rfl rfl ?_)
        refine Rg_op rfl (op_move (v := (Value.slice a_slots slots.length c_slots)) rfl ?_)
        replace hm := bd hm; obtain ⟨costs_1, hv46, hm⟩ := hm
        refine Rg_op rfl (op_call Try.call18 (c18_coalition_Costs (r_ := r_) (slots := slots) hs35.ltw r_r__slots f_r__owners f_r__costs f_slots hv46) rfl ?_)
        rintro v47 w48 ⟨hx49, h50⟩
        have hs51 := hs35.call hx49
        have p52 := Step.ext (O := ks [(some b1, Obj.cells [(Value.int .i64 r_.slots), (Value.slice a_r__owners r_.owners.length c_r__owners), (Value.slice a_r__costs r_.costs.length c_r__costs)].toArray 25)] O) hx49
        clear hx49
        replace f_r__owners := f_r__owners.step p52
        replace f_r__costs := f_r__costs.step p52
        replace f_slots := f_slots.step p52
        replace f_group := f_group.step p52
        replace f_other := f_other.step p52
        replace f_y43 := f_y43.step p52
        clear p52 hs35
        obtain ⟨v53, v54, rfl, h55, h56⟩ := h50
        obtain ⟨a_y57, c_y57, rfl, f_y57⟩ := un_sl h55
        obtain ⟨rfl, r_y58⟩ := h56
        refine Rg_op rfl (op_move (v := (Value.tuple [(Value.slice a_y57 costs_1.1.length c_y57), (Value.int .i64 costs_1.2)].toArray)) rfl ?_)
        refine Rg_op rfl (op_extract (v := (Value.slice a_y57 costs_1.1.length c_y57)) rfl rfl ?_)
        refine Rg_op rfl (op_extract (v := (Value.int .i64 costs_1.2)) rfl rfl ?_)
        refine Rg_op rfl (op_assign (v := (Value.slice a_y57 costs_1.1.length c_y57)) rfl ?_)
        refine Rg_op rfl (op_assign (v := (Value.int .i64 costs_1.2)) rfl ?_)
        refine Rg_nil ?_
        refine Wp_seq ?_
        refine Wp_seq ?_
        refine Wp_reset [] [(1, (Value.slice a_slots slots.length c_slots)), (2, (Value.slice a_group group.length c_group)), (3, (Value.slice a_other other.length c_other)), (4, (Value.pointer (some ⟨b1, 0, none⟩))), (9, (Value.slice a_y43 blocks_1.1.length c_y43)), (10, (Value.bool blocks_1.2.1)), (11, (Value.int .i64 blocks_1.2.2)), (12, (Value.slice a_y57 costs_1.1.length c_y57)), (13, (Value.int .i64 costs_1.2))] rfl ⟨rfl, rfl, rfl, rfl, rfl, rfl, rfl, rfl, rfl, trivial⟩ fun ξ59 => ?_
        refine Wp_region ?_  -- 7 law.go:116
        refine Rg_op rfl (op_move (v := (Value.int .i64 blocks_1.2.2)) rfl ?_)
        refine Rg_op rfl (op_neq rfl rfl ?_)
        refine Rg_nil ?_
        refine Wp_cond rfl (fun hc60 => ?_) (fun hc60 => ?_)
        ·
          replace hm := bif_t hm hc60
          refine Wp_seq ?_
          obtain ⟨hs61, p62⟩ := hs51.sub (bs' := []) (.cons _ List.Sublist.slnil)
          clear f_r__owners f_r__costs f_slots f_group f_other f_y57
          replace f_y43 := f_y43.step p62
          clear p62 hs51
          refine Wp_region ?_  -- 8 law.go:117
          refine Rg_op rfl (op_move (v := (Value.bool blocks_1.2.1)) rfl ?_)
          refine Rg_op rfl (op_not rfl ?_)
          refine Rg_op rfl (op_move (v := (Value.bool (!blocks_1.2.1))) rfl ?_)
          refine Rg_case (fun hg63 => ?_) (fun hg63 => ?_)
          ·
            replace hm := bif_t hm hg63
            refine Rg_opg rfl rfl rfl (op_move (v := (Value.slice a_y43 blocks_1.1.length c_y43)) rfl ?_)
            refine Rg_opg rfl rfl rfl (op_len Try.underlying22 rfl ?_)
            refine Rg_opg rfl rfl rfl (op_eql rfl rfl ?_)
            refine Rg_op rfl (op_pick_t (v := (Value.bool (decide ((blocks_1.1.length : Int) = 0)))) rfl rfl ?_)
            refine Rg_op rfl (op_assign (v := (Value.bool (decide ((blocks_1.1.length : Int) = 0)))) rfl ?_)
            refine Rg_nil ?_
            refine Wp_ret ?_
            have hz := step_all hs61
            replace f_y43 := f_y43.step hz
            refine ⟨_, (show Closes [] _ _ from rfl), [(Value.bool (decide ((blocks_1.1.length : Int) = 0)))], ⟨rfl, trivial⟩, hs61.ext, ?_⟩
            exact Vr.eq (a := vB) (x := (decide ((blocks_1.1.length : Int) = 0))) rfl (Option.some.inj hm)
          ·
            replace hm := bif_f hm hg63
            refine Rg_opx rfl (asB_ne rfl rfl) rfl ?_
            refine Rg_opx rfl (asB_ne rfl rfl) rfl ?_
            refine Rg_opx rfl (asB_ne rfl rfl) rfl ?_
            refine Rg_op rfl (op_pick_f (v := (Value.bool false)) rfl rfl ?_)
            refine Rg_op rfl (op_assign (v := (Value.bool false)) rfl ?_)
            refine Rg_nil ?_
            refine Wp_ret ?_
            have hz := step_all hs61
            replace f_y43 := f_y43.step hz
            refine ⟨_, (show Closes [] _ _ from rfl), [(Value.bool false)], ⟨rfl, trivial⟩, hs61.ext, ?_⟩
            exact Vr.eq (a := vB) (x := false) rfl (Option.some.inj hm)
        ·
          replace hm := bif_f hm hc60
          refine Wp_skip ?_
          refine Wp_seq ?_
          refine Wp_region ?_  -- 9 law.go:119
          refine Rg_op rfl (op_loadA (cs := [(Value.int .i64 r_.slots), (Value.slice a_r__owners r_.owners.length c_r__owners), (Value.slice a_r__costs r_.costs.length c_r__costs)]) (vs := [(Value.int .i64 r_.slots), (Value.slice a_r__owners r_.owners.length c_r__owners), (Value.slice a_r__costs r_.costs.length c_r__costs)]) (i := 0) ty25 hs51 rfl rfl rfl rfl ?_)
          refine Rg_op rfl (op_move (v := (Value.slice a_slots slots.length c_slots)) rfl ?_)
          replace hm := bd hm; obtain ⟨stable_1, hv64, hm⟩ := hm
          refine Rg_op rfl (op_call Try.call19 (c19_coalition_Stable (r_ := r_) (slots := slots) hs51.ltw r_r__slots f_r__owners f_r__costs f_slots hv64) rfl ?_)
          rintro v65 w66 ⟨hx67, h68⟩
          have hs69 := hs51.call hx67
          have p70 := Step.ext (O := ks [(some b1, Obj.cells [(Value.int .i64 r_.slots), (Value.slice a_r__owners r_.owners.length c_r__owners), (Value.slice a_r__costs r_.costs.length c_r__costs)].toArray 25)] O) hx67
          clear hx67
          replace f_r__owners := f_r__owners.step p70
          replace f_r__costs := f_r__costs.step p70
          replace f_slots := f_slots.step p70
          replace f_group := f_group.step p70
          replace f_other := f_other.step p70
          replace f_y43 := f_y43.step p70
          replace f_y57 := f_y57.step p70
          clear p70 hs51
          obtain ⟨v71, v72, rfl, h73, h74⟩ := h68
          obtain rfl := h73
          obtain ⟨rfl, r_y76⟩ := h74
          refine Rg_op rfl (op_move (v := (Value.tuple [(Value.bool stable_1.1), (Value.int .i64 stable_1.2)].toArray)) rfl ?_)
          refine Rg_op rfl (op_extract (v := (Value.bool stable_1.1)) rfl rfl ?_)
          refine Rg_op rfl (op_extract (v := (Value.int .i64 stable_1.2)) rfl rfl ?_)
          refine Rg_op rfl (op_assign (v := (Value.bool stable_1.1)) rfl ?_)
          refine Rg_op rfl (op_assign (v := (Value.int .i64 stable_1.2)) rfl ?_)
          refine Rg_nil ?_
          refine Wp_seq ?_
          refine Wp_reset [] [(2, (Value.slice a_group group.length c_group)), (3, (Value.slice a_other other.length c_other)), (4, (Value.pointer (some ⟨b1, 0, none⟩))), (9, (Value.slice a_y43 blocks_1.1.length c_y43)), (10, (Value.bool blocks_1.2.1)), (12, (Value.slice a_y57 costs_1.1.length c_y57)), (13, (Value.int .i64 costs_1.2)), (14, (Value.bool stable_1.1)), (15, (Value.int .i64 stable_1.2))] rfl ⟨rfl, rfl, rfl, rfl, rfl, rfl, rfl, rfl, rfl, trivial⟩ fun ξ77 => ?_
          replace hm := jn_elim hm; obtain ⟨k79, hk80, hm⟩ := hm
          refine Wp_seqJ [65, 66, 67, 68, 69, 70, 71, 72, 73, 74, 75, 76, 77, 78, 79, 80, 81, 82, 83, 84, 85, 86, 87, 88, 89, 90, 91, 92, 93, 94] (fun fr w' => ∃ (v_2 : Bool) (Ebs : Ents), Ebs = [(some b1, Obj.cells [(Value.int .i64 r_.slots), (Value.slice a_r__owners r_.owners.length c_r__owners), (Value.slice a_r__costs r_.costs.length c_r__costs)].toArray 25)] ∧ fr [] [(94, (Value.bool v_2))] ∧ Step (ks [(some b1, Obj.cells [(Value.int .i64 r_.slots), (Value.slice a_r__owners r_.owners.length c_r__owners), (Value.slice a_r__costs r_.costs.length c_r__costs)].toArray 25)] O) w66 (ks Ebs O) w' ∧ St ⟨w, [], []⟩ O w' Ebs ∧ k79 v_2 = some x) ?_ ?_
          ·
            rintro ρ86 w82 ⟨v_2, Ebs, hEbs, hfr85, hst84, hs83, hm⟩
            replace hm := jnE1 hk80 hm
            subst hEbs; rw [hfr85.eq]; clear hfr85
            replace f_r__owners := f_r__owners.step hst84
            replace f_r__costs := f_r__costs.step hst84
            replace f_slots := f_slots.step hst84
            replace f_group := f_group.step hst84
            replace f_other := f_other.step hst84
            replace f_y43 := f_y43.step hst84
            replace f_y57 := f_y57.step hst84
            clear hst84 hs69
            refine Wp_cond rfl (fun hc87 => ?_) (fun hc87 => ?_)
            ·
              replace hm := bif_t hm hc87
              refine Wp_seq ?_
              obtain ⟨hs88, p89⟩ := hs83.sub (bs' := []) (.cons _ List.Sublist.slnil)
              clear f_r__owners f_r__costs f_slots f_group f_other f_y43 f_y57
              clear p89 hs83
              refine Wp_region ?_  -- 11 law.go:121
              refine Rg_op rfl (op_assign (v := (Value.bool false)) rfl ?_)
              refine Rg_nil ?_
              refine Wp_ret ?_
              have hz := step_all hs88
              refine ⟨_, (show Closes [] _ _ from rfl), [(Value.bool false)], ⟨rfl, trivial⟩, hs88.ext, ?_⟩
              exact Vr.eq (a := vB) (x := false) rfl (Option.some.inj hm)
            ·
              replace hm := bif_f hm hc87
              refine Wp_skip ?_
              refine Wp_seq ?_
              refine Wp_reset [] [(2, (Value.slice a_group group.length c_group)), (3, (Value.slice a_other other.length c_other)), (4, (Value.pointer (some ⟨b1, 0, none⟩))), (10, (Value.bool blocks_1.2.1)), (12, (Value.slice a_y57 costs_1.1.length c_y57)), (14, (Value.bool stable_1.1))] rfl ⟨rfl, rfl, rfl, rfl, rfl, rfl, trivial⟩ fun ξ90 => ?_
              replace hm := jn_elim hm; obtain ⟨k92, hk93, hm⟩ := hm
              refine Wp_seqJ [95, 96, 97, 98, 99, 100, 101, 102, 103, 104, 105, 106] (fun fr w' => ∃ (v_3 : Bool) (Ebs : Ents), Ebs = [(some b1, Obj.cells [(Value.int .i64 r_.slots), (Value.slice a_r__owners r_.owners.length c_r__owners), (Value.slice a_r__costs r_.costs.length c_r__costs)].toArray 25)] ∧ fr [] [(106, (Value.bool v_3))] ∧ Step (ks [(some b1, Obj.cells [(Value.int .i64 r_.slots), (Value.slice a_r__owners r_.owners.length c_r__owners), (Value.slice a_r__costs r_.costs.length c_r__costs)].toArray 25)] O) w82 (ks Ebs O) w' ∧ St ⟨w, [], []⟩ O w' Ebs ∧ k92 v_3 = some x) ?_ ?_
              ·
                rintro ρ99 w95 ⟨v_3, Ebs, hEbs, hfr98, hst97, hs96, hm⟩
                replace hm := jnE1 hk93 hm
                subst hEbs; rw [hfr98.eq]; clear hfr98
                replace f_r__owners := f_r__owners.step hst97
                replace f_r__costs := f_r__costs.step hst97
                replace f_slots := f_slots.step hst97
                replace f_group := f_group.step hst97
                replace f_other := f_other.step hst97
                replace f_y43 := f_y43.step hst97
                replace f_y57 := f_y57.step hst97
                clear hst97 hs83
                refine Wp_cond rfl (fun hc100 => ?_) (fun hc100 => ?_)
                ·
                  replace hm := bif_t hm hc100
                  refine Wp_seq ?_
                  obtain ⟨hs101, p102⟩ := hs96.sub (bs' := []) (.cons _ List.Sublist.slnil)
                  clear f_r__owners f_r__costs f_slots f_group f_other f_y43 f_y57
                  clear p102 hs96
                  refine Wp_region ?_  -- 13 law.go:124
                  refine Rg_op rfl (op_assign (v := (Value.bool false)) rfl ?_)
                  refine Rg_nil ?_
                  refine Wp_ret ?_
                  have hz := step_all hs101
                  refine ⟨_, (show Closes [] _ _ from rfl), [(Value.bool false)], ⟨rfl, trivial⟩, hs101.ext, ?_⟩
                  exact Vr.eq (a := vB) (x := false) rfl (Option.some.inj hm)
                ·
                  replace hm := bif_f hm hc100
                  refine Wp_skip ?_
                  refine Wp_seq ?_
                  obtain ⟨hs103, p104⟩ := hs96.sub (bs' := []) (.cons _ List.Sublist.slnil)
                  clear f_r__owners f_r__costs f_slots f_group f_other f_y43 f_y57
                  clear p104 hs96
                  refine Wp_region ?_  -- 14 law.go:126
                  refine Rg_op rfl (op_move (v := (Value.bool blocks_1.2.1)) rfl ?_)
                  refine Rg_op rfl (op_not rfl ?_)
                  refine Rg_op rfl (op_move (v := (Value.bool (!blocks_1.2.1))) rfl ?_)
                  refine Rg_case (fun hg105 => ?_) (fun hg105 => ?_)
                  ·
                    replace hm := bif_t hm hg105
                    refine Rg_opx rfl (asB_ne rfl rfl) rfl ?_
                    refine Rg_opx rfl (asB_ne rfl rfl) rfl ?_
                    refine Rg_op rfl (op_pick_t (v := (Value.bool true)) rfl rfl ?_)
                    refine Rg_op rfl (op_assign (v := (Value.bool true)) rfl ?_)
                    refine Rg_nil ?_
                    refine Wp_ret ?_
                    have hz := step_all hs103
                    refine ⟨_, (show Closes [] _ _ from rfl), [(Value.bool true)], ⟨rfl, trivial⟩, hs103.ext, ?_⟩
                    exact Vr.eq (a := vB) (x := true) rfl (Option.some.inj hm)
                  ·
                    replace hm := bif_f hm hg105
                    refine Rg_opg rfl rfl rfl (op_move (v := (Value.bool stable_1.1)) rfl ?_)
                    refine Rg_opg rfl rfl rfl (op_not rfl ?_)
                    refine Rg_op rfl (op_pick_f (v := (Value.bool (!stable_1.1))) rfl rfl ?_)
                    refine Rg_op rfl (op_assign (v := (Value.bool (!stable_1.1))) rfl ?_)
                    refine Rg_nil ?_
                    refine Wp_ret ?_
                    have hz := step_all hs103
                    refine ⟨_, (show Closes [] _ _ from rfl), [(Value.bool (!stable_1.1))], ⟨rfl, trivial⟩, hs103.ext, ?_⟩
                    exact Vr.eq (a := vB) (x := (!stable_1.1)) rfl (Option.some.inj hm)
              ·
                intro K94 hK94
                have ch106 := Step.refl (ks [(some b1, Obj.cells [(Value.int .i64 r_.slots), (Value.slice a_r__owners r_.owners.length c_r__owners), (Value.slice a_r__costs r_.costs.length c_r__costs)].toArray 25)] O) w82
                clear f_slots f_y43
                refine Wp_region ?_  -- 12 law.go:123
                refine Rg_op rfl (op_loadA (cs := [(Value.int .i64 r_.slots), (Value.slice a_r__owners r_.owners.length c_r__owners), (Value.slice a_r__costs r_.costs.length c_r__costs)]) (vs := [(Value.int .i64 r_.slots), (Value.slice a_r__owners r_.owners.length c_r__owners), (Value.slice a_r__costs r_.costs.length c_r__costs)]) (i := 0) ty25 hs83 rfl rfl rfl rfl ?_)
                refine Rg_op rfl (op_move (v := (Value.slice a_group group.length c_group)) rfl ?_)
                refine Rg_op rfl (op_move (v := (Value.slice a_other other.length c_other)) rfl ?_)
                refine Rg_op rfl (op_move (v := (Value.slice a_y57 costs_1.1.length c_y57)) rfl ?_)
                replace hm := bd hm; obtain ⟨better_1, hv107, hm⟩ := hm
                refine Rg_op rfl (op_call Try.call20 (c20_overflightlaw37_better (r_ := r_) (group := group) (slots := other) (than := costs_1.1) hs83.ltw r_r__slots f_r__owners f_r__costs f_group f_other f_y57 hv107) rfl ?_)
                rintro v108 w109 ⟨hx110, h111⟩
                have hs112 := hs83.call hx110
                have p113 := Step.ext (O := ks [(some b1, Obj.cells [(Value.int .i64 r_.slots), (Value.slice a_r__owners r_.owners.length c_r__owners), (Value.slice a_r__costs r_.costs.length c_r__costs)].toArray 25)] O) hx110
                clear hx110
                replace f_r__owners := f_r__owners.step p113
                replace f_r__costs := f_r__costs.step p113
                replace f_group := f_group.step p113
                replace f_other := f_other.step p113
                replace f_y57 := f_y57.step p113
                replace ch106 := ch106.trans p113
                clear p113 hs83
                obtain rfl := h111
                refine Rg_op rfl (op_move (v := (Value.bool better_1)) rfl ?_)
                refine Rg_case (fun hg115 => ?_) (fun hg115 => ?_)
                ·
                  replace hm := bif_t hm hg115
                  refine Rg_opg rfl rfl rfl (op_move (v := (Value.bool blocks_1.2.1)) rfl ?_)
                  refine Rg_opg rfl rfl rfl (op_not rfl ?_)
                  refine Rg_opg rfl rfl rfl (op_move (v := (Value.bool (!blocks_1.2.1))) rfl ?_)
                  refine Rg_case (fun hg116 => ?_) (fun hg116 => ?_)
                  ·
                    replace hm := bif_t hm hg116
                    refine Rg_opx rfl (asB_ne rfl rfl) rfl ?_
                    refine Rg_opg rfl rfl rfl (op_pick_t (v := (Value.bool true)) rfl rfl ?_)
                    refine Rg_op rfl (op_pick_t (v := (Value.bool true)) rfl rfl ?_)
                    refine Rg_nil ?_
                    exact hK94 _ _ ⟨true, _, rfl, ⟨(by repeat (first | with_reducible exact Out.refl _ _ | refine Out.upd ?_ rfl | refine Out.updL ?_ rfl | refine Out.mix' ?_ rfl | exact Out.refl _ _)), rfl, rfl, trivial⟩, ch106, hs112, hm⟩
                  ·
                    replace hm := bif_f hm hg116
                    refine Rg_opg rfl rfl rfl (op_move (v := (Value.bool stable_1.1)) rfl ?_)
                    refine Rg_opg rfl rfl rfl (op_pick_f (v := (Value.bool stable_1.1)) rfl rfl ?_)
                    refine Rg_op rfl (op_pick_t (v := (Value.bool stable_1.1)) rfl rfl ?_)
                    refine Rg_nil ?_
                    exact hK94 _ _ ⟨stable_1.1, _, rfl, ⟨(by repeat (first | with_reducible exact Out.refl _ _ | refine Out.upd ?_ rfl | refine Out.updL ?_ rfl | refine Out.mix' ?_ rfl | exact Out.refl _ _)), rfl, rfl, trivial⟩, ch106, hs112, hm⟩
                ·
                  replace hm := bif_f hm hg115
                  refine Rg_opx rfl (asB_ne rfl rfl) rfl ?_
                  refine Rg_opx rfl (asB_ne rfl rfl) rfl ?_
                  refine Rg_opx rfl (asB_ne rfl rfl) rfl ?_
                  refine Rg_opx rfl (asB_ne rfl rfl) rfl ?_
                  refine Rg_opx rfl (asB_ne rfl rfl) rfl ?_
                  refine Rg_op rfl (op_pick_f (v := (Value.bool false)) rfl rfl ?_)
                  refine Rg_nil ?_
                  exact hK94 _ _ ⟨false, _, rfl, ⟨(by repeat (first | with_reducible exact Out.refl _ _ | refine Out.upd ?_ rfl | refine Out.updL ?_ rfl | refine Out.mix' ?_ rfl | exact Out.refl _ _)), rfl, rfl, trivial⟩, ch106, hs112, hm⟩
          ·
            intro K81 hK81
            have ch117 := Step.refl (ks [(some b1, Obj.cells [(Value.int .i64 r_.slots), (Value.slice a_r__owners r_.owners.length c_r__owners), (Value.slice a_r__costs r_.costs.length c_r__costs)].toArray 25)] O) w66
            clear f_slots
            refine Wp_region ?_  -- 10 law.go:120
            refine Rg_op rfl (op_move (v := (Value.int .i64 costs_1.2)) rfl ?_)
            refine Rg_op rfl (op_neq rfl rfl ?_)
            refine Rg_op rfl (op_move (v := (Value.bool (decide (costs_1.2 ≠ 0)))) rfl ?_)
            refine Rg_case (fun hg118 => ?_) (fun hg118 => ?_)
            ·
              replace hm := bif_t hm hg118
              refine Rg_opx rfl (asB_ne rfl rfl) rfl ?_
              refine Rg_opx rfl (asB_ne rfl rfl) rfl ?_
              refine Rg_op rfl (op_pick_t (v := (Value.bool true)) rfl rfl ?_)
              refine Rg_op rfl (op_move (v := (Value.bool true)) rfl ?_)
              refine Rg_opx rfl (asB_ne rfl rfl) rfl ?_
              refine Rg_opx rfl (asB_ne rfl rfl) rfl ?_
              refine Rg_opx rfl (asB_ne rfl rfl) rfl ?_
              refine Rg_op rfl (op_pick_t (v := (Value.bool true)) rfl rfl ?_)
              refine Rg_op rfl (op_move (v := (Value.bool true)) rfl ?_)
              refine Rg_opx rfl (asB_ne rfl rfl) rfl ?_
              refine Rg_opx rfl (asB_ne rfl rfl) rfl ?_
              refine Rg_opx rfl (asB_ne rfl rfl) rfl ?_
              refine Rg_opx rfl (asB_ne rfl rfl) rfl ?_
              refine Rg_opx rfl (asB_ne rfl rfl) rfl ?_
              refine Rg_opx rfl (asB_ne rfl rfl) rfl ?_
              refine Rg_opx rfl (asB_ne rfl rfl) rfl ?_
              refine Rg_opx rfl (asB_ne rfl rfl) rfl ?_
              refine Rg_opx rfl (asB_ne rfl rfl) rfl ?_
              refine Rg_opx rfl (asB_ne rfl rfl) rfl ?_
              refine Rg_opx rfl (asB_ne rfl rfl) rfl ?_
              refine Rg_opx rfl (asB_ne rfl rfl) rfl ?_
              refine Rg_opx rfl (asB_ne rfl rfl) rfl ?_
              refine Rg_opx rfl (asB_ne rfl rfl) rfl ?_
              refine Rg_opx rfl (asB_ne rfl rfl) rfl ?_
              refine Rg_opx rfl (asB_ne rfl rfl) rfl ?_
              refine Rg_opx rfl (asB_ne rfl rfl) rfl ?_
              refine Rg_op rfl (op_pick_t (v := (Value.bool true)) rfl rfl ?_)
              refine Rg_nil ?_
              exact hK81 _ _ ⟨true, _, rfl, ⟨(by repeat (first | with_reducible exact Out.refl _ _ | refine Out.upd ?_ rfl | refine Out.updL ?_ rfl | refine Out.mix' ?_ rfl | exact Out.refl _ _)), rfl, rfl, trivial⟩, ch117, hs69, hm⟩
            ·
              replace hm := bif_f hm hg118
              refine Rg_opg rfl rfl rfl (op_move (v := (Value.int .i64 stable_1.2)) rfl ?_)
              refine Rg_opg rfl rfl rfl (op_neq rfl rfl ?_)
              refine Rg_op rfl (op_pick_f (v := (Value.bool (decide (stable_1.2 ≠ 0)))) rfl rfl ?_)
              refine Rg_op rfl (op_move (v := (Value.bool (decide (stable_1.2 ≠ 0)))) rfl ?_)
              refine Rg_case (fun hg119 => ?_) (fun hg119 => ?_)
              ·
                replace hm := bif_t hm hg119
                refine Rg_opx rfl (asB_ne rfl rfl) rfl ?_
                refine Rg_opx rfl (asB_ne rfl rfl) rfl ?_
                refine Rg_opx rfl (asB_ne rfl rfl) rfl ?_
                refine Rg_op rfl (op_pick_t (v := (Value.bool true)) rfl rfl ?_)
                refine Rg_op rfl (op_move (v := (Value.bool true)) rfl ?_)
                refine Rg_opx rfl (asB_ne rfl rfl) rfl ?_
                refine Rg_opx rfl (asB_ne rfl rfl) rfl ?_
                refine Rg_opx rfl (asB_ne rfl rfl) rfl ?_
                refine Rg_opx rfl (asB_ne rfl rfl) rfl ?_
                refine Rg_opx rfl (asB_ne rfl rfl) rfl ?_
                refine Rg_opx rfl (asB_ne rfl rfl) rfl ?_
                refine Rg_opx rfl (asB_ne rfl rfl) rfl ?_
                refine Rg_opx rfl (asB_ne rfl rfl) rfl ?_
                refine Rg_opx rfl (asB_ne rfl rfl) rfl ?_
                refine Rg_opx rfl (asB_ne rfl rfl) rfl ?_
                refine Rg_opx rfl (asB_ne rfl rfl) rfl ?_
                refine Rg_opx rfl (asB_ne rfl rfl) rfl ?_
                refine Rg_opx rfl (asB_ne rfl rfl) rfl ?_
                refine Rg_opx rfl (asB_ne rfl rfl) rfl ?_
                refine Rg_opx rfl (asB_ne rfl rfl) rfl ?_
                refine Rg_opx rfl (asB_ne rfl rfl) rfl ?_
                refine Rg_opx rfl (asB_ne rfl rfl) rfl ?_
                refine Rg_op rfl (op_pick_t (v := (Value.bool true)) rfl rfl ?_)
                refine Rg_nil ?_
                exact hK81 _ _ ⟨true, _, rfl, ⟨(by repeat (first | with_reducible exact Out.refl _ _ | refine Out.upd ?_ rfl | refine Out.updL ?_ rfl | refine Out.mix' ?_ rfl | exact Out.refl _ _)), rfl, rfl, trivial⟩, ch117, hs69, hm⟩
              ·
                replace hm := bif_f hm hg119
                refine Rg_opg rfl rfl rfl (op_move (v := (Value.slice a_y57 costs_1.1.length c_y57)) rfl ?_)
                refine Rg_opg rfl rfl rfl (op_len Try.underlying22 rfl ?_)
                refine Rg_opg rfl rfl rfl (op_neq rfl rfl ?_)
                refine Rg_op rfl (op_pick_f (v := (Value.bool (decide ((costs_1.1.length : Int) ≠ 8)))) rfl rfl ?_)
                refine Rg_op rfl (op_move (v := (Value.bool (decide ((costs_1.1.length : Int) ≠ 8)))) rfl ?_)
                refine Rg_case (fun hg120 => ?_) (fun hg120 => ?_)
                ·
                  replace hm := bif_t hm hg120
                  refine Rg_opx rfl (asB_ne rfl rfl) rfl ?_
                  refine Rg_opx rfl (asB_ne rfl rfl) rfl ?_
                  refine Rg_opx rfl (asB_ne rfl rfl) rfl ?_
                  refine Rg_opx rfl (asB_ne rfl rfl) rfl ?_
                  refine Rg_opx rfl (asB_ne rfl rfl) rfl ?_
                  refine Rg_opx rfl (asB_ne rfl rfl) rfl ?_
                  refine Rg_opx rfl (asB_ne rfl rfl) rfl ?_
                  refine Rg_opx rfl (asB_ne rfl rfl) rfl ?_
                  refine Rg_opx rfl (asB_ne rfl rfl) rfl ?_
                  refine Rg_opx rfl (asB_ne rfl rfl) rfl ?_
                  refine Rg_opx rfl (asB_ne rfl rfl) rfl ?_
                  refine Rg_opx rfl (asB_ne rfl rfl) rfl ?_
                  refine Rg_opx rfl (asB_ne rfl rfl) rfl ?_
                  refine Rg_opx rfl (asB_ne rfl rfl) rfl ?_
                  refine Rg_opx rfl (asB_ne rfl rfl) rfl ?_
                  refine Rg_opx rfl (asB_ne rfl rfl) rfl ?_
                  refine Rg_opx rfl (asB_ne rfl rfl) rfl ?_
                  refine Rg_op rfl (op_pick_t (v := (Value.bool true)) rfl rfl ?_)
                  refine Rg_nil ?_
                  exact hK81 _ _ ⟨true, _, rfl, ⟨(by repeat (first | with_reducible exact Out.refl _ _ | refine Out.upd ?_ rfl | refine Out.updL ?_ rfl | refine Out.mix' ?_ rfl | exact Out.refl _ _)), rfl, rfl, trivial⟩, ch117, hs69, hm⟩
                ·
                  replace hm := bif_f hm hg120
                  refine Rg_opg rfl rfl rfl (op_move (v := (Value.bool blocks_1.2.1)) rfl ?_)
                  refine Rg_opg rfl rfl rfl (op_loadA (cs := [(Value.int .i64 r_.slots), (Value.slice a_r__owners r_.owners.length c_r__owners), (Value.slice a_r__costs r_.costs.length c_r__costs)]) (vs := [(Value.int .i64 r_.slots), (Value.slice a_r__owners r_.owners.length c_r__owners), (Value.slice a_r__costs r_.costs.length c_r__costs)]) (i := 0) ty25 hs69 rfl rfl rfl rfl ?_)
                  refine Rg_opg rfl rfl rfl (op_move (v := (Value.slice a_group group.length c_group)) rfl ?_)
                  refine Rg_opg rfl rfl rfl (op_move (v := (Value.slice a_y43 blocks_1.1.length c_y43)) rfl ?_)
                  refine Rg_opg rfl rfl rfl (op_move (v := (Value.slice a_y57 costs_1.1.length c_y57)) rfl ?_)
                  replace hm := bd hm; obtain ⟨better_2, hv121, hm⟩ := hm
                  refine Rg_opg rfl rfl rfl (op_call Try.call20 (c20_overflightlaw37_better (r_ := r_) (group := group) (slots := blocks_1.1) (than := costs_1.1) hs69.ltw r_r__slots f_r__owners f_r__costs f_group f_y43 f_y57 hv121) rfl ?_)
                  rintro v122 w123 ⟨hx124, h125⟩
                  have hs126 := hs69.call hx124
                  have p127 := Step.ext (O := ks [(some b1, Obj.cells [(Value.int .i64 r_.slots), (Value.slice a_r__owners r_.owners.length c_r__owners), (Value.slice a_r__costs r_.costs.length c_r__costs)].toArray 25)] O) hx124
                  clear hx124
                  replace f_r__owners := f_r__owners.step p127
                  replace f_r__costs := f_r__costs.step p127
                  replace f_group := f_group.step p127
                  replace f_other := f_other.step p127
                  replace f_y43 := f_y43.step p127
                  replace f_y57 := f_y57.step p127
                  replace ch117 := ch117.trans p127
                  clear p127 hs69
                  obtain rfl := h125
                  refine Rg_opg rfl rfl rfl (op_neqb Try.underlying4 rfl rfl ?_)
                  refine Rg_opg rfl rfl rfl (op_move (v := (Value.bool (!(blocks_1.2.1 == better_2)))) rfl ?_)
                  refine Rg_case (fun hg129 => ?_) (fun hg129 => ?_)
                  ·
                    replace hm := bif_t hm hg129
                    refine Rg_opg rfl rfl rfl (op_move (v := (Value.bool blocks_1.2.1)) rfl ?_)
                    refine Rg_opg rfl rfl rfl (op_move (v := (Value.bool blocks_1.2.1)) rfl ?_)
                    refine Rg_case (fun hg130 => ?_) (fun hg130 => ?_)
                    ·
                      replace hm := bif_t hm hg130
                      refine Rg_opx rfl (asB_ne rfl rfl) rfl ?_
                      refine Rg_opx rfl (asB_ne rfl rfl) rfl ?_
                      refine Rg_opx rfl (asB_ne rfl rfl) rfl ?_
                      refine Rg_opx rfl (asB_ne rfl rfl) rfl ?_
                      refine Rg_opx rfl (asB_ne rfl rfl) rfl ?_
                      refine Rg_opg rfl rfl rfl (op_pick_t (v := (Value.bool true)) rfl rfl ?_)
                      refine Rg_opg rfl rfl rfl (op_pick_t (v := (Value.bool true)) rfl rfl ?_)
                      refine Rg_op rfl (op_pick_f (v := (Value.bool true)) rfl rfl ?_)
                      refine Rg_nil ?_
                      exact hK81 _ _ ⟨true, _, rfl, ⟨(by repeat (first | with_reducible exact Out.refl _ _ | refine Out.upd ?_ rfl | refine Out.updL ?_ rfl | refine Out.mix' ?_ rfl | exact Out.refl _ _)), rfl, rfl, trivial⟩, ch117, hs126, hm⟩
                    ·
                      replace hm := bif_f hm hg130
                      refine Rg_opg rfl rfl rfl (op_loadA (cs := [(Value.int .i64 r_.slots), (Value.slice a_r__owners r_.owners.length c_r__owners), (Value.slice a_r__costs r_.costs.length c_r__costs)]) (vs := [(Value.int .i64 r_.slots), (Value.slice a_r__owners r_.owners.length c_r__owners), (Value.slice a_r__costs r_.costs.length c_r__costs)]) (i := 0) ty25 hs126 rfl rfl rfl rfl ?_)
                      refine Rg_opg rfl rfl rfl (op_move (v := (Value.slice a_group group.length c_group)) rfl ?_)
                      replace hm := bd hm; obtain ⟨members_1, hv131, hm⟩ := hm
                      refine Rg_opg rfl rfl rfl (op_call Try.call21 (g21_overflightlaw37_members (r_ := r_) (group := group) hs126.ltw r_r__slots f_r__owners f_r__costs f_group hv131) rfl ?_)
                      rintro _ w133 ⟨hx134, a137, c138, k139, o140, rfl, hk141, f142⟩
                      obtain ⟨hs136, p143⟩ := hs126.callG (o := o140) hx134 hk141
                      rw [← ks_cons (o := o140)] at f142
                      replace f_r__owners := f_r__owners.step p143
                      replace f_r__costs := f_r__costs.step p143
                      replace f_group := f_group.step p143
                      replace f_other := f_other.step p143
                      replace f_y43 := f_y43.step p143
                      replace f_y57 := f_y57.step p143
                      replace ch117 := ch117.trans p143
                      clear p143 hs126
                      refine Rg_opg rfl rfl rfl (op_len Try.underlying22 rfl ?_)
                      refine Rg_opg rfl rfl rfl (op_gtr rfl rfl ?_)
                      refine Rg_opg rfl rfl rfl (op_pick_f (v := (Value.bool (decide (0 < (members_1.length : Int))))) rfl rfl ?_)
                      refine Rg_opg rfl rfl rfl (op_pick_t (v := (Value.bool (decide (0 < (members_1.length : Int))))) rfl rfl ?_)
                      refine Rg_op rfl (op_pick_f (v := (Value.bool (decide (0 < (members_1.length : Int))))) rfl rfl ?_)
                      refine Rg_nil ?_
                      have hs145 := hs136.drop 0
                      replace f_r__owners := f_r__owners.step (Step.drop _ _ [(k139, o140), (some b1, Obj.cells [(Value.int .i64 r_.slots), (Value.slice a_r__owners r_.owners.length c_r__owners), (Value.slice a_r__costs r_.costs.length c_r__costs)].toArray 25)] 0)
                      replace f_r__costs := f_r__costs.step (Step.drop _ _ [(k139, o140), (some b1, Obj.cells [(Value.int .i64 r_.slots), (Value.slice a_r__owners r_.owners.length c_r__owners), (Value.slice a_r__costs r_.costs.length c_r__costs)].toArray 25)] 0)
                      replace f_group := f_group.step (Step.drop _ _ [(k139, o140), (some b1, Obj.cells [(Value.int .i64 r_.slots), (Value.slice a_r__owners r_.owners.length c_r__owners), (Value.slice a_r__costs r_.costs.length c_r__costs)].toArray 25)] 0)
                      replace f_other := f_other.step (Step.drop _ _ [(k139, o140), (some b1, Obj.cells [(Value.int .i64 r_.slots), (Value.slice a_r__owners r_.owners.length c_r__owners), (Value.slice a_r__costs r_.costs.length c_r__costs)].toArray 25)] 0)
                      replace f_y43 := f_y43.step (Step.drop _ _ [(k139, o140), (some b1, Obj.cells [(Value.int .i64 r_.slots), (Value.slice a_r__owners r_.owners.length c_r__owners), (Value.slice a_r__costs r_.costs.length c_r__costs)].toArray 25)] 0)
                      replace f_y57 := f_y57.step (Step.drop _ _ [(k139, o140), (some b1, Obj.cells [(Value.int .i64 r_.slots), (Value.slice a_r__owners r_.owners.length c_r__owners), (Value.slice a_r__costs r_.costs.length c_r__costs)].toArray 25)] 0)
                      replace f142 := f142.step (Step.drop _ _ [(k139, o140), (some b1, Obj.cells [(Value.int .i64 r_.slots), (Value.slice a_r__owners r_.owners.length c_r__owners), (Value.slice a_r__costs r_.costs.length c_r__costs)].toArray 25)] 0)
                      replace ch117 := ch117.trans (Step.drop _ _ [(k139, o140), (some b1, Obj.cells [(Value.int .i64 r_.slots), (Value.slice a_r__owners r_.owners.length c_r__owners), (Value.slice a_r__costs r_.costs.length c_r__costs)].toArray 25)] 0)
                      clear hs136
                      exact hK81 _ _ ⟨(decide (0 < (members_1.length : Int))), _, rfl, ⟨(by repeat (first | with_reducible exact Out.refl _ _ | refine Out.upd ?_ rfl | refine Out.updL ?_ rfl | refine Out.mix' ?_ rfl | exact Out.refl _ _)), rfl, rfl, trivial⟩, ch117, hs145, hm⟩
                  ·
                    replace hm := bif_f hm hg129
                    refine Rg_opx rfl (asB_ne rfl rfl) rfl ?_
                    refine Rg_opx rfl (asB_ne rfl rfl) rfl ?_
                    refine Rg_opx rfl (asB_ne rfl rfl) rfl ?_
                    refine Rg_opx rfl (asB_ne rfl rfl) rfl ?_
                    refine Rg_opx rfl (asB_ne rfl rfl) rfl ?_
                    refine Rg_opx rfl (asB_ne rfl rfl) rfl ?_
                    refine Rg_opx rfl (asB_ne rfl rfl) rfl ?_
                    refine Rg_opx rfl (asB_ne rfl rfl) rfl ?_
                    refine Rg_opg rfl rfl rfl (op_pick_f (v := (Value.bool false)) rfl rfl ?_)
                    refine Rg_op rfl (op_pick_f (v := (Value.bool false)) rfl rfl ?_)
                    refine Rg_nil ?_
                    exact hK81 _ _ ⟨false, _, rfl, ⟨(by repeat (first | with_reducible exact Out.refl _ _ | refine Out.upd ?_ rfl | refine Out.updL ?_ rfl | refine Out.mix' ?_ rfl | exact Out.refl _ _)), rfl, rfl, trivial⟩, ch117, hs126, hm⟩
    ·
      intro K21 hK21
      have ch146 := Step.refl (ks [(some b1, Obj.cells [(Value.int .i64 r_.slots), (Value.slice a_r__owners r_.owners.length c_r__owners), (Value.slice a_r__costs r_.costs.length c_r__costs)].toArray 25)] O) w8
      refine Wp_region ?_  -- 3 law.go:111
      refine Rg_op rfl (op_loadA (cs := [(Value.int .i64 r_.slots), (Value.slice a_r__owners r_.owners.length c_r__owners), (Value.slice a_r__costs r_.costs.length c_r__costs)]) (vs := [(Value.int .i64 r_.slots), (Value.slice a_r__owners r_.owners.length c_r__owners), (Value.slice a_r__costs r_.costs.length c_r__costs)]) (i := 0) ty25 hs11 rfl rfl rfl rfl ?_)
      replace hm := bd hm; obtain ⟨few_1, hv147, hm⟩ := hm
      refine Rg_op rfl (op_call Try.call16 (c16_overflightref37_Few (r_ := r_) hs11.ltw r_r__slots f_r__owners f_r__costs hv147) rfl ?_)
      rintro v148 w149 ⟨hx150, h151⟩
      have hs152 := hs11.call hx150
      have p153 := Step.ext (O := ks [(some b1, Obj.cells [(Value.int .i64 r_.slots), (Value.slice a_r__owners r_.owners.length c_r__owners), (Value.slice a_r__costs r_.costs.length c_r__costs)].toArray 25)] O) hx150
      clear hx150
      replace f_r__owners := f_r__owners.step p153
      replace f_r__costs := f_r__costs.step p153
      replace f_slots := f_slots.step p153
      replace f_group := f_group.step p153
      replace f_other := f_other.step p153
      replace ch146 := ch146.trans p153
      clear p153 hs11
      obtain rfl := h151
      refine Rg_op rfl (op_not rfl ?_)
      refine Rg_op rfl (op_move (v := (Value.bool (!few_1))) rfl ?_)
      refine Rg_case (fun hg155 => ?_) (fun hg155 => ?_)
      ·
        replace hm := bif_t hm hg155
        refine Rg_opx rfl (asB_ne rfl rfl) rfl ?_
        refine Rg_opx rfl (asB_ne rfl rfl) rfl ?_
        refine Rg_opx rfl (asB_ne rfl rfl) rfl ?_
        refine Rg_op rfl (op_pick_t (v := (Value.bool true)) rfl rfl ?_)
        refine Rg_op rfl (op_move (v := (Value.bool true)) rfl ?_)
        refine Rg_opx rfl (asB_ne rfl rfl) rfl ?_
        refine Rg_opx rfl (asB_ne rfl rfl) rfl ?_
        refine Rg_opx rfl (asB_ne rfl rfl) rfl ?_
        refine Rg_op rfl (op_pick_t (v := (Value.bool true)) rfl rfl ?_)
        refine Rg_op rfl (op_move (v := (Value.bool true)) rfl ?_)
        refine Rg_opx rfl (asB_ne rfl rfl) rfl ?_
        refine Rg_opx rfl (asB_ne rfl rfl) rfl ?_
        refine Rg_opx rfl (asB_ne rfl rfl) rfl ?_
        refine Rg_op rfl (op_pick_t (v := (Value.bool true)) rfl rfl ?_)
        refine Rg_nil ?_
        exact hK21 _ _ ⟨true, _, rfl, ⟨(by repeat (first | with_reducible exact Out.refl _ _ | refine Out.upd ?_ rfl | refine Out.updL ?_ rfl | refine Out.mix' ?_ rfl | exact Out.refl _ _)), rfl, rfl, trivial⟩, ch146, hs152, hm⟩
      ·
        replace hm := bif_f hm hg155
        refine Rg_opg rfl rfl rfl (op_move (v := (Value.slice a_slots slots.length c_slots)) rfl ?_)
        refine Rg_opg rfl rfl rfl (op_len Try.underlying22 rfl ?_)
        refine Rg_opg rfl rfl rfl (op_gtr rfl rfl ?_)
        refine Rg_op rfl (op_pick_f (v := (Value.bool (decide (20 < (slots.length : Int))))) rfl rfl ?_)
        refine Rg_op rfl (op_move (v := (Value.bool (decide (20 < (slots.length : Int))))) rfl ?_)
        refine Rg_case (fun hg156 => ?_) (fun hg156 => ?_)
        ·
          replace hm := bif_t hm hg156
          refine Rg_opx rfl (asB_ne rfl rfl) rfl ?_
          refine Rg_opx rfl (asB_ne rfl rfl) rfl ?_
          refine Rg_opx rfl (asB_ne rfl rfl) rfl ?_
          refine Rg_op rfl (op_pick_t (v := (Value.bool true)) rfl rfl ?_)
          refine Rg_op rfl (op_move (v := (Value.bool true)) rfl ?_)
          refine Rg_opx rfl (asB_ne rfl rfl) rfl ?_
          refine Rg_opx rfl (asB_ne rfl rfl) rfl ?_
          refine Rg_opx rfl (asB_ne rfl rfl) rfl ?_
          refine Rg_op rfl (op_pick_t (v := (Value.bool true)) rfl rfl ?_)
          refine Rg_nil ?_
          exact hK21 _ _ ⟨true, _, rfl, ⟨(by repeat (first | with_reducible exact Out.refl _ _ | refine Out.upd ?_ rfl | refine Out.updL ?_ rfl | refine Out.mix' ?_ rfl | exact Out.refl _ _)), rfl, rfl, trivial⟩, ch146, hs152, hm⟩
        ·
          replace hm := bif_f hm hg156
          refine Rg_opg rfl rfl rfl (op_move (v := (Value.slice a_group group.length c_group)) rfl ?_)
          refine Rg_opg rfl rfl rfl (op_len Try.underlying22 rfl ?_)
          refine Rg_opg rfl rfl rfl (op_gtr rfl rfl ?_)
          refine Rg_op rfl (op_pick_f (v := (Value.bool (decide (20 < (group.length : Int))))) rfl rfl ?_)
          refine Rg_op rfl (op_move (v := (Value.bool (decide (20 < (group.length : Int))))) rfl ?_)
          refine Rg_case (fun hg157 => ?_) (fun hg157 => ?_)
          ·
            replace hm := bif_t hm hg157
            refine Rg_opx rfl (asB_ne rfl rfl) rfl ?_
            refine Rg_opx rfl (asB_ne rfl rfl) rfl ?_
            refine Rg_opx rfl (asB_ne rfl rfl) rfl ?_
            refine Rg_op rfl (op_pick_t (v := (Value.bool true)) rfl rfl ?_)
            refine Rg_nil ?_
            exact hK21 _ _ ⟨true, _, rfl, ⟨(by repeat (first | with_reducible exact Out.refl _ _ | refine Out.upd ?_ rfl | refine Out.updL ?_ rfl | refine Out.mix' ?_ rfl | exact Out.refl _ _)), rfl, rfl, trivial⟩, ch146, hs152, hm⟩
          ·
            replace hm := bif_f hm hg157
            refine Rg_opg rfl rfl rfl (op_move (v := (Value.slice a_other other.length c_other)) rfl ?_)
            refine Rg_opg rfl rfl rfl (op_len Try.underlying22 rfl ?_)
            refine Rg_opg rfl rfl rfl (op_gtr rfl rfl ?_)
            refine Rg_op rfl (op_pick_f (v := (Value.bool (decide (20 < (other.length : Int))))) rfl rfl ?_)
            refine Rg_nil ?_
            exact hK21 _ _ ⟨(decide (20 < (other.length : Int))), _, rfl, ⟨(by repeat (first | with_reducible exact Out.refl _ _ | refine Out.upd ?_ rfl | refine Out.updL ?_ rfl | refine Out.mix' ?_ rfl | exact Out.refl _ _)), rfl, rfl, trivial⟩, ch146, hs152, hm⟩

end Go.Fx


/- What the models of functions compute: loops over lists, checks, meetings. No program in sight. -/
set_option linter.unusedSimpArgs false
set_option linter.unusedVariables false
namespace Go.Fx
open Go Go.RowKit

section
variable {R α σ : Type}
@[simp] theorem jn_eq {κ : Type _} (k : κ) (f : κ → Option R) : jn k f = f k := rfl
theorem ck_eq {c : Prop} [Decidable c] {m : Option R} (h : c) : ck c m = m := if_pos h
@[simp] theorem ck_True {m : Option R} : ck True m = m := if_pos trivial
theorem wrapN {i : Nat} (h : i < 9223372036854775808) : IntKind.i64.wrap (i : Int) = (i : Int) := wrap_i64 (by omega) (by omega)
theorem wrapS {i : Nat} (h : i + 1 < 9223372036854775808) : IntKind.i64.wrap ((i : Int) + 1) = (i : Int) + 1 := wrap_i64 (by omega) (by omega)
theorem wrapA {i j : Nat} (h : i + j < 9223372036854775808) : IntKind.i64.wrap ((i : Int) + (j : Int)) = ((i + j : Nat) : Int) := (wrap_i64 (by omega) (by omega)).trans (by omega)
theorem wrapP {i : Nat} (h : i < 9223372036854775808) : IntKind.i64.wrap (((i + 1 : Nat) : Int) - 1) = (i : Int) := (wrap_i64 (by omega) (by omega)).trans (by omega)

/-- a loop that goes up an index over a list: L fuel index state -/
theorem up_list {L : Nat → Int → σ → Option R} (I : Nat → σ → Prop) (F : Nat → List α → σ → Option R) (l : List α) (hl : l.length < 9223372036854775807)
    (hE : ∀ n s, I l.length s → L (n + 1) (l.length : Nat) s = F l.length [] s)
    (hS : ∀ n (i : Nat) s x t, i < l.length → l[i]? = some x → IntKind.i64.wrap ((i : Int) + 1) = (i : Int) + 1 → I i s →
      (∀ s, I (i + 1) s → L n ((i : Int) + 1) s = F (i + 1) t s) → L (n + 1) (i : Int) s = F i (x :: t) s) :
    ∀ (fuel : Nat) s, l.length < fuel → I 0 s → L fuel 0 s = F 0 l s := by
  have main : ∀ (t : List α) (i fuel : Nat) s, l.drop i = t → i ≤ l.length → l.length - i < fuel → I i s → L fuel (i : Int) s = F i t s := by
    intro t
    induction t with
    | nil =>
      intro i fuel s hd hi hf hI
      have : i = l.length := by have := congrArg List.length hd; simp at this; omega
      subst this
      obtain ⟨n, rfl⟩ : ∃ n, fuel = n + 1 := ⟨fuel - 1, by omega⟩
      exact hE n s hI
    | cons x t ih =>
      intro i fuel s hd hi hf hI
      have hlt : i < l.length := by have := congrArg List.length hd; simp at this; omega
      obtain ⟨n, rfl⟩ : ∃ n, fuel = n + 1 := ⟨fuel - 1, by omega⟩
      have hx : l[i]? = some x := by rw [← List.head?_drop, hd]; rfl
      refine hS n i s x t hlt hx (wrapS (by omega)) hI fun s' hI' => (ih (i + 1) n s' ?_ (by omega) (by omega) hI')
      rw [← List.drop_drop, hd]; rfl
  intro fuel s hf hI
  exact main l 0 fuel s rfl (by omega) (by omega) hI

theorem getD_of {l : List α} {i : Nat} {x d : α} (h : l[i]? = some x) : l.getD i d = x := by simp [List.getD, h]

/-- a loop that goes up an index over a list, no state -/
theorem up_list0 {B : (Int → Option R) → Int → Option R} (F : List α → Option R) (l : List α) (hl : l.length < 9223372036854775807)
    (hE : ∀ sf, B sf (l.length : Nat) = F [])
    (hS : ∀ sf (i : Nat) x t, i < l.length → l[i]? = some x → IntKind.i64.wrap ((i : Int) + 1) = (i : Int) + 1 →
      sf ((i : Int) + 1) = F t → B sf (i : Int) = F (x :: t))
    {fuel : Nat} (hf : l.length < fuel) : loop1 B fuel 0 = F l := by
  refine up_list (L := fun n i (_ : Unit) => loop1 B n i) (fun _ _ => True) (fun _ t _ => F t) l hl ?_ ?_ fuel () hf trivial
  · intro n _ _; show loop1 B (n + 1) _ = _; rw [loop1_succ]; exact hE _
  · intro n i _ x t h1 h2 h3 _ ih; show loop1 B (n + 1) _ = _; rw [loop1_succ]; exact hS _ i x t h1 h2 h3 (ih () trivial)
/-- index first, then a state -/
theorem up_listA {B : (Int → σ → Option R) → Int → σ → Option R} (I : Nat → σ → Prop) (F : Nat → List α → σ → Option R) (l : List α) (hl : l.length < 9223372036854775807)
    (hE : ∀ sf s, I l.length s → B sf (l.length : Nat) s = F l.length [] s)
    (hS : ∀ sf (i : Nat) s x t, i < l.length → l[i]? = some x → IntKind.i64.wrap ((i : Int) + 1) = (i : Int) + 1 → I i s →
      (∀ s, I (i + 1) s → sf ((i : Int) + 1) s = F (i + 1) t s) → B sf (i : Int) s = F i (x :: t) s)
    {fuel : Nat} {s : σ} (hf : l.length < fuel) (hI : I 0 s) : loop2 B fuel 0 s = F 0 l s := by
  refine up_list (L := fun n i s => loop2 B n i s) I F l hl ?_ ?_ fuel s hf hI
  · intro n s h; show loop2 B (n + 1) _ _ = _; rw [loop2_succ]; exact hE _ _ h
  · intro n i s x t h1 h2 h3 h4 ih; show loop2 B (n + 1) _ _ = _; rw [loop2_succ]; exact hS _ i s x t h1 h2 h3 h4 ih
/-- a state first, then the index -/
theorem up_listB {B : (σ → Int → Option R) → σ → Int → Option R} (I : Nat → σ → Prop) (F : Nat → List α → σ → Option R) (l : List α) (hl : l.length < 9223372036854775807)
    (hE : ∀ sf s, I l.length s → B sf s (l.length : Nat) = F l.length [] s)
    (hS : ∀ sf (i : Nat) s x t, i < l.length → l[i]? = some x → IntKind.i64.wrap ((i : Int) + 1) = (i : Int) + 1 → I i s →
      (∀ s, I (i + 1) s → sf s ((i : Int) + 1) = F (i + 1) t s) → B sf s (i : Int) = F i (x :: t) s)
    {fuel : Nat} {s : σ} (hf : l.length < fuel) (hI : I 0 s) : loop2 B fuel s 0 = F 0 l s := by
  refine up_list (L := fun n i s => loop2 B n s i) I F l hl ?_ ?_ fuel s hf hI
  · intro n s h; show loop2 B (n + 1) _ _ = _; rw [loop2_succ]; exact hE _ _ h
  · intro n i s x t h1 h2 h3 h4 ih; show loop2 B (n + 1) _ _ = _; rw [loop2_succ]; exact hS _ i s x t h1 h2 h3 h4 ih

/-- the same, where the answer needs the index -/
theorem up_listI {B : (Int → Option R) → Int → Option R} (F : Nat → List α → Option R) (l : List α) (hl : l.length < 9223372036854775807)
    (hE : ∀ sf, B sf (l.length : Nat) = F l.length [])
    (hS : ∀ sf (i : Nat) x t, i < l.length → l[i]? = some x → IntKind.i64.wrap ((i : Int) + 1) = (i : Int) + 1 →
      sf ((i : Int) + 1) = F (i + 1) t → B sf (i : Int) = F i (x :: t))
    {fuel : Nat} (hf : l.length < fuel) : loop1 B fuel 0 = F 0 l := by
  refine up_list (L := fun n i (_ : Unit) => loop1 B n i) (fun _ _ => True) (fun i t _ => F i t) l hl ?_ ?_ fuel () hf trivial
  · intro n _ _; show loop1 B (n + 1) _ = _; rw [loop1_succ]; exact hE _
  · intro n i _ x t h1 h2 h3 _ ih; show loop1 B (n + 1) _ = _; rw [loop1_succ]; exact hS _ i x t h1 h2 h3 (ih () trivial)
end
end Go.Fx


/- Chapter 37, no program in sight: all exchanges of some flights, in order. -/
set_option linter.unusedSimpArgs false
set_option linter.unusedVariables false
namespace Go.Fx
open Go Go.RowKit
/-- all ways to go on from b with k more, out of fl, all different, allowed at their place -/
def dv (fl : List Int) (ok : Nat → Int → Bool) : Nat → List Int → List (List Int)
  | 0, b => [b]
  | k + 1, b => fl.flatMap fun s => bif ok b.length s && !b.contains s then dv fl ok k (b ++ [s]) else []
/-- t may follow b -/
def gd (fl : List Int) (ok : Nat → Int → Bool) : List Int → List Int → Prop
  | _, [] => True
  | b, s :: t => s ∈ fl ∧ ok b.length s = true ∧ s ∉ b ∧ gd fl ok (b ++ [s]) t
theorem mem_dv {fl : List Int} {ok : Nat → Int → Bool} : ∀ {k : Nat} {b x : List Int}, x ∈ dv fl ok k b ↔ ∃ t, x = b ++ t ∧ t.length = k ∧ gd fl ok b t := by
  intro k
  induction k with
  | zero =>
    intro b x
    simp only [dv, List.mem_singleton]
    constructor
    · rintro rfl; exact ⟨[], by simp, rfl, trivial⟩
    · rintro ⟨t, rfl, ht, _⟩; rw [List.length_eq_zero_iff.1 ht]; simp
  | succ k ih =>
    intro b x
    simp only [dv, List.mem_flatMap]
    constructor
    · rintro ⟨s, hs, hx⟩
      cases hc : (ok b.length s && !b.contains s)
      · rw [hc] at hx; cases hx
      · rw [hc, cond_true, ih] at hx
        obtain ⟨t, rfl, ht, hg⟩ := hx
        simp only [Bool.and_eq_true, Bool.not_eq_true', List.contains_eq_mem, decide_eq_false_iff_not] at hc
        exact ⟨s :: t, by simp, by simp [ht], hs, hc.1, hc.2, hg⟩
    · rintro ⟨t, rfl, ht, hg⟩
      cases t with
      | nil => cases ht
      | cons s t =>
        obtain ⟨h1, h2, h3, h4⟩ := hg
        refine ⟨s, h1, ?_⟩
        have hc : (ok b.length s && !b.contains s) = true := by simp [h2, h3]
        rw [hc, cond_true, ih]
        exact ⟨t, by simp, by simpa using ht, h4⟩
/-- the sum of what belongs to o -/
def csum (own : Int → Int) (cost : Int → Int → Int) (o : Int) : List (Int × Int) → Int
  | [] => 0
  | (f, s) :: t => (if own f = o then cost f s else 0) + csum own cost o t
theorem csum_append (own : Int → Int) (cost : Int → Int → Int) (o : Int) (l m : List (Int × Int)) : csum own cost o (l ++ m) = csum own cost o l + csum own cost o m := by
  induction l with
  | nil => simp [csum]
  | cons p t ih => obtain ⟨f, s⟩ := p; simp only [List.cons_append, csum, ih]; omega
/-- only the own ones count -/
theorem csum_filter (own : Int → Int) (cost : Int → Int → Int) (o : Int) (l : List (Int × Int)) : csum own cost o l = csum own cost o (l.filter fun p => decide (own p.1 = o)) := by
  induction l with
  | nil => rfl
  | cons p t ih =>
    obtain ⟨f, s⟩ := p
    by_cases h : own f = o
    · rw [List.filter_cons_of_pos (by simpa using h)]; simp only [csum, h, if_true]; omega
    · rw [List.filter_cons_of_neg (by simpa using h)]; simp only [csum, h, if_false]; omega
end Go.Fx


/- The plain laws of chapter 37: what the functions compute. -/
set_option linter.unusedSimpArgs false
set_option linter.unusedVariables false
namespace Go.Fx
open Go Go.RowKit
theorem sane_eq : m15_overflightlaw37_sane = some true := by kernel_rfl
theorem all_range' {p : Nat → Bool} (i n : Nat) : (List.range' i (n + 1)).all p = (p i && (List.range' (i + 1) n).all p) := by rw [List.range'_succ]; rfl
theorem all_range {p : Nat → Bool} (n : Nat) : (List.range n).all p = (List.range' 0 n).all p := by rw [List.range_eq_range']
/-- the first index from i where g holds, or -1 -/
def fidx {α} (g : α → Bool) : Nat → List α → Int
  | _, [] => -1
  | i, x :: t => bif g x then (i : Int) else fidx g (i + 1) t
theorem fidx_any {α} (g : α → Bool) (l : List α) (i : Nat) : decide (0 ≤ fidx g i l) = l.any g := by
  induction l generalizing i with
  | nil => rfl
  | cons x t ih => cases h : g x <;> simp [fidx, h, ih]
theorem m45_eq (s : List Int) (f : Int → Option Bool) (g : Int → Bool) (hf : ∀ x ∈ s, f x = some (g x)) (hl : s.length < 9223372036854775807) : m45_slices_ContainsFuncint_int_ s f = some (s.any g) := by
  have : m65_slices_IndexFuncint_int_ s f = some (fidx g 0 s) := by
    unfold m65_slices_IndexFuncint_int_
    refine up_listI (fun i t => some (fidx g i t)) s hl ?_ ?_ (by omega)
    · intro sf; unfold m65_slices_IndexFuncint_int__B0; simp [fidx]
    · intro sf i x t h1 h2 h3 ih; unfold m65_slices_IndexFuncint_int__B0; obtain ⟨_, rfl⟩ := List.getElem?_eq_some_iff.1 h2
      have hfi := hf s[i] (List.getElem_mem _)
      cases h : g s[i] <;> simp [h1, h3, ih, hfi, h, fidx, ck_eq]
  unfold m45_slices_ContainsFuncint_int_; rw [this]; simp [fidx_any]
theorem m43_eq (s : List Int) (v : Int) (hl : s.length < 9223372036854775807) : m43_slices_Containsint_int_ s v = some (s.any fun x => decide (v = x)) := by
  have : m64_slices_Indexint_int_ s v = some (fidx (fun x => decide (v = x)) 0 s) := by
    unfold m64_slices_Indexint_int_
    refine up_listI (fun i t => some (fidx (fun x => decide (v = x)) i t)) s hl ?_ ?_ (by omega)
    · intro sf; unfold m64_slices_Indexint_int__B0; simp [fidx]
    · intro sf i x t h1 h2 h3 ih; unfold m64_slices_Indexint_int__B0; obtain ⟨_, rfl⟩ := List.getElem?_eq_some_iff.1 h2
      by_cases h : v = s[i]
      · have g1 : s.getD (i : Int).toNat default = s[i] := by simp [h1]
        simp only [show (i : Int) < (s.length : Int) by omega, decide_true, cond_true, g1]
        rw [ck_eq (by simp)]; simp [← h, fidx]
      · simp [h1, h3, ih, h, fidx, ck_eq]
  unfold m43_slices_Containsint_int_; rw [this]; simp [fidx_any]
def badC (c : Int) : Bool := decide (c < -1) || decide (1048576 < c)
theorem m46_eq (c : Int) (hc : InK .i64 c) : m46_coalition_Check_2 c (fun x24 x25 => m44_coalition_Check_1 x24 x25) = some (badC c) := by
  have h1 := hc.1; have h2 := hc.2
  simp [IntKind.min, IntKind.max, IntKind.signed, IntKind.bits] at h1 h2
  unfold m46_coalition_Check_2 m44_coalition_Check_1 badC
  by_cases hm : c = 9223372036854775807
  · subst hm; rfl
  · have w : IntKind.i64.wrap (c + 1) = c + 1 := wrap_i64 (by omega) (by omega)
    rw [w]
    by_cases k1 : c < -1
    · have : c + 1 < 0 := by omega
      simp [k1, this]
    · have : ¬ c + 1 < 0 := by omega
      have e : (1048577 < c + 1) = (1048576 < c) := by apply propext; omega
      simp only [k1, this, e, decide_false, cond_false, Bool.false_or, Option.bind_some]
/-- flight i of a round is not as it should be -/
def rowBad (r : XRound) (i : Nat) : Bool :=
  (decide (r.owners.getD i default < 0) || decide (7 < r.owners.getD i default)) || (!decide (((r.costs.getD i default).length : Int) = r.slots) || (decide ((r.costs.getD i default).getD i default < 0) || (r.costs.getD i default).any badC))
def shapeB (r : XRound) : Bool := !(decide (r.slots < 1) || (decide (8 < r.slots) || (decide (r.slots < (r.owners.length : Int)) || decide ((r.costs.length : Int) ≠ (r.owners.length : Int)))))
/-- what Check answers -/
def valB (r : XRound) : Bool := shapeB r && (List.range r.owners.length).all fun i => !rowBad r i
theorem shape_props {r : XRound} (h : shapeB r = true) : 1 ≤ r.slots ∧ r.slots ≤ 8 ∧ (r.owners.length : Int) ≤ r.slots ∧ r.costs.length = r.owners.length := by
  unfold shapeB at h; simp at h; omega
theorem m22_eq (r : XRound) (hs : smXRound r) : m22_coalition_Check r = some (bif valB r then 0 else 370) := by
  have hcl : r.costs.length < 9223372036854775807 := by have := hs.2.2.1; omega
  unfold m22_coalition_Check
  have main : shapeB r = true → loop1 (m22_coalition_Check_B0 r) (((r.costs.length : Int) - 0).toNat + 1) 0 = some (bif (List.range r.owners.length).all (fun i => !rowBad r i) then 0 else 370) := by
    intro hsh
    obtain ⟨s1, s2, s3, s4⟩ := shape_props hsh
    rw [all_range, ← s4]
    refine up_listI (fun i t => some (bif (List.range' i t.length).all (fun i => !rowBad r i) then 0 else 370)) r.costs hcl ?_ ?_ (show r.costs.length < ((r.costs.length : Int) - 0).toNat + 1 by omega)
    · intro sf; unfold m22_coalition_Check_B0; simp
    · intro sf i x t h1 h2 h3 ih
      have g0 : r.costs.getD (i : Int).toNat default = r.costs.getD i default := rfl
      have g1 : r.owners.getD (i : Int).toNat default = r.owners.getD i default := rfl
      have g2 : (r.costs.getD i default).getD (i : Int).toNat default = (r.costs.getD i default).getD i default := rfl
      have hrow : r.costs.getD i default ∈ r.costs := by rw [show r.costs.getD i default = r.costs[i] from by simp [h1]]; exact List.getElem_mem _
      have hrl := (hs.2.2.2 _ hrow)
      rw [List.length_cons, all_range']
      unfold m22_coalition_Check_B0
      have c1 : (i : Int) < (r.costs.length : Int) := by omega
      simp only [c1, decide_true, cond_true, jn_eq, g0, g1, g2, h3, ih]
      rw [ck_eq (by simp), ck_eq (by omega)]
      have m45 := m45_eq (r.costs.getD i default) (fun x286 => m46_coalition_Check_2 x286 (fun x24 x25 => m44_coalition_Check_1 x24 x25)) badC (fun x hx => m46_eq x (hrl.2 x hx)) (by have := hrl.1; omega)
      rw [m45]
      have hb : rowBad r i = ((decide (r.owners.getD i default < 0) || decide (7 < r.owners.getD i default)) || (!decide (((r.costs.getD i default).length : Int) = r.slots) || (decide ((r.costs.getD i default).getD i default < 0) || (r.costs.getD i default).any badC))) := rfl
      rw [hb]
      generalize (List.range' (i + 1) t.length).all (fun i => !rowBad r i) = rest
      clear hb ih hrl hrow m45 g0 g1 g2 hs
      generalize r.costs.getD i default = row
      generalize r.owners.getD i default = o
      generalize row.getD i default = dg
      generalize row.any badC = bb
      unfold m44_coalition_Check_1
      by_cases k1 : o < 0
      · simp [k1]
      by_cases k2 : 7 < o
      · simp [k1, k2]
      by_cases k3 : (row.length : Int) = r.slots
      · rw [ck_eq (by omega)]
        by_cases k4 : dg < 0
        · simp [k1, k2, k3, k4]
        · cases bb <;> simp [k1, k2, k3, k4]
      · simp [k1, k2, k3]
  simp only [jn_eq]
  unfold valB
  cases hsh : shapeB r
  · unfold shapeB at hsh
    by_cases k1 : r.slots < 1
    · simp [k1]
    by_cases k2 : 8 < r.slots
    · simp [k1, k2]
    by_cases k3 : r.slots < (r.owners.length : Int)
    · simp [k1, k2, k3]
    by_cases k4 : (r.costs.length : Int) = (r.owners.length : Int)
    · simp [k1, k2, k3, k4] at hsh
    · simp [k1, k2, k3, k4]
  · have hm := main hsh
    obtain ⟨s1, s2, s3, s4⟩ := shape_props hsh
    have k1 : ¬ r.slots < 1 := by omega
    have k2 : ¬ 8 < r.slots := by omega
    have k3 : ¬ r.slots < (r.owners.length : Int) := by omega
    have k4 : (r.costs.length : Int) = (r.owners.length : Int) := by omega
    simp only [k1, k2, k3, k4, decide_false, cond_false, ne_eq, not_true_eq_false, Bool.true_and]
    rw [k4] at hm; exact hm
structure Val (r : XRound) : Prop where
  s1 : 1 ≤ r.slots
  s2 : r.slots ≤ 8
  s3 : (r.owners.length : Int) ≤ r.slots
  s4 : r.costs.length = r.owners.length
  own : ∀ i < r.owners.length, 0 ≤ r.owners.getD i default ∧ r.owners.getD i default < 8
  row : ∀ i < r.owners.length, ((r.costs.getD i default).length : Int) = r.slots
  diag : ∀ i < r.owners.length, 0 ≤ (r.costs.getD i default).getD i default
  cost : ∀ i < r.owners.length, ∀ c ∈ r.costs.getD i default, -1 ≤ c ∧ c ≤ 1048576
theorem Val.of {r : XRound} (h : valB r = true) : Val r := by
  unfold valB at h
  simp only [Bool.and_eq_true, List.all_eq_true, List.mem_range] at h
  obtain ⟨s1, s2, s3, s4⟩ := shape_props h.1
  have hb : ∀ i < r.owners.length, _ := fun i hi => h.2 i hi
  refine ⟨s1, s2, s3, s4, fun i hi => ?_, fun i hi => ?_, fun i hi => ?_, fun i hi c hc => ?_⟩ <;> (have := hb i hi; unfold rowBad at this; simp only [Bool.not_eq_true', Bool.or_eq_false_iff, Bool.not_eq_false', decide_eq_false_iff_not, decide_eq_true_eq, List.any_eq_false] at this; obtain ⟨⟨p1, p2⟩, p3, p4, p5⟩ := this)
  · omega
  · exact p3
  · omega
  · have := p5 c hc; simp [badC] at this; omega
end Go.Fx


/- Chapter 37: validity, few, assignments, costs. -/
set_option linter.unusedSimpArgs false
set_option linter.unusedVariables false
namespace Go.Fx
open Go Go.RowKit
theorem any_range' {p : Nat → Bool} (i n : Nat) : (List.range' i (n + 1)).any p = (p i || (List.range' (i + 1) n).any p) := by rw [List.range'_succ]; rfl
theorem getD_getElem {α} [Inhabited α] {l : List α} {i : Nat} (h : i < l.length) : l.getD i default = l[i] := by simp [h]
theorem getD_mem {α} [Inhabited α] {l : List α} {i : Nat} (h : i < l.length) : l.getD i default ∈ l := by rw [getD_getElem h]; exact List.getElem_mem _
def badK (row : List Int) (i k : Nat) : Bool := decide (row.getD k default < -1) || (decide (1048576 < row.getD k default) || (decide (k = i) && decide (row.getD k default < 0)))
theorem badK_any {row : List Int} {i : Nat} (h : i < row.length) : (List.range' 0 row.length).any (badK row i) = (decide (row.getD i default < 0) || row.any badC) := by
  rw [Bool.eq_iff_iff]
  simp only [List.any_eq_true, Bool.or_eq_true, decide_eq_true_eq, List.mem_range'_1, Nat.zero_le, true_and, Nat.zero_add]
  constructor
  · rintro ⟨k, hk, hb⟩
    unfold badK at hb
    simp only [Bool.or_eq_true, Bool.and_eq_true, decide_eq_true_eq] at hb
    rcases hb with hb | hb | ⟨rfl, hb⟩
    · exact .inr ⟨_, getD_mem hk, by unfold badC; simp only [← getD_getElem hk, hb, decide_true, Bool.true_or, Bool.or_true]⟩
    · exact .inr ⟨_, getD_mem hk, by unfold badC; simp only [← getD_getElem hk, hb, decide_true, Bool.true_or, Bool.or_true]⟩
    · exact .inl hb
  · rintro (hb | ⟨c, hc, hb⟩)
    · exact ⟨i, h, by simp only [badK, hb, decide_true, Bool.and_true, Bool.or_true]⟩
    · obtain ⟨k, hk, rfl⟩ := List.getElem_of_mem hc
      refine ⟨k, hk, ?_⟩
      unfold badC at hb; simp only [Bool.or_eq_true, decide_eq_true_eq] at hb
      unfold badK; rw [getD_getElem hk]
      rcases hb with hb | hb <;> simp [hb]
theorem m38_eq (r : XRound) (hs : smXRound r) : m38_overflightref37_Valid r = some (valB r) := by
  have hcl : r.owners.length < 9223372036854775807 := by have := hs.2.1.1; omega
  unfold m38_overflightref37_Valid
  have main : shapeB r = true → loop1 (m38_overflightref37_Valid_B0 r) (((r.owners.length : Int) - 0).toNat + 1) 0 = some ((List.range r.owners.length).all (fun i => !rowBad r i)) := by
    intro hsh
    obtain ⟨s1, s2, s3, s4⟩ := shape_props hsh
    rw [all_range]
    refine up_listI (fun i t => some ((List.range' i t.length).all (fun i => !rowBad r i))) r.owners hcl ?_ ?_ (show r.owners.length < ((r.owners.length : Int) - 0).toNat + 1 by omega)
    · intro sf; unfold m38_overflightref37_Valid_B0; simp
    · intro sf i x t h1 h2 h3 ih
      have hrow : r.costs.getD i default ∈ r.costs := getD_mem (by omega)
      have hrl := (hs.2.2.2 _ hrow)
      rw [List.length_cons, all_range']
      unfold m38_overflightref37_Valid_B0
      have c1 : (i : Int) < (r.owners.length : Int) := by omega
      have g0 : r.costs.getD (i : Int).toNat default = r.costs.getD i default := rfl
      have g1 : r.owners.getD (i : Int).toNat default = r.owners.getD i default := rfl
      simp only [decide_eq_true c1, cond_true, jn_eq, g0, g1]
      have inner : ∀ row : List Int, row = r.costs.getD i default → (row.length : Int) = r.slots → loop1 (m38_overflightref37_Valid_B1 r (i : Int) sf) ((r.slots - 0).toNat + 1) 0 = bif (decide (row.getD i default < 0) || row.any badC) then some false else sf (IntKind.wrap .i64 ((i : Int) + 1)) := by
        intro row hr hl
        rw [← badK_any (row := row) (i := i) (by omega)]
        refine up_listI (fun k t => bif (List.range' k t.length).any (badK row i) then some false else sf (IntKind.wrap .i64 ((i : Int) + 1))) row (by omega) ?_ ?_ (by omega)
        · intro sg; unfold m38_overflightref37_Valid_B1; simp [hl]
        · intro sg k y u h1 h2 h3 ih
          have g0 : r.costs.getD (i : Int).toNat default = row := by rw [hr]; rfl
          have g2 : row.getD (k : Int).toNat default = row.getD k default := rfl
          have c1 : (k : Int) < r.slots := by omega
          have e1 : ((k : Int) = (i : Int)) = (k = i) := by apply propext; omega
          rw [List.length_cons, any_range']
          unfold m38_overflightref37_Valid_B1
          simp only [c1, decide_true, cond_true, jn_eq, g0, g2, h3, ih, e1]
          rw [ck_eq (by omega), ck_eq (by omega)]
          have hb : badK row i k = (decide (row.getD k default < -1) || (decide (1048576 < row.getD k default) || (decide (k = i) && decide (row.getD k default < 0)))) := rfl
          rw [hb]
          have a1 : (0 : Int) ≤ i ∧ (i : Int) < r.costs.length := by omega
          have a2 : (0 : Int) ≤ k ∧ (k : Int) < row.length := by omega
          generalize (List.range' (k + 1) u.length).any (badK row i) = rest
          generalize row.getD k default = c
          simp only [ck_eq a1, ck_eq a2]
          by_cases q1 : c < -1
          · simp [q1]
          by_cases q2 : 1048576 < c
          · simp [q1, q2]
          by_cases q3 : k = i
          · by_cases q4 : c < 0
            · simp only [q1, q2, q3, q4]; rfl
            · simp only [q1, q2, q3, q4]; rfl
          · simp [q1, q2, q3]
      have hb : rowBad r i = ((decide (r.owners.getD i default < 0) || decide (7 < r.owners.getD i default)) || (!decide (((r.costs.getD i default).length : Int) = r.slots) || (decide ((r.costs.getD i default).getD i default < 0) || (r.costs.getD i default).any badC))) := rfl
      rw [hb]
      replace inner := inner _ rfl
      rw [h3] at inner
      generalize (List.range' (i + 1) t.length).all (fun i => !rowBad r i) = rest at *
      clear hb hrl hrow g0 g1 hs
      generalize r.costs.getD i default = row at *
      generalize r.owners.getD i default = o at *
      generalize row.getD i default = dg at *
      generalize row.any badC = bb at *
      have a1 : (0 : Int) ≤ i ∧ (i : Int) < r.owners.length := by omega
      have a2 : (0 : Int) ≤ i ∧ (i : Int) < r.costs.length := by omega
      simp only [ck_eq a1, ck_eq a2]
      by_cases k1 : o < 0
      · simp [k1]
      by_cases k2 : 7 < o
      · have : 8 ≤ o := by omega
        simp [k1, k2, this, ck_eq a1]
      have k2' : ¬ 8 ≤ o := by omega
      by_cases k3 : (row.length : Int) = r.slots
      · simp only [k1, k2, k2', k3, ck_eq a1, ck_eq a2, inner k3, ih, ne_eq, not_true_eq_false, decide_false, cond_false]
        generalize decide (dg < 0) = d1
        cases d1 <;> cases bb <;> rfl
      · simp [k1, k2, k2', k3, ck_eq a1, ck_eq a2]
  simp only [jn_eq]
  unfold valB
  cases hsh : shapeB r
  · unfold shapeB at hsh
    by_cases k1 : r.slots < 1
    · simp [k1]
    by_cases k2 : 8 < r.slots
    · simp [k1, k2]
    by_cases k3 : r.slots < (r.owners.length : Int)
    · simp [k1, k2, k3]
    by_cases k4 : (r.costs.length : Int) = (r.owners.length : Int)
    · simp [k1, k2, k3, k4] at hsh
    · simp [k1, k2, k3, k4]
  · have hm := main hsh
    obtain ⟨s1, s2, s3, s4⟩ := shape_props hsh
    have k1 : ¬ r.slots < 1 := by omega
    have k2 : ¬ 8 < r.slots := by omega
    have k3 : ¬ r.slots < (r.owners.length : Int) := by omega
    have k4 : (r.costs.length : Int) = (r.owners.length : Int) := by omega
    simp only [k1, k2, k3, k4, decide_false, cond_false, ne_eq, not_true_eq_false, Bool.true_and]
    exact hm
def fewB (r : XRound) : Bool := !(decide (12 < (r.owners.length : Int)) || decide (12 < (r.costs.length : Int))) && (r.costs.all (fun c => !decide (20 < (c.length : Int))) && (!valB r || decide ((r.owners.length : Int) ≤ 5)))
theorem m16_eq (r : XRound) (hs : smXRound r) : m16_overflightref37_Few r = some (fewB r) := by
  have hcl : r.costs.length < 9223372036854775807 := by have := hs.2.2.1; omega
  unfold m16_overflightref37_Few
  have main : loop1 (m16_overflightref37_Few_B0 r) (((r.costs.length : Int) - 0).toNat + 1) 0 = some (r.costs.all (fun c => !decide (20 < (c.length : Int))) && (!valB r || decide ((r.owners.length : Int) ≤ 5))) := by
    refine up_list0 (fun t => some (t.all (fun c => !decide (20 < (c.length : Int))) && (!valB r || decide ((r.owners.length : Int) ≤ 5)))) r.costs hcl ?_ ?_ (show r.costs.length < ((r.costs.length : Int) - 0).toNat + 1 by omega)
    · intro sf; unfold m16_overflightref37_Few_B0; simp only [m38_eq r hs]; cases valB r <;> simp
    · intro sf i x t h1 h2 h3 ih
      unfold m16_overflightref37_Few_B0
      have g0 : r.costs.getD (i : Int).toNat default = x := getD_of h2
      have c1 : (i : Int) < (r.costs.length : Int) := by omega
      simp only [c1, decide_true, cond_true, g0, h3, ih, List.all_cons]
      rw [ck_eq (by simp)]
      cases decide (20 < (x.length : Int)) <;> simp
  simp only [jn_eq, main]
  unfold fewB
  cases decide (12 < (r.owners.length : Int)) <;> cases decide (12 < (r.costs.length : Int)) <;> simp
theorem fewB_props {r : XRound} (h : fewB r = true) (hv : valB r = true) : r.owners.length ≤ 5 := by
  unfold fewB at h; rw [hv] at h; simp at h; omega
/-- what flight f costs at slot s -/
def cst (r : XRound) (f s : Int) : Int := (r.costs.getD f.toNat default).getD s.toNat default
def ownr (r : XRound) (f : Int) : Int := r.owners.getD f.toNat default
/-- slot i of s is as it should be -/
def okS (r : XRound) (s : List Int) (i : Nat) : Bool := !(decide (s.getD i default < 0) || (decide (r.slots ≤ s.getD i default) || (decide (cst r i (s.getD i default) < 0) || (s.take i).any (fun x => decide (s.getD i default = x)))))
def asgB (r : XRound) (s : List Int) : Bool := decide (s.length = r.owners.length) && (List.range s.length).all (okS r s)
theorem m47_eq (r : XRound) (s : List Int) (hv : Val r) (hl : s.length < 9223372036854775807) : m47_coalition_allowed r s = some (asgB r s) := by
  unfold m47_coalition_allowed asgB
  by_cases hc : s.length = r.owners.length
  · have : ¬ (s.length : Int) ≠ r.owners.length := by omega
    simp only [this, decide_eq_true hc, decide_false, cond_false, Bool.true_and]
    rw [all_range]
    refine up_listI (fun i t => some ((List.range' i t.length).all (okS r s))) s hl ?_ ?_ (show s.length < ((s.length : Int) - 0).toNat + 1 by omega)
    · intro sf; unfold m47_coalition_allowed_B0; simp
    · intro sf i x t h1 h2 h3 ih
      rw [List.length_cons, all_range']
      unfold m47_coalition_allowed_B0
      have g0 : s.getD (i : Int).toNat default = s.getD i default := rfl
      have c1 : (i : Int) < (s.length : Int) := by omega
      have c2 : (0 : Int) ≤ i ∧ (i : Int) < s.length := by omega
      have c3 : (0 : Int) ≤ i ∧ (i : Int) ≤ s.length := by omega
      have c4 : (0 : Int) ≤ i ∧ (i : Int) < r.costs.length := by have := hv.s4; omega
      have e1 : (s.drop 0).take ((i : Int).toNat - 0) = s.take i := by simp
      have hm := m43_eq (s.take i) (s.getD i default) (by rw [List.length_take]; omega)
      have e2 : (r.costs.getD (i : Int).toNat default).getD (s.getD i default).toNat default = cst r i (s.getD i default) := rfl
      have hr := hv.row i (by omega)
      have hr' : ((r.costs.getD (i : Int).toNat default).length : Int) = r.slots := hr
      have hb : okS r s i = !(decide (s.getD i default < 0) || (decide (r.slots ≤ s.getD i default) || (decide (cst r i (s.getD i default) < 0) || (s.take i).any (fun x => decide (s.getD i default = x))))) := rfl
      simp only [c1, decide_true, cond_true, jn_eq, ck_eq c2, g0, h3, ih, e1, hm, ck_eq c3, ck_eq c4, e2, hr', hb, Option.bind_some]
      generalize cst r i (s.getD i default) = c
      generalize (s.take i).any (fun x => decide (s.getD i default = x)) = b
      generalize s.getD i default = v
      by_cases k1 : v < 0
      · simp [k1]
      by_cases k2 : r.slots ≤ v
      · simp [k1, k2]
      have c5 : (0 : Int) ≤ v ∧ v < r.slots := by omega
      simp only [ck_eq c5]
      by_cases k3 : c < 0
      · simp [k1, k2, k3]
      · cases b <;> simp [k1, k2, k3]
  · have : (s.length : Int) ≠ r.owners.length := by omega
    simp [this, hc]
theorem m24_eq (r : XRound) (s : List Int) (hs : smXRound r) (hl : s.length < 9223372036854775807) : m24_coalition_Allowed r s = some (bif valB r then (asgB r s, 0) else (false, 370)) := by
  unfold m24_coalition_Allowed
  rw [m22_eq r hs]
  cases hv : valB r
  · rfl
  · simp [m47_eq r s (Val.of hv) hl]
def goodB (r : XRound) (s : List Int) : Bool := valB r && asgB r s
theorem m39_eq (r : XRound) (s : List Int) (hs : smXRound r) (hl : s.length < 9223372036854775807) : m39_coalition_check r s = some (bif goodB r s then 0 else 370) := by
  unfold m39_coalition_check
  rw [m24_eq r s hs hl]
  unfold goodB
  cases hv : valB r
  · rfl
  · cases ha : asgB r s <;> rfl
def ownL (r : XRound) : List Int := (List.range r.owners.length).map fun i : Nat => (i : Int)
theorem m42_eq (r : XRound) (hv : Val r) : m42_coalition_own r = some (ownL r) := by
  unfold m42_coalition_own ownL
  have hn : r.owners.length ≤ 8 := by have := hv.s3; have := hv.s2; omega
  rw [List.range_eq_range']
  refine up_listB (fun i s => s.length = i) (fun i t s => some (s ++ (List.range' i t.length).map fun i : Nat => (i : Int))) r.owners (by omega) ?_ ?_ (by omega) (by rfl)
  · intro sf s hI; unfold m42_coalition_own_B0; simp
  · intro sf i s x t h1 h2 h3 hI ih
    unfold m42_coalition_own_B0
    have c1 : (i : Int) < (r.owners.length : Int) := by omega
    simp only [c1, decide_true, cond_true, h3]
    rw [ck_eq (by simp [hI]; omega), ih _ (by simp [hI])]
    simp [List.range'_succ]
end Go.Fx


/- Chapter 37: costs, worse. -/
set_option linter.unusedSimpArgs false
set_option linter.unusedVariables false
namespace Go.Fx
open Go Go.RowKit
theorem map_range_set {f g : Nat → Int} {k n : Nat} {v : Int} (hk : k < n) (hv : g k = v) (h : ∀ j, j ≠ k → g j = f j) : ((List.range n).map f).set k v = (List.range n).map g := by
  apply List.ext_getElem
  · simp
  · intro i h1 h2
    simp at h1
    by_cases e : k = i
    · subst e; simp [hv]
    · rw [List.getElem_set_ne e]; simp [h i (Ne.symm e)]
theorem getD_map_range {f : Nat → Int} {k n : Nat} (hk : k < n) : ((List.range n).map f).getD k default = f k := by simp [hk]
theorem csum_bound {own : Int → Int} {cost : Int → Int → Int} {o b : Int} {l : List (Int × Int)} (hb : 0 ≤ b) (h : ∀ p ∈ l, -b ≤ cost p.1 p.2 ∧ cost p.1 p.2 ≤ b) : -(b * l.length) ≤ csum own cost o l ∧ csum own cost o l ≤ b * l.length := by
  induction l with
  | nil => simp [csum]
  | cons p t ih =>
    obtain ⟨f, s⟩ := p
    have := ih fun p hp => h p (List.mem_cons_of_mem _ hp)
    have h1 := h (f, s) (List.mem_cons_self ..)
    simp only at h1
    simp only [csum, List.length_cons]
    have e : b * ((t.length + 1 : Nat) : Int) = b * t.length + b := by rw [Int.natCast_add, Int.mul_add]; simp
    rw [e]
    split <;> omega
/-- the costs of all airlines -/
def cvec (r : XRound) (fl s : List Int) : List Int := (List.range 8).map fun o : Nat => csum (ownr r) (cst r) (o : Int) (fl.zip s)
/-- flight f may have slot s -/
def fits (r : XRound) (f s : Int) : Prop := 0 ≤ f ∧ f < r.owners.length ∧ 0 ≤ s ∧ s < r.slots
theorem fits.cst {r : XRound} {f s : Int} (hv : Val r) (h : fits r f s) : -1 ≤ cst r f s ∧ cst r f s ≤ 1048576 := by
  obtain ⟨a, b, c, d⟩ := h
  have hr := hv.row f.toNat (by omega)
  exact hv.cost f.toNat (by omega) _ (getD_mem (by omega))
theorem zip_take_succ {l m : List Int} {i : Nat} (h1 : i < l.length) (h2 : i < m.length) : (l.zip m).take (i + 1) = (l.zip m).take i ++ [(l.getD i default, m.getD i default)] := by
  rw [List.take_succ_eq_append_getElem (by simp; omega)]
  simp [h1, h2]
theorem m41_eq (r : XRound) (fl s : List Int) (hv : Val r) (hl : fl.length ≤ 20) (hls : fl.length ≤ s.length) (hf : ∀ i < fl.length, fits r (fl.getD i default) (s.getD i default)) : m41_coalition_costs r fl s = some (cvec r fl s) := by
  unfold m41_coalition_costs
  rw [ck_eq (by decide)]
  have hz : (fl.zip s).take fl.length = fl.zip s := by rw [List.take_of_length_le (by simp; omega)]
  refine up_listB (fun i c => c = (List.range 8).map fun o : Nat => csum (ownr r) (cst r) (o : Int) ((fl.zip s).take i)) (fun i t c => some (cvec r fl s)) fl (by omega) ?_ ?_ (by omega) (by rfl)
  · intro sf c hI; unfold m41_coalition_costs_B0; rw [hz] at hI; simp [hI, cvec]
  · intro sf i c x t h1 h2 h3 hI ih
    unfold m41_coalition_costs_B0
    obtain ⟨a1, a2, a3, a4⟩ := hf i h1
    have g0 : fl.getD (i : Int).toNat default = fl.getD i default := rfl
    have g1 : s.getD (i : Int).toNat default = s.getD i default := rfl
    have hc := fits.cst hv (hf i h1)
    have hbound : ∀ o, -(1048576 * 20) ≤ csum (ownr r) (cst r) o ((fl.zip s).take i) ∧ csum (ownr r) (cst r) o ((fl.zip s).take i) ≤ 1048576 * 20 := by
      intro o
      have := csum_bound (own := ownr r) (cost := cst r) (o := o) (b := 1048576) (l := (fl.zip s).take i) (by omega) (fun p hp => by
        obtain ⟨j, hj, rfl⟩ := List.getElem_of_mem (List.mem_of_mem_take hp)
        simp at hj
        have := fits.cst hv (hf j (by omega))
        rw [getD_getElem (by omega), getD_getElem (by omega)] at this
        simp only [List.getElem_zip]; omega)
      have hle : ((fl.zip s).take i).length ≤ 20 := by simp; omega
      have : (1048576 : Int) * ((fl.zip s).take i).length ≤ 1048576 * 20 := by omega
      omega
    have e1 : (r.costs.getD (fl.getD i default).toNat default).getD (s.getD i default).toNat default = cst r (fl.getD i default) (s.getD i default) := rfl
    have e2 : r.owners.getD (fl.getD i default).toNat default = ownr r (fl.getD i default) := rfl
    have hro := hv.row (fl.getD i default).toNat (by omega)
    have ho := hv.own (fl.getD i default).toNat (by omega)
    rw [e2] at ho
    have hs4 := hv.s4
    simp only [show (i : Int) < (fl.length : Int) by omega, decide_true, cond_true, g0, g1, e1, e2]
    have hlen : c.length = 8 := by rw [hI]; simp
    have c1 : (0 : Int) ≤ i ∧ (i : Int) < fl.length := by omega
    have c2 : (0 : Int) ≤ fl.getD i default ∧ fl.getD i default < r.owners.length := ⟨a1, a2⟩
    have c3 : (0 : Int) ≤ ownr r (fl.getD i default) ∧ ownr r (fl.getD i default) < c.length := by omega
    have c4 : (0 : Int) ≤ fl.getD i default ∧ fl.getD i default < r.costs.length := by omega
    have c5 : (0 : Int) ≤ i ∧ (i : Int) < s.length := by omega
    have c6 : (0 : Int) ≤ s.getD i default ∧ s.getD i default < ((r.costs.getD (fl.getD i default).toNat default).length : Int) := by omega
    have cs := zip_take_succ h1 (show i < s.length by omega)
    simp only [true_and, ck_True, ck_eq c1, ck_eq c2, ck_eq c3, ck_eq c4, ck_eq c5, ck_eq c6, h3]
    refine ih _ ?_
    generalize fl.getD i default = f at *
    generalize s.getD i default = v at *
    have hk : ((ownr r f).toNat : Int) = ownr r f := by omega
    have hg : c.getD (ownr r f).toNat default = csum (ownr r) (cst r) (ownr r f) ((fl.zip s).take i) := by rw [hI, getD_map_range (by omega), hk]
    rw [hg, wrap_i64 (by have := hbound (ownr r f); omega) (by have := hbound (ownr r f); omega), hI]
    refine map_range_set (by omega) ?_ ?_
    · rw [cs, csum_append, hk]; simp [csum]
    · intro j hj; rw [cs, csum_append]; simp [csum]; omega
theorem asg_props {r : XRound} {s : List Int} (h : asgB r s = true) : s.length = r.owners.length ∧ ∀ i < s.length, 0 ≤ s.getD i default ∧ s.getD i default < r.slots ∧ 0 ≤ cst r i (s.getD i default) ∧ ∀ j < i, s.getD j default ≠ s.getD i default := by
  unfold asgB at h
  simp only [Bool.and_eq_true, decide_eq_true_eq, List.all_eq_true, List.mem_range] at h
  refine ⟨h.1, fun i hi => ?_⟩
  have := h.2 i hi
  unfold okS at this
  simp only [Bool.not_eq_true', Bool.or_eq_false_iff, decide_eq_false_iff_not, List.any_eq_false, decide_eq_true_eq] at this
  obtain ⟨b1, b2, b3, b4⟩ := this
  refine ⟨by omega, by omega, by omega, fun j hj e => b4 (s.getD j default) ?_ e.symm⟩
  have : (s.take i).getD j default ∈ s.take i := getD_mem (by rw [List.length_take]; omega)
  rwa [show (s.take i).getD j default = s.getD j default from by simp [hj]] at this
theorem ownL_len (r : XRound) : (ownL r).length = r.owners.length := by simp [ownL]
theorem ownL_getD {r : XRound} {i : Nat} (h : i < r.owners.length) : (ownL r).getD i default = i := by simp [ownL, h]
theorem fits_asg {r : XRound} {s : List Int} (hv : Val r) (h : asgB r s = true) : ∀ i < (ownL r).length, fits r ((ownL r).getD i default) (s.getD i default) := by
  intro i hi
  rw [ownL_len] at hi
  obtain ⟨e, h2⟩ := asg_props h
  obtain ⟨b1, b2, _, _⟩ := h2 i (by omega)
  rw [ownL_getD hi]
  exact ⟨by omega, by omega, b1, b2⟩
theorem fits_own {r : XRound} (hv : Val r) : ∀ i < (ownL r).length, fits r ((ownL r).getD i default) ((ownL r).getD i default) := by
  intro i hi
  rw [ownL_len] at hi
  rw [ownL_getD hi]
  have := hv.s3
  exact ⟨by omega, by omega, by omega, by omega⟩
theorem Val.n8 {r : XRound} (hv : Val r) : r.owners.length ≤ 8 := by have := hv.s3; have := hv.s2; omega
theorem cvec_asg {r : XRound} {s : List Int} (hv : Val r) (h : asgB r s = true) : m41_coalition_costs r (ownL r) s = some (cvec r (ownL r) s) :=
  m41_eq r _ s hv (by have := hv.n8; rw [ownL_len]; omega) (by rw [ownL_len, (asg_props h).1]; exact Nat.le_refl _) (fits_asg hv h)
theorem cvec_own {r : XRound} (hv : Val r) : m41_coalition_costs r (ownL r) (ownL r) = some (cvec r (ownL r) (ownL r)) :=
  m41_eq r _ _ hv (by have := hv.n8; rw [ownL_len]; omega) (Nat.le_refl _) (fits_own hv)
theorem good_props {r : XRound} {s : List Int} (h : goodB r s = true) : Val r ∧ asgB r s = true := by
  unfold goodB at h; simp only [Bool.and_eq_true] at h; exact ⟨Val.of h.1, h.2⟩
theorem m18_eq (r : XRound) (s : List Int) (hs : smXRound r) (hl : s.length < 9223372036854775807) : m18_coalition_Costs r s = some (bif goodB r s then (cvec r (ownL r) s, 0) else ([], 370)) := by
  unfold m18_coalition_Costs
  rw [m39_eq r s hs hl]
  cases hg : goodB r s
  · rfl
  · obtain ⟨hv, ha⟩ := good_props hg
    simp [m42_eq r hv, cvec_asg hv ha]
/-- the airlines that are worse off -/
def worseL (r : XRound) (s : List Int) : List Int := ((List.range 8).filter fun i => decide ((cvec r (ownL r) (ownL r)).getD i default < (cvec r (ownL r) s).getD i default)).map fun i : Nat => (i : Int)
theorem filter_range' {p : Nat → Bool} (i n : Nat) : (List.range' i (n + 1)).filter p = (if p i then [i] else []) ++ (List.range' (i + 1) n).filter p := by
  rw [List.range'_succ, List.filter_cons]; split <;> simp
theorem m23_eq (r : XRound) (s : List Int) (hs : smXRound r) (hl : s.length < 9223372036854775807) : m23_coalition_Worse r s = some (bif goodB r s then (worseL r s, 0) else ([], 370)) := by
  unfold m23_coalition_Worse
  rw [m39_eq r s hs hl]
  cases hg : goodB r s
  · rfl
  · obtain ⟨hv, ha⟩ := good_props hg
    simp only [cond_true, ne_eq, not_true_eq_false, decide_false, Option.bind_some, m42_eq r hv, cvec_asg hv ha, cvec_own hv, cond_false]
    unfold worseL
    rw [List.range_eq_range']
    have e1 : (cvec r (ownL r) (ownL r)).length = 8 := by simp [cvec]
    have e2 : (cvec r (ownL r) s).length = 8 := by simp [cvec]
    generalize cvec r (ownL r) (ownL r) = b at *
    generalize cvec r (ownL r) s = a at *
    rw [← e2]
    refine up_listB (fun i l => l.length ≤ i) (fun i t l => some (l ++ ((List.range' i t.length).filter fun i => decide (b.getD i default < a.getD i default)).map (fun i : Nat => (i : Int)), 0)) a (by omega) ?_ ?_ (by omega) (by exact Nat.le_refl _)
    · intro sf l hI; unfold m23_coalition_Worse_B0; simp
    · intro sf i l x t h1 h2 h3 hI ih
      unfold m23_coalition_Worse_B0
      have g0 : a.getD (i : Int).toNat default = a.getD i default := rfl
      have g1 : b.getD (i : Int).toNat default = b.getD i default := rfl
      have c1 : (0 : Int) ≤ i ∧ (i : Int) < a.length := by omega
      have c2 : (0 : Int) ≤ i ∧ (i : Int) < b.length := by omega
      have c3 : (l.length + [(i : Int)].length) * 8 ≤ 140737488355328 := by simp; omega
      simp only [decide_eq_true c1.2, cond_true, g0, g1, h3, ck_eq c1, ck_eq c2, ck_eq c3]
      rw [show (x :: t).length = t.length + 1 from rfl, filter_range']
      by_cases q : b.getD i default < a.getD i default
      · rw [decide_eq_true q, cond_true, ih _ (by simp; omega)]; simp
      · rw [decide_eq_false q, cond_false, ih _ (by omega)]; simp
end Go.Fx


/- Chapter 37: deviations and what blocks. -/
set_option linter.unusedSimpArgs false
set_option linter.unusedVariables false
namespace Go.Fx
open Go Go.RowKit
/-- the flights of a group -/
def flB (r : XRound) (group : List Int) : List Int := (ownL r).filter fun f => group.any fun x => decide (ownr r f = x)
theorem mem_ownL {r : XRound} {f : Int} : f ∈ ownL r ↔ 0 ≤ f ∧ f < r.owners.length := by
  unfold ownL; simp only [List.mem_map, List.mem_range]
  constructor
  · rintro ⟨i, hi, rfl⟩; omega
  · rintro ⟨h1, h2⟩; exact ⟨f.toNat, by omega, by omega⟩
theorem mem_flB {r : XRound} {g : List Int} {f : Int} : f ∈ flB r g ↔ (0 ≤ f ∧ f < r.owners.length) ∧ ownr r f ∈ g := by
  unfold flB; rw [List.mem_filter, mem_ownL]
  simp only [List.any_eq_true, decide_eq_true_eq, exists_eq_right']
theorem flB_len (r : XRound) (g : List Int) : (flB r g).length ≤ r.owners.length := by have := List.length_filter_le (fun f => g.any fun x => decide (ownr r f = x)) (ownL r); rwa [ownL_len] at this
def okf (r : XRound) (fl : List Int) (n : Nat) (s : Int) : Bool := decide (0 ≤ cst r (fl.getD n default) s)
def devL (r : XRound) (fl : List Int) : List (List Int) := dv fl (okf r fl) fl.length []
theorem apl_some {γ : Type} (A B : List γ) : apl (some A) (some B) = some (A ++ B) := rfl
theorem contains_any (b : List Int) (s : Int) : (b.any fun x => decide (s = x)) = b.contains s := by
  rw [Bool.eq_iff_iff]; simp
theorem dev_eq (r : XRound) (fl : List Int) (hv : Val r) (hl : fl.length ≤ 8) (hf : ∀ f ∈ fl, 0 ≤ f ∧ f < r.owners.length) : ∀ (N : Nat) (b : List Int), b.length ≤ fl.length → fl.length - b.length < N → fixO (fun fx20 x21 => m80_coalition_deviations_1_1 x21 fl r fx20) N b = some (dv fl (okf r fl) (fl.length - b.length) b) := by
  intro N
  induction N with
  | zero => intro b _ h; omega
  | succ N ih =>
    intro b hb hN
    show m80_coalition_deviations_1_1 b fl r (fixO (fun fx20 x21 => m80_coalition_deviations_1_1 x21 fl r fx20) N) = _
    generalize fixO (fun fx20 x21 => m80_coalition_deviations_1_1 x21 fl r fx20) N = FX at ih ⊢
    unfold m80_coalition_deviations_1_1
    by_cases q : b.length = fl.length
    · have q' : (b.length : Int) = fl.length := by omega
      rw [decide_eq_true q', cond_true]
      unfold m58_slices_Cloneint_int_
      rw [ck_eq (by simp; omega), show fl.length - b.length = 0 by omega]
      rfl
    · have q' : ¬ (b.length : Int) = fl.length := by omega
      rw [decide_eq_false q', cond_false]
      obtain ⟨k, hk⟩ : ∃ k, fl.length - b.length = k + 1 := ⟨fl.length - b.length - 1, by omega⟩
      rw [hk]
      refine up_list0 (fun t => some (t.flatMap fun s => bif okf r fl b.length s && !b.contains s then dv fl (okf r fl) k (b ++ [s]) else [])) fl (by omega) ?_ ?_ (by omega)
      · intro sf; unfold m80_coalition_deviations_1_1_B0; simp
      · intro sf i x t h1 h2 h3 ih2
        have hx : fl.getD (i : Int).toNat default = x := getD_of h2
        have hxm : x ∈ fl := List.mem_of_getElem? h2
        have hbm : fl.getD b.length default ∈ fl := getD_mem (by omega)
        have a1 := hf _ hxm
        have a2 := hf _ hbm
        have hrow := hv.row (fl.getD b.length default).toNat (by omega)
        unfold m80_coalition_deviations_1_1_B0
        have c1 : (0 : Int) ≤ i ∧ (i : Int) < fl.length := by omega
        have c2 : (0 : Int) ≤ (b.length : Int) ∧ (b.length : Int) < fl.length := by omega
        have c3 : (0 : Int) ≤ fl.getD b.length default ∧ fl.getD b.length default < r.costs.length := by have := hv.s4; omega
        have c4 : (0 : Int) ≤ x ∧ x < ((r.costs.getD (fl.getD b.length default).toNat default).length : Int) := by have := hv.s3; omega
        have e1 : (r.costs.getD (fl.getD b.length default).toNat default).getD x.toNat default = cst r (fl.getD b.length default) x := rfl
        simp only [decide_eq_true c1.2, cond_true, ck_eq c1, hx, ck_eq c2, ck_eq c3, ck_eq c4]
        rw [List.flatMap_cons, e1, h3, ih2]
        have hok : okf r fl b.length x = decide (0 ≤ cst r (fl.getD b.length default) x) := rfl
        rw [hok]
        cases decide (0 ≤ cst r (fl.getD b.length default) x)
        · rfl
        · rw [cond_true, Bool.true_and, m43_eq b x (by omega), contains_any]
          cases hc : b.contains x
          · have c5 : (0 : Int) ≤ (b.length : Int) ∧ (b.length : Int) ≤ (b.length : Int) := by omega
            have e2 : (b.drop 0).take (b.length - 0) = b := by simp
            have c6 : (b.length + [x].length) * 8 ≤ 140737488355328 := by simp; omega
            have c7 : 0 < [x].length := by simp
            simp only [Option.bind_some, Bool.not_false, cond_true, ck_eq c5, e2, ck_eq c6, ck_eq c7]
            rw [ih (b ++ [x]) (by simp; omega) (by simp; omega)]
            rw [show fl.length - (b ++ [x]).length = k by simp; omega]
            rfl
          · rfl
theorem m63_eq (r : XRound) (fl : List Int) (hv : Val r) (hl : fl.length ≤ 8) (hf : ∀ f ∈ fl, 0 ≤ f ∧ f < r.owners.length) : m63_coalition_deviations r fl = some (devL r fl) := by
  unfold m63_coalition_deviations m79_coalition_deviations_1
  rw [dev_eq r fl hv hl hf 1000000 [] (by simp) (by simp; omega)]
  simp [apl, devL]
/-- x is better for all airlines of the group -/
def bet (r : XRound) (than group fl x : List Int) : Bool := group.all fun o => decide ((cvec r fl x).getD o.toNat default < than.getD o.toNat default)
def blk (r : XRound) (than group : List Int) : List Int × Bool := match (devL r (flB r group)).find? (bet r than group (flB r group)) with
  | some x => (x, true)
  | none => ([], false)
theorem gd_get {fl : List Int} {ok : Nat → Int → Bool} : ∀ {t b : List Int}, gd fl ok b t ↔ ∀ i < t.length, t.getD i default ∈ fl ∧ ok (b.length + i) (t.getD i default) = true ∧ t.getD i default ∉ b ∧ ∀ j < i, t.getD j default ≠ t.getD i default := by
  intro t
  induction t with
  | nil => intro b; simp [gd]
  | cons s t ih =>
    intro b
    unfold gd
    rw [ih]
    constructor
    · rintro ⟨h1, h2, h3, h4⟩ i hi
      cases i with
      | zero => exact ⟨h1, h2, h3, fun j hj => by omega⟩
      | succ i =>
        obtain ⟨k1, k2, k3, k4⟩ := h4 i (by simpa using hi)
        rw [List.getD_cons_succ]
        refine ⟨k1, ?_, fun h => k3 (List.mem_append_left _ h), fun j hj => ?_⟩
        · rw [← k2]; congr 1; simp; omega
        · cases j with
          | zero => rw [List.getD_cons_zero]; intro e; exact k3 (List.mem_append_right _ (by simp [e]))
          | succ j => rw [List.getD_cons_succ]; exact k4 j (by omega)
    · intro h
      obtain ⟨a1, a2, a3, _⟩ := h 0 (by simp)
      refine ⟨a1, a2, a3, fun i hi => ?_⟩
      obtain ⟨k1, k2, k3, k4⟩ := h (i + 1) (by simpa using hi)
      rw [List.getD_cons_succ] at k1 k2 k3 k4
      refine ⟨k1, ?_, fun hm => ?_, fun j hj => ?_⟩
      · rw [← k2]; congr 1; simp; omega
      · rcases List.mem_append.1 hm with hm | hm
        · exact k3 hm
        · have := k4 0 (by omega); rw [List.getD_cons_zero] at this; exact this (List.mem_singleton.1 hm).symm
      · have := k4 (j + 1) (by omega); rwa [List.getD_cons_succ] at this
theorem mem_devL {r : XRound} {fl x : List Int} : x ∈ devL r fl ↔ x.length = fl.length ∧ ∀ i < x.length, x.getD i default ∈ fl ∧ 0 ≤ cst r (fl.getD i default) (x.getD i default) ∧ ∀ j < i, x.getD j default ≠ x.getD i default := by
  unfold devL
  rw [mem_dv]
  constructor
  · rintro ⟨t, rfl, hl, hg⟩
    refine ⟨hl, fun i hi => ?_⟩
    obtain ⟨h1, h2, _, h4⟩ := gd_get.1 hg i hi
    refine ⟨h1, ?_, h4⟩
    unfold okf at h2; simpa using h2
  · rintro ⟨hl, h⟩
    refine ⟨x, rfl, hl, gd_get.2 fun i hi => ?_⟩
    obtain ⟨h1, h2, h3⟩ := h i hi
    refine ⟨h1, ?_, by simp, h3⟩
    unfold okf; simpa using h2
theorem fits_dev {r : XRound} {fl x : List Int} (hv : Val r) (hf : ∀ f ∈ fl, 0 ≤ f ∧ f < r.owners.length) (h : x ∈ devL r fl) : ∀ i < fl.length, fits r (fl.getD i default) (x.getD i default) := by
  intro i hi
  obtain ⟨hl, h⟩ := mem_devL.1 h
  obtain ⟨h1, _⟩ := h i (by omega)
  have a1 := hf _ (getD_mem hi)
  have a2 := hf _ h1
  have := hv.s3
  exact ⟨a1.1, a1.2, a2.1, by omega⟩
/-- a group of airlines -/
def grp (g : List Int) : Prop := ∀ o ∈ g, 0 ≤ o ∧ o < 8
theorem m40_eq (r : XRound) (than group : List Int) (hv : Val r) (ht : than.length = 8) (hg : grp group) (hgl : group.length < 9223372036854775807) : m40_coalition_blocks r than group = some (blk r than group) := by
  unfold m40_coalition_blocks
  have hn8 := hv.n8
  have hfl : ∀ f ∈ flB r group, 0 ≤ f ∧ f < r.owners.length := fun f hf => (mem_flB.1 hf).1
  have hfn : (flB r group).length ≤ 8 := by have := flB_len r group; omega
  refine up_listA (fun i l => l.length ≤ i ∧ l ++ ((List.range' i (r.owners.length - i)).map fun j : Nat => (j : Int)).filter (fun f => group.any fun x => decide (ownr r f = x)) = flB r group) (fun _ _ _ => some (blk r than group)) r.owners (by omega) ?_ ?_ (by omega) ⟨Nat.le_refl _, by simp [flB, ownL, List.range_eq_range']⟩
  · intro sf l hI
    have hI := hI.2
    rw [Nat.sub_self] at hI
    simp only [List.range'_zero, List.map_nil, List.filter_nil, List.append_nil] at hI
    subst hI
    unfold m40_coalition_blocks_B0
    have c1 : ¬ (r.owners.length : Int) < r.owners.length := by omega
    rw [decide_eq_false c1, cond_false, m63_eq r _ hv hfn hfl]
    simp only [Option.bind_some, jn_eq]
    unfold blk
    have main : ∀ L : List (List Int), (∀ x ∈ L, x ∈ devL r (flB r group)) → rng2 (m40_coalition_blocks_B1 r than group (flB r group) fun v_3 v_4 => some (v_4, v_3)) (fun v_3 v_4 => some (([] : List Int), false)) L false ([] : List Int) = some (match L.find? (bet r than group (flB r group)) with
  | some x => (x, true)
  | none => ([], false)) := by
      intro L
      induction L with
      | nil => intro _; rw [rng2_nil, List.find?_nil]
      | cons x t ih =>
        intro hL
        have hx := hL x (List.mem_cons_self ..)
        have ih := ih fun y hy => hL y (List.mem_cons_of_mem _ hy)
        rw [rng2_cons]
        generalize rng2 (m40_coalition_blocks_B1 r than group (flB r group) fun v_3 v_4 => some (v_4, v_3)) (fun v_3 v_4 => some (([] : List Int), false)) t = SF at ih ⊢
        unfold m40_coalition_blocks_B1
        rw [m41_eq r _ x hv (by omega) (by rw [(mem_devL.1 hx).1]; exact Nat.le_refl _) (fits_dev hv hfl hx)]
        rw [Option.bind_some]
        have hcl : (cvec r (flB r group) x).length = 8 := by simp [cvec]
        rw [List.find?_cons]
        have : bet r than group (flB r group) x = group.all fun o => decide ((cvec r (flB r group) x).getD o.toNat default < than.getD o.toNat default) := rfl
        rw [this]
        clear this
        generalize cvec r (flB r group) x = now at *
        have lp : loop1 (m40_coalition_blocks_B2 than group (fun v_3 v_4 => some (v_4, v_3)) false [] SF x now) (((group.length : Int) - 0).toNat + 1) 0 = bif (group.all fun o => decide (now.getD o.toNat default < than.getD o.toNat default)) then some (x, true) else SF false [] := by
          refine up_list0 (fun t => bif (t.all fun o => decide (now.getD o.toNat default < than.getD o.toNat default)) then some (x, true) else SF false []) group hgl ?_ ?_ (show group.length < ((group.length : Int) - 0).toNat + 1 by omega)
          · intro sf; unfold m40_coalition_blocks_B2; simp
          · intro sf i y u h1 h2 h3 ih2
            unfold m40_coalition_blocks_B2
            have hy : group.getD (i : Int).toNat default = y := getD_of h2
            have ho := hg y (List.mem_of_getElem? h2)
            have c1 : (0 : Int) ≤ i ∧ (i : Int) < group.length := by omega
            have c2 : (0 : Int) ≤ y ∧ y < now.length := by omega
            have c3 : (0 : Int) ≤ y ∧ y < than.length := by omega
            simp only [decide_eq_true c1.2, cond_true, ck_eq c1, hy, ck_eq c2, ck_eq c3, h3, ih2, List.all_cons]
            by_cases q : than.getD y.toNat default ≤ now.getD y.toNat default
            · have q2 : ¬ now.getD y.toNat default < than.getD y.toNat default := by omega
              rw [decide_eq_true q, decide_eq_false q2]; rfl
            · have q2 : now.getD y.toNat default < than.getD y.toNat default := by omega
              rw [decide_eq_false q, decide_eq_true q2]; rfl
        rw [lp]
        cases (group.all fun o => decide (now.getD o.toNat default < than.getD o.toNat default))
        · exact ih
        · rfl
    exact main _ fun x h => h
  · intro sf i l y t h1 h2 h3 hI ih
    unfold m40_coalition_blocks_B0
    have c1 : (0 : Int) ≤ i ∧ (i : Int) < r.owners.length := by omega
    have e1 : r.owners.getD (i : Int).toNat default = ownr r i := rfl
    have c2 : (l.length + [(i : Int)].length) * 8 ≤ 140737488355328 := by have := hI.1; simp; omega
    simp only [decide_eq_true c1.2, cond_true, ck_eq c1, e1, m43_eq group _ hgl, Option.bind_some, ck_eq c2, h3]
    obtain ⟨k, hk⟩ : ∃ k, r.owners.length - i = k + 1 := ⟨r.owners.length - i - 1, by omega⟩
    obtain ⟨hI1, hI2⟩ := hI
    rw [hk, List.range'_succ, List.map_cons, List.filter_cons] at hI2
    have hk2 : r.owners.length - (i + 1) = k := by omega
    cases hq : (group.any fun x => decide (ownr r (i : Int) = x))
    · rw [hq] at hI2
      rw [cond_false]
      exact ih _ ⟨by omega, by rw [hk2]; simpa using hI2⟩
    · rw [hq] at hI2
      rw [cond_true]
      exact ih _ ⟨by simp; omega, by rw [hk2]; simpa using hI2⟩
/-- strictly rising -/
def risB (g : List Int) : Bool := (List.range g.length).all fun i => !(decide (g.getD i default < 0) || (decide (8 ≤ g.getD i default) || (decide (0 < i) && decide (g.getD i default ≤ g.getD (i - 1) default))))
theorem risB_props {g : List Int} (h : risB g = true) : grp g ∧ g.Pairwise (· < ·) := by
  unfold risB at h
  simp only [List.all_eq_true, List.mem_range, Bool.not_eq_true', Bool.or_eq_false_iff, decide_eq_false_iff_not, Bool.and_eq_false_iff] at h
  constructor
  · intro o ho
    obtain ⟨i, hi, rfl⟩ := List.getElem_of_mem ho
    have := h i hi
    rw [getD_getElem hi] at this
    omega
  · have key : ∀ k i, i + k + 1 < g.length → g.getD i default < g.getD (i + k + 1) default := by
      intro k
      induction k with
      | zero => intro i hi; have := (h (i + 0 + 1) hi).2.2; rw [show i + 0 + 1 - 1 = i by omega] at this; omega
      | succ k ih => intro i hi; have h1 := ih i (by omega); have := (h (i + (k + 1) + 1) hi).2.2; rw [show i + (k + 1) + 1 - 1 = i + k + 1 by omega] at this; omega
    rw [List.pairwise_iff_getElem]
    intro i j hi hj hij
    have := key (j - i - 1) i (by omega)
    rw [show i + (j - i - 1) + 1 = j by omega, getD_getElem hi, getD_getElem hj] at this
    exact this
def blocksM (r : XRound) (s g : List Int) : List Int × Bool × Int := bif goodB r s then (bif risB g && decide (g ≠ []) then ((blk r (cvec r (ownL r) s) g).1, (blk r (cvec r (ownL r) s) g).2, 0) else ([], false, 1)) else ([], false, 370)
theorem m17_eq (r : XRound) (s g : List Int) (hs : smXRound r) (hl : s.length < 9223372036854775807) (hgl : g.length < 9223372036854775807) : m17_coalition_Blocks r s g = some (blocksM r s g) := by
  unfold m17_coalition_Blocks blocksM
  rw [m39_eq r s hs hl]
  cases hg : goodB r s
  · rfl
  obtain ⟨hv, ha⟩ := good_props hg
  simp only [cond_true, Option.bind_some, ne_eq, not_true_eq_false, decide_false, cond_false]
  have fin : ∀ k : Nat, k = g.length → risB g = true → m17_coalition_Blocks_B0 r s g = m17_coalition_Blocks_B0 r s g := fun _ _ _ => rfl
  have lp : loop1 (m17_coalition_Blocks_B0 r s g) (((g.length : Int) - 0).toNat + 1) 0 = bif (List.range' 0 g.length).all (fun i => !(decide (g.getD i default < 0) || (decide (8 ≤ g.getD i default) || (decide (0 < i) && decide (g.getD i default ≤ g.getD (i - 1) default))))) then (bif decide ((g.length : Int) = 0) then some ([], false, 1) else (bif risB g then some ((blk r (cvec r (ownL r) s) g).1, (blk r (cvec r (ownL r) s) g).2, 0) else m17_coalition_Blocks_B0 r s g (fun _ => none) (g.length : Nat))) else some ([], false, 1) := by
    refine up_listI (fun i t => bif (List.range' i t.length).all (fun i => !(decide (g.getD i default < 0) || (decide (8 ≤ g.getD i default) || (decide (0 < i) && decide (g.getD i default ≤ g.getD (i - 1) default))))) then (bif decide ((g.length : Int) = 0) then some ([], false, 1) else (bif risB g then some ((blk r (cvec r (ownL r) s) g).1, (blk r (cvec r (ownL r) s) g).2, 0) else m17_coalition_Blocks_B0 r s g (fun _ => none) (g.length : Nat))) else some ([], false, 1)) g hgl ?_ ?_ (show g.length < ((g.length : Int) - 0).toNat + 1 by omega)
    · intro sf
      rw [show (List.range' g.length ([] : List Int).length) = [] from rfl, List.all_nil, cond_true]
      unfold m17_coalition_Blocks_B0
      have c1 : ¬ (g.length : Int) < g.length := by omega
      rw [decide_eq_false c1, cond_false, cond_false]
      cases decide ((g.length : Int) = 0)
      · rw [cond_false, cond_false]
        cases hr : risB g
        · rfl
        · rw [cond_true, m42_eq r hv, Option.bind_some, cvec_asg hv ha, Option.bind_some, m40_eq r _ g hv (by simp [cvec]) (risB_props hr).1 hgl]; rfl
      · rfl
    · intro sf i x t h1 h2 h3 ih
      rw [List.length_cons, all_range']
      generalize (bif decide ((g.length : Int) = 0) then some ([], false, 1) else (bif risB g then some ((blk r (cvec r (ownL r) s) g).1, (blk r (cvec r (ownL r) s) g).2, 0) else m17_coalition_Blocks_B0 r s g (fun _ => none) (g.length : Nat))) = E at *
      unfold m17_coalition_Blocks_B0
      have hx : g.getD (i : Int).toNat default = g.getD i default := rfl
      have c1 : (0 : Int) ≤ i ∧ (i : Int) < g.length := by omega
      simp only [decide_eq_true c1.2, cond_true, ck_eq c1, hx, h3, ih, jn_eq]
      generalize (List.range' (i + 1) t.length).all (fun i => !(decide (g.getD i default < 0) || (decide (8 ≤ g.getD i default) || (decide (0 < i) && decide (g.getD i default ≤ g.getD (i - 1) default))))) = rest
      generalize decide (g.getD i default < 0) = b1
      generalize decide (8 ≤ g.getD i default) = b2
      cases b1
      · cases b2
        · by_cases q : 0 < i
          · have w : IntKind.i64.wrap ((i : Int) - 1) = ((i - 1 : Nat) : Int) := (wrap_i64 (by omega) (by omega)).trans (by omega)
            have c2 : (0 : Int) ≤ ((i - 1 : Nat) : Int) ∧ ((i - 1 : Nat) : Int) < g.length := by omega
            have e2 : g.getD ((i - 1 : Nat) : Int).toNat default = g.getD (i - 1) default := rfl
            rw [decide_eq_true (show (0 : Int) < i by omega), decide_eq_true q, w]
            simp only [cond_true, cond_false, ck_eq c2, e2]
            cases decide (g.getD i default ≤ g.getD (i - 1) default) <;> cases rest <;> rfl
          · rw [decide_eq_false (show ¬ (0 : Int) < i by omega), decide_eq_false q]
            cases rest <;> rfl
        · rfl
      · rfl
  rw [lp]
  have hrr : risB g = (List.range' 0 g.length).all (fun i => !(decide (g.getD i default < 0) || (decide (8 ≤ g.getD i default) || (decide (0 < i) && decide (g.getD i default ≤ g.getD (i - 1) default))))) := by rw [← List.range_eq_range']; rfl
  rw [← hrr]
  cases hr : risB g
  · rfl
  · by_cases q : g = []
    · subst q; rfl
    · have : ¬ (g.length : Int) = 0 := by have := List.length_pos_iff.2 q; omega
      rw [decide_eq_false this, decide_eq_true q]; rfl
end Go.Fx


/- Chapter 37: stable assignments, members, better. -/
set_option linter.unusedSimpArgs false
set_option linter.unusedVariables false
namespace Go.Fx
open Go Go.RowKit
def bitOn (b o : Nat) : Bool := !decide ((Go.bits .and .i64 ((b : Int) / 2 ^ min o (IntKind.bits .i64)) 1) = 0)
def grpOf (b : Nat) : List Int := ((List.range 8).filter (bitOn b)).map fun o : Nat => (o : Int)
theorem grpOf_grp (b : Nat) : grp (grpOf b) := by
  intro o ho
  unfold grpOf at ho
  simp only [List.mem_map, List.mem_filter, List.mem_range] at ho
  obtain ⟨a, ⟨h, _⟩, rfl⟩ := ho; omega
def hasF (r : XRound) (o : Int) : Bool := r.owners.any fun x => decide (o = x)
/-- group b blocks -/
def stB (r : XRound) (than : List Int) (b : Nat) : Bool := ((List.range 8).all fun o : Nat => !bitOn b o || hasF r o) && (!decide (((grpOf b).length : Int) = 0) && (blk r than (grpOf b)).2)
theorem m19_loop (r : XRound) (than : List Int) (hv : Val r) (ht : than.length = 8) : loop1 (m19_coalition_Stable_B0 r than) (((256 : Int) - 0).toNat + 1) 0 = some (!(List.range 256).any (stB r than), 0) := by
  rw [List.range_eq_range']
  refine (up_listI (fun i t => some (!(List.range' i t.length).any (stB r than), 0)) (List.range' 0 256) (by rw [List.length_range']; omega) ?_ ?_ (show (List.range' 0 256).length < ((256 : Int) - 0).toNat + 1 by rw [List.length_range']; omega)).trans (by rw [List.length_range'])
  · intro sf; unfold m19_coalition_Stable_B0; rw [List.length_range']; rfl
  · intro sf b x t h1 h2 h3 ih
    rw [List.length_range'] at h1
    rw [List.length_cons, any_range']
    unfold m19_coalition_Stable_B0
    rw [decide_eq_true (show (b : Int) < 256 by omega), cond_true, jn_eq, h3, ih]
    generalize (List.range' (b + 1) t.length).any (stB r than) = rest
    refine (up_listB (s := ([] : List Int)) (fun i s => s = ((List.range i).filter (bitOn b)).map fun o : Nat => (o : Int)) (fun i t s => bif (List.range' i t.length).all (fun o : Nat => !bitOn b o || hasF r o) then (bif (!decide (((grpOf b).length : Int) = 0) && (blk r than (grpOf b)).2) then some (false, 0) else some (!rest, 0)) else some (!rest, 0)) (List.range' 0 8) (by rw [List.length_range']; omega) ?_ ?_ (show (List.range' 0 8).length < ((8 : Int) - 0).toNat + 1 by rw [List.length_range']; omega) (by rfl)).trans ?_
    · intro sg s hI
      rw [List.length_range'] at hI ⊢
      have hI : s = grpOf b := hI
      subst hI
      unfold m19_coalition_Stable_B1
      rw [m40_eq r than _ hv ht (grpOf_grp b) (by have := List.length_filter_le (bitOn b) (List.range 8); unfold grpOf; simp at this ⊢; omega)]
      rw [show (List.range' 8 ([] : List Nat).length).all (fun o : Nat => !bitOn b o || hasF r o) = true from rfl]
      rw [decide_eq_false (show ¬ ((8 : Nat) : Int) < 8 by omega), Option.bind_some, cond_false]
      cases decide (((grpOf b).length : Int) = 0) <;> cases (blk r than (grpOf b)).2 <;> rfl
    · intro sg o s y u j1 j2 j3 hI ih2
      rw [List.length_range'] at j1
      rw [List.length_cons, all_range']
      unfold m19_coalition_Stable_B1
      have c1 : (0 : Int) ≤ o := by omega
      have c2 : (s.length + [(o : Int)].length) * 8 ≤ 140737488355328 := by
        have := List.length_filter_le (bitOn b) (List.range o)
        rw [hI]; simp at this ⊢; omega
      have hb : decide ((Go.bits .and .i64 ((b : Int) / 2 ^ min (o : Int).toNat (IntKind.bits .i64)) 1) = 0) = !bitOn b o := by unfold bitOn; rw [Bool.not_not, Int.toNat_natCast]
      rw [decide_eq_true (show (o : Int) < 8 by omega), cond_true, ck_eq c1, hb, j3]
      have hI' : ∀ s', s' = s ++ (([o].filter (bitOn b)).map fun o : Nat => (o : Int)) → s' = ((List.range (o + 1)).filter (bitOn b)).map fun o : Nat => (o : Int) := by
        intro s' h; rw [h, hI, List.range_succ, List.filter_append, List.map_append]
      have hm := m43_eq r.owners (o : Int) (by have := hv.n8; omega)
      rw [hm]
      have hh : hasF r o = r.owners.any fun x => decide ((o : Int) = x) := rfl
      rw [← hh]
      cases hbo : bitOn b o
      · rw [Bool.not_false, cond_true, ih2 _ (hI' _ (by rw [List.filter_cons, hbo]; simp))]
        rfl
      · rw [Bool.not_true, cond_false, Option.bind_some]
        cases hasF r o
        · rfl
        · rw [Bool.not_true, cond_false, ck_eq c2, ih2 _ (hI' _ (by rw [List.filter_cons, hbo]; simp))]
          rfl
    · rw [List.length_range']
      unfold stB
      rw [List.range_eq_range']
      cases (List.range' 0 8).all (fun o : Nat => !bitOn b o || hasF r o) <;> cases (!decide (((grpOf b).length : Int) = 0) && (blk r than (grpOf b)).2) <;> rfl
def stableB (r : XRound) (s : List Int) : Bool := decide (worseL r s = []) && !(List.range 256).any (stB r (cvec r (ownL r) s))
theorem m19_eq (r : XRound) (s : List Int) (hs : smXRound r) (hl : s.length < 9223372036854775807) : m19_coalition_Stable r s = some (bif goodB r s then (stableB r s, 0) else (false, 370)) := by
  unfold m19_coalition_Stable
  rw [m23_eq r s hs hl]
  cases hg : goodB r s
  · rfl
  obtain ⟨hv, ha⟩ := good_props hg
  simp only [cond_true, Option.bind_some, jn_eq]
  rw [m42_eq r hv, Option.bind_some, cvec_asg hv ha, Option.bind_some, m19_loop r _ hv (by simp [cvec])]
  unfold stableB
  by_cases q : worseL r s = []
  · rw [q]; rfl
  · have : (0 : Int) < (worseL r s).length := by have := List.length_pos_iff.2 q; omega
    rw [decide_eq_true this, decide_eq_false q]; rfl
end Go.Fx


/- Chapter 37: what blocks is not stable. -/
set_option linter.unusedSimpArgs false
set_option linter.unusedVariables false
namespace Go.Fx
open Go Go.RowKit
def sum8 (a b c d e f g h : Bool) : Nat := cond a 1 0 + cond b 2 0 + cond c 4 0 + cond d 8 0 + cond e 16 0 + cond f 32 0 + cond g 64 0 + cond h 128 0
theorem bits8 : ∀ a b c d e f g h : Bool, sum8 a b c d e f g h < 256 ∧ (List.range 8).map (bitOn (sum8 a b c d e f g h)) = [a, b, c, d, e, f, g, h] := of_decide_eq_true (by kernel_rfl)
theorem bits_of (p : Nat → Bool) : ∃ b < 256, ∀ o < 8, bitOn b o = p o := by
  obtain ⟨h1, h2⟩ := bits8 (p 0) (p 1) (p 2) (p 3) (p 4) (p 5) (p 6) (p 7)
  refine ⟨_, h1, ?_⟩
  generalize sum8 (p 0) (p 1) (p 2) (p 3) (p 4) (p 5) (p 6) (p 7) = n at *
  have e : List.range 8 = [0, 1, 2, 3, 4, 5, 6, 7] := rfl
  rw [e] at h2
  simp only [List.map_cons, List.map_nil, List.cons.injEq, and_true] at h2
  intro o ho
  obtain ⟨a0, a1, a2, a3, a4, a5, a6, a7⟩ := h2
  have : o = 0 ∨ o = 1 ∨ o = 2 ∨ o = 3 ∨ o = 4 ∨ o = 5 ∨ o = 6 ∨ o = 7 := by omega
  rcases this with rfl | rfl | rfl | rfl | rfl | rfl | rfl | rfl <;> assumption
theorem rising_ext {a b : List Int} (ha : a.Pairwise (· < ·)) (hb : b.Pairwise (· < ·)) (h : ∀ x, x ∈ a ↔ x ∈ b) : a = b := by
  have na : a.Nodup := ha.imp fun h => by omega
  have nb : b.Nodup := hb.imp fun h => by omega
  refine List.Perm.eq_of_pairwise (le := fun x y => x < y) ?_ ha hb ((List.perm_ext_iff_of_nodup na nb).2 h)
  intro x y _ _ h1 h2; omega
theorem grpOf_rising (b : Nat) : (grpOf b).Pairwise (· < ·) := by
  unfold grpOf
  rw [List.pairwise_map]
  have : (List.range 8).Pairwise (· < ·) := List.pairwise_lt_range
  exact (this.filter _).imp fun h => by omega
theorem mem_grpOf {b : Nat} {o : Int} : o ∈ grpOf b ↔ 0 ≤ o ∧ o < 8 ∧ bitOn b o.toNat = true := by
  unfold grpOf
  simp only [List.mem_map, List.mem_filter, List.mem_range]
  constructor
  · rintro ⟨a, ⟨h1, h2⟩, rfl⟩; exact ⟨by omega, by omega, by rwa [Int.toNat_natCast]⟩
  · rintro ⟨h1, h2, h3⟩; exact ⟨o.toNat, ⟨by omega, h3⟩, by omega⟩
theorem grp_bits {g : List Int} (hg : grp g) (hp : g.Pairwise (· < ·)) : ∃ b < 256, grpOf b = g := by
  obtain ⟨b, hb, h⟩ := bits_of fun o => decide ((o : Int) ∈ g)
  refine ⟨b, hb, rising_ext (grpOf_rising b) hp fun x => ?_⟩
  rw [mem_grpOf]
  constructor
  · rintro ⟨h1, h2, h3⟩
    rw [h _ (by omega)] at h3
    simp only [decide_eq_true_eq] at h3
    rwa [show ((x.toNat : Nat) : Int) = x by omega] at h3
  · intro hx
    have := hg x hx
    refine ⟨this.1, this.2, ?_⟩
    rw [h _ (by omega), show ((x.toNat : Nat) : Int) = x by omega]
    simpa using hx
theorem blk_spec (r : XRound) (than g : List Int) : ((blk r than g).2 = true ∧ (blk r than g).1 ∈ devL r (flB r g) ∧ bet r than g (flB r g) (blk r than g).1 = true) ∨ ((blk r than g) = ([], false) ∧ ∀ x ∈ devL r (flB r g), bet r than g (flB r g) x = false) := by
  unfold blk
  cases h : (devL r (flB r g)).find? (bet r than g (flB r g)) with
  | none => right; exact ⟨rfl, fun x hx => by have := List.find?_eq_none.1 h x hx; simpa using this⟩
  | some x => left; exact ⟨rfl, List.mem_of_find?_eq_some h, List.find?_some h⟩
theorem csum_zero {own : Int → Int} {cost : Int → Int → Int} {o : Int} {l : List (Int × Int)} (h : ∀ p ∈ l, own p.1 ≠ o) : csum own cost o l = 0 := by
  induction l with
  | nil => rfl
  | cons p t ih =>
    obtain ⟨f, s⟩ := p
    simp only [csum]
    rw [if_neg (h (f, s) (List.mem_cons_self ..)), ih fun p hp => h p (List.mem_cons_of_mem _ hp)]; rfl
theorem hasF_iff {r : XRound} {o : Int} : hasF r o = true ↔ ∃ f : Int, 0 ≤ f ∧ f < r.owners.length ∧ ownr r f = o := by
  unfold hasF
  simp only [List.any_eq_true, decide_eq_true_eq]
  constructor
  · rintro ⟨x, hx, rfl⟩
    obtain ⟨i, hi, rfl⟩ := List.getElem_of_mem hx
    exact ⟨i, by omega, by omega, by unfold ownr; rw [Int.toNat_natCast, getD_getElem hi]⟩
  · rintro ⟨f, h1, h2, rfl⟩
    exact ⟨_, getD_mem (by omega), rfl⟩
theorem zip_own {r : XRound} {fl s : List Int} {o : Int} (hf : ∀ f ∈ fl, 0 ≤ f ∧ f < r.owners.length) (h : hasF r o = false) : csum (ownr r) (cst r) o (fl.zip s) = 0 := by
  refine csum_zero fun p hp e => ?_
  have := List.of_mem_zip hp
  have := hf _ this.1
  have : hasF r o = true := hasF_iff.2 ⟨p.1, this.1, this.2, e⟩
  rw [h] at this; cases this
/-- whoever blocks has flights -/
theorem bet_has {r : XRound} {s g x : List Int} (hg : grp g) (hb : bet r (cvec r (ownL r) s) g (flB r g) x = true) : ∀ o ∈ g, hasF r o = true := by
  intro o ho
  cases hh : hasF r o with
  | true => rfl
  | false =>
    unfold bet at hb
    rw [List.all_eq_true] at hb
    have := hb o ho
    have ho8 := hg o ho
    unfold cvec at this
    rw [getD_map_range (by omega), getD_map_range (by omega), show ((o.toNat : Nat) : Int) = o by omega] at this
    rw [zip_own (fun f hf => (mem_flB.1 hf).1) hh, zip_own (fun f hf => mem_ownL.1 hf) hh] at this
    simp at this
theorem not_stable {r : XRound} {s g x : List Int} (hg : grp g) (hp : g.Pairwise (· < ·)) (hne : g ≠ []) (hx : x ∈ devL r (flB r g)) (hb : bet r (cvec r (ownL r) s) g (flB r g) x = true) : stableB r s = false := by
  obtain ⟨b, hb256, rfl⟩ := grp_bits hg hp
  have hs : stB r (cvec r (ownL r) s) b = true := by
    unfold stB
    simp only [Bool.and_eq_true, List.all_eq_true, List.mem_range, Bool.or_eq_true, Bool.not_eq_true', decide_eq_false_iff_not]
    refine ⟨fun o ho => ?_, ?_, ?_⟩
    · cases hbo : bitOn b o
      · left; rfl
      · right; exact bet_has hg hb _ (mem_grpOf.2 ⟨by omega, by omega, by rwa [Int.toNat_natCast]⟩)
    · have := List.length_pos_iff.2 hne; omega
    · rcases blk_spec r (cvec r (ownL r) s) (grpOf b) with h | ⟨_, h⟩
      · exact h.1
      · rw [h x hx] at hb; cases hb
  unfold stableB
  have : (List.range 256).any (stB r (cvec r (ownL r) s)) = true := List.any_eq_true.2 ⟨b, List.mem_range.2 hb256, hs⟩
  rw [this]; simp
end Go.Fx


/- Chapter 37: members, better. -/
set_option linter.unusedSimpArgs false
set_option linter.unusedVariables false
namespace Go.Fx
open Go Go.RowKit
theorem m21_eq (r : XRound) (g : List Int) (hv : Val r) (hp : g.Pairwise (· < ·)) (hg : g.length ≤ 20) : m21_overflightlaw37_members r g = some (flB r g) := by
  unfold m21_overflightlaw37_members
  have hn8 := hv.n8
  refine up_listB (s := ([] : List Int)) (fun i l => l.length ≤ i ∧ l ++ ((List.range' i (r.owners.length - i)).map fun j : Nat => (j : Int)).filter (fun f => g.any fun x => decide (ownr r f = x)) = flB r g) (fun _ _ _ => some (flB r g)) r.owners (by omega) ?_ ?_ (show r.owners.length < ((r.owners.length : Int) - 0).toNat + 1 by omega) ⟨Nat.le_refl _, by simp [flB, ownL, List.range_eq_range']⟩
  · intro sf l hI
    have hI := hI.2
    rw [Nat.sub_self] at hI
    simp only [List.range'_zero, List.map_nil, List.filter_nil, List.append_nil] at hI
    subst hI
    unfold m21_overflightlaw37_members_B0
    have c1 : ¬ (r.owners.length : Int) < r.owners.length := by omega
    rw [decide_eq_false c1]; rfl
  · intro sf i l y t h1 h2 h3 hI ih
    unfold m21_overflightlaw37_members_B0
    have c1 : (0 : Int) ≤ i ∧ (i : Int) < r.owners.length := by omega
    rw [decide_eq_true c1.2, cond_true, ck_eq c1]
    refine (up_listB (s := l) (fun j s => s.length ≤ i + j) (fun j t s => sf (s ++ if ownr r i ∈ g.drop j then [(i : Int)] else []) ((i : Int) + 1)) g (by omega) ?_ ?_ (show g.length < ((g.length : Int) - 0).toNat + 1 by omega) (by have := hI.1; omega)).trans ?_
    · intro sg s hJ
      unfold m21_overflightlaw37_members_B1
      have d1 : ¬ (g.length : Int) < g.length := by omega
      rw [decide_eq_false d1, cond_false, h3]; simp
    · intro sg j s x u j1 j2 j3 hJ ih2
      unfold m21_overflightlaw37_members_B1
      have d1 : (0 : Int) ≤ j ∧ (j : Int) < g.length := by omega
      have hx : g.getD (j : Int).toNat default = x := getD_of j2
      have e1 : r.owners.getD (i : Int).toNat default = ownr r i := rfl
      have d2 : (s.length + [(i : Int)].length) * 8 ≤ 140737488355328 := by simp; omega
      have hdr : g.drop j = x :: g.drop (j + 1) := by
        obtain ⟨hj, rfl⟩ := List.getElem?_eq_some_iff.1 j2
        exact List.drop_eq_getElem_cons hj
      have hnx : ∀ z ∈ g.drop (j + 1), x < z := by
        have := hp.sublist (List.drop_sublist j g)
        rw [hdr, List.pairwise_cons] at this
        exact this.1
      rw [decide_eq_true d1.2, cond_true, ck_eq d1, hx, e1, j3, hdr]
      by_cases q : x = ownr r i
      · rw [decide_eq_true q, cond_true, ck_eq d2, ih2 _ (by simp; omega)]
        have n1 : ownr r (i : Int) ∉ g.drop (j + 1) := fun h => by have := hnx _ h; omega
        rw [if_neg n1, if_pos (by rw [q]; exact List.mem_cons_self ..)]; simp
      · rw [decide_eq_false q, cond_false, ih2 _ (by omega)]
        have : (ownr r (i : Int) ∈ x :: g.drop (j + 1)) = (ownr r (i : Int) ∈ g.drop (j + 1)) := by
          apply propext; rw [List.mem_cons]; exact ⟨fun h => h.resolve_left fun e => q e.symm, .inr⟩
        simp only [this]
    · obtain ⟨k, hk⟩ : ∃ k, r.owners.length - i = k + 1 := ⟨r.owners.length - i - 1, by omega⟩
      obtain ⟨hI1, hI2⟩ := hI
      rw [hk, List.range'_succ, List.map_cons, List.filter_cons] at hI2
      have hk2 : r.owners.length - (i + 1) = k := by omega
      rw [List.drop_zero]
      have hany : (g.any fun x => decide (ownr r (i : Int) = x)) = decide (ownr r (i : Int) ∈ g) := by rw [contains_any]; simp
      rw [hany] at hI2
      by_cases q : ownr r (i : Int) ∈ g
      · rw [if_pos q]; rw [decide_eq_true q] at hI2
        exact ih _ ⟨by simp; omega, by rw [hk2]; simpa using hI2⟩
      · rw [if_neg q]; rw [decide_eq_false q] at hI2
        exact ih _ ⟨by simp; omega, by rw [hk2]; simpa using hI2⟩
def dupB (s : List Int) (i k : Nat) : Bool := decide (k < i) && decide (s.getD k default = s.getD i default)
/-- slot i is an own one, not taken twice, and can be used -/
def okB (r : XRound) (fl s : List Int) (i : Nat) : Bool := !(List.range' 0 fl.length).any (dupB s i) && (decide (s.getD i default ∈ fl) && decide (0 ≤ cst r (fl.getD i default) (s.getD i default)))
def lessB (r : XRound) (g fl s than : List Int) : Bool := g.all fun o => decide (csum (ownr r) (cst r) o (fl.zip s) < than.getD o.toNat default)
def betterB (r : XRound) (g s than : List Int) : Bool := decide (s.length = (flB r g).length) && ((List.range' 0 (flB r g).length).all (okB r (flB r g) s) && lessB r g (flB r g) s than)
theorem m20_eq (r : XRound) (g s than : List Int) (hv : Val r) (hp : g.Pairwise (· < ·)) (hg : grp g) (hgl : g.length ≤ 20) (ht : than.length = 8) (hsl : s.length < 9223372036854775807) : m20_overflightlaw37_better r g s than = some (betterB r g s than) := by
  unfold m20_overflightlaw37_better betterB
  rw [m21_eq r g hv hp hgl, Option.bind_some]
  have hfl : ∀ f ∈ flB r g, 0 ≤ f ∧ f < r.owners.length := fun f hf => (mem_flB.1 hf).1
  have hfn : (flB r g).length ≤ 8 := by have := flB_len r g; have := hv.n8; omega
  generalize flB r g = fl at *
  by_cases q : s.length = fl.length
  case neg =>
    have q' : (s.length : Int) ≠ fl.length := by omega
    rw [decide_eq_true q', decide_eq_false q]; rfl
  have q' : ¬ (s.length : Int) ≠ fl.length := by omega
  rw [decide_eq_false q', decide_eq_true q, cond_false, Bool.true_and]
  rw [← q]
  have hfits : ∀ i < fl.length, s.getD i default ∈ fl → fits r (fl.getD i default) (s.getD i default) := by
    intro i hi hm
    have a1 := hfl _ (getD_mem hi)
    have a2 := hfl _ hm
    have := hv.s3
    exact ⟨a1.1, a1.2, a2.1, by omega⟩
  have hz : (fl.zip s).take s.length = fl.zip s := by rw [List.take_of_length_le (by simp; omega)]
  refine up_listA (s := ([] : List (Int × Int))) (fun i m => (∀ j < i, s.getD j default ∈ fl) ∧ ∀ o, (mget m o).getD 0 = csum (ownr r) (cst r) o ((fl.zip s).take i)) (fun i t m => some ((List.range' i t.length).all (okB r fl s) && lessB r g fl s than)) s hsl ?_ ?_ (show s.length < ((s.length : Int) - 0).toNat + 1 by omega) ⟨fun j hj => by omega, fun o => by simp [csum, mget]⟩
  · intro sf m hI
    have hI := hI.2
    rw [hz] at hI
    unfold m20_overflightlaw37_better_B0
    have c1 : ¬ (s.length : Int) < s.length := by omega
    rw [decide_eq_false c1, cond_false]
    rw [show (List.range' s.length ([] : List Int).length).all (okB r fl s) = true from rfl, Bool.true_and]
    unfold lessB
    refine up_list0 (fun t => some (t.all fun o => decide (csum (ownr r) (cst r) o (fl.zip s) < than.getD o.toNat default))) g (by omega) ?_ ?_ (show g.length < ((g.length : Int) - 0).toNat + 1 by omega)
    · intro sf; unfold m20_overflightlaw37_better_B2
      have d1 : ¬ (g.length : Int) < g.length := by omega
      rw [decide_eq_false d1]; rfl
    · intro sg i y u h1 h2 h3 ih
      unfold m20_overflightlaw37_better_B2
      have hy : g.getD (i : Int).toNat default = y := getD_of h2
      have ho := hg y (List.mem_of_getElem? h2)
      have d1 : (0 : Int) ≤ i ∧ (i : Int) < g.length := by omega
      have d2 : (0 : Int) ≤ y ∧ y < than.length := by omega
      rw [decide_eq_true d1.2, cond_true, ck_eq d1, jn_eq]
      rw [hy, decide_eq_false (show ¬ y < 0 by omega), decide_eq_false (show ¬ (than.length : Int) ≤ y by omega), cond_false, cond_false, ck_eq d2, hI, List.all_cons, h3, ih]
      by_cases z : than.getD y.toNat default ≤ csum (ownr r) (cst r) y (fl.zip s)
      · have z2 : ¬ csum (ownr r) (cst r) y (fl.zip s) < than.getD y.toNat default := by omega
        rw [decide_eq_true z, decide_eq_false z2]; rfl
      · have z2 : csum (ownr r) (cst r) y (fl.zip s) < than.getD y.toNat default := by omega
        rw [decide_eq_false z, decide_eq_true z2]; rfl
  · intro sf i m x t h1 h2 h3 hI ih
    unfold m20_overflightlaw37_better_B0
    have c1 : (0 : Int) ≤ i ∧ (i : Int) < s.length := by omega
    rw [decide_eq_true c1.2, cond_true, ck_eq c1, List.length_cons, all_range']
    have hx : s.getD (i : Int).toNat default = s.getD i default := rfl
    let fin : Bool → Option Bool := fun own => bif !own || !decide (0 ≤ cst r (fl.getD i default) (s.getD i default)) then some false else some ((List.range' (i + 1) t.length).all (okB r fl s) && lessB r g fl s than)
    refine (up_listB (s := false) (fun k own => own = (decide (s.getD i default ∈ fl.take k))) (fun k u own => bif (List.range' k u.length).any (dupB s i) then some false else fin (decide (s.getD i default ∈ fl))) fl (by omega) ?_ ?_ (show fl.length < ((fl.length : Int) - 0).toNat + 1 by omega) (by simp)).trans ?_
    · intro sg own hJ
      rw [List.take_length] at hJ
      unfold m20_overflightlaw37_better_B1
      have d1 : ¬ (fl.length : Int) < fl.length := by omega
      have d2 : (0 : Int) ≤ i ∧ (i : Int) < fl.length := by omega
      rw [decide_eq_false d1, cond_false, ck_eq d2, jn_eq]
      rw [show (List.range' fl.length ([] : List Int).length).any (dupB s i) = false from rfl, cond_false]
      have hf : fl.getD (i : Int).toNat default = fl.getD i default := rfl
      rw [hx, hf]
      by_cases z : s.getD i default ∈ fl
      case neg => rw [hJ, decide_eq_false z]; rfl
      rw [hJ, decide_eq_true z]
      obtain ⟨a1, a2, a3, a4⟩ := hfits i (by omega) z
      have hcost := fits.cst hv (hfits i (by omega) z)
      have hrow := hv.row (fl.getD i default).toNat (by omega)
      have hs4 := hv.s4
      have d3 : (0 : Int) ≤ fl.getD i default ∧ fl.getD i default < r.costs.length := by omega
      have d4 : (0 : Int) ≤ s.getD i default ∧ s.getD i default < ((r.costs.getD (fl.getD i default).toNat default).length : Int) := by omega
      have d5 : (0 : Int) ≤ fl.getD i default ∧ fl.getD i default < r.owners.length := by omega
      have e1 : (r.costs.getD (fl.getD i default).toNat default).getD (s.getD i default).toNat default = cst r (fl.getD i default) (s.getD i default) := rfl
      have e2 : r.owners.getD (fl.getD i default).toNat default = ownr r (fl.getD i default) := rfl
      rw [Bool.not_true, cond_false, decide_eq_false (show ¬ s.getD i default < 0 by omega), cond_false, decide_eq_false (show ¬ (r.costs.length : Int) ≤ fl.getD i default by omega), cond_false, ck_eq d3, decide_eq_false (show ¬ ((r.costs.getD (fl.getD i default).toNat default).length : Int) ≤ s.getD i default by omega), cond_false, ck_eq d3, ck_eq d4, ck_eq d5, ck_eq d3, ck_eq d4, e1, e2, h3]
      have hfin : fin true = bif !decide (0 ≤ cst r (fl.getD i default) (s.getD i default)) then some false else some ((List.range' (i + 1) t.length).all (okB r fl s) && lessB r g fl s than) := rfl
      rw [hfin]
      by_cases w : cst r (fl.getD i default) (s.getD i default) < 0
      · rw [decide_eq_true w, decide_eq_false (show ¬ 0 ≤ cst r (fl.getD i default) (s.getD i default) by omega)]; rfl
      rw [decide_eq_false w, decide_eq_true (show 0 ≤ cst r (fl.getD i default) (s.getD i default) by omega)]
      show sf _ _ = some ((List.range' (i + 1) t.length).all (okB r fl s) && lessB r g fl s than)
      refine ih _ ⟨fun j hj => ?_, fun o => ?_⟩
      · by_cases e : j = i
        · subst e; exact z
        · exact hI.1 j (by omega)
      · have t1 := zip_take_succ (l := fl) (m := s) (i := i) (by omega) h1
        have hb := csum_bound (own := ownr r) (cost := cst r) (o := ownr r (fl.getD i default)) (b := 1048576) (l := (fl.zip s).take i) (by omega) (fun p hp => by
          obtain ⟨j, hj, rfl⟩ := List.getElem_of_mem hp
          have hj2 : j < i := by simp at hj; omega
          have := fits.cst hv (hfits j (by omega) (hI.1 j hj2))
          rw [getD_getElem (by omega), getD_getElem (by omega)] at this
          simp only [List.getElem_take, List.getElem_zip]; omega)
        have hle : ((fl.zip s).take i).length ≤ 8 := by simp; omega
        have hle2 : (1048576 : Int) * ((fl.zip s).take i).length ≤ 1048576 * 8 := by omega
        rw [hI.2, mget_put, t1, csum_append]
        simp only [csum]
        by_cases e : ownr r (fl.getD i default) = o
        · rw [if_pos e, if_pos e, Option.getD_some, wrap_i64 (by omega) (by omega), e]; omega
        · rw [if_neg e, if_neg e, hI.2]; omega
    · intro sg k own y u j1 j2 j3 hJ ih2
      unfold m20_overflightlaw37_better_B1
      have d1 : (0 : Int) ≤ k ∧ (k : Int) < fl.length := by omega
      have hy : fl.getD (k : Int).toNat default = y := getD_of j2
      have hk : s.getD (k : Int).toNat default = s.getD k default := rfl
      have d2 : (0 : Int) ≤ k ∧ (k : Int) < s.length := by omega
      rw [decide_eq_true d1.2, cond_true, ck_eq d1, jn_eq]
      rw [List.length_cons, any_range', j3]
      have hown : ∀ o2, o2 = (own || decide (y = s.getD i default)) → o2 = decide (s.getD i default ∈ fl.take (k + 1)) := by
        intro o2 h
        rw [h, hJ, List.take_add_one, j2, Bool.eq_iff_iff]
        simp only [Bool.or_eq_true, decide_eq_true_eq, List.mem_append, Option.toList_some, List.mem_singleton]
        exact or_congr_right eq_comm
      have hdup : dupB s i k = (decide (k < i) && decide (s.getD k default = s.getD i default)) := rfl
      have fin2 : ∀ o2, o2 = (own || decide (y = s.getD i default)) → (jn (fun (v_3 : Bool) => bif v_3 then some false else sg o2 ((k : Int) + 1)) fun k80 => bif decide ((k : Int) < i) then ck ((0 : Int) ≤ k ∧ (k : Int) < (s.length : Int)) (k80 (decide (s.getD (k : Int).toNat default = s.getD (i : Int).toNat default))) else k80 false) = bif (dupB s i k || (List.range' (k + 1) u.length).any (dupB s i)) then some false else fin (decide (s.getD i default ∈ fl)) := by
        intro o2 h
        rw [jn_eq, hk, hx, hdup, ih2 _ (hown o2 h), ck_eq d2]
        by_cases z : k < i
        · rw [decide_eq_true (show (k : Int) < i by omega), decide_eq_true z, cond_true, Bool.true_and]
          cases decide (s.getD k default = s.getD i default) <;> rfl
        · rw [decide_eq_false (show ¬ (k : Int) < i by omega), decide_eq_false z, cond_false, Bool.false_and]; rfl
      rw [hy]
      cases own
      · exact fin2 _ (by rw [hx]; rfl)
      · exact fin2 _ (by rfl)
    · unfold okB
      show (bif (List.range' 0 fl.length).any (dupB s i) then some false else bif !decide (s.getD i default ∈ fl) || !decide (0 ≤ cst r (fl.getD i default) (s.getD i default)) then some false else some ((List.range' (i + 1) t.length).all (okB r fl s) && lessB r g fl s than)) = _
      cases (List.range' 0 fl.length).any (dupB s i) <;> cases decide (s.getD i default ∈ fl) <;> cases decide (0 ≤ cst r (fl.getD i default) (s.getD i default)) <;> rfl
/-- better as the program's search sees it -/
theorem betterB_iff {r : XRound} {g s than : List Int} (hg : grp g) : betterB r g s than = true ↔ s ∈ devL r (flB r g) ∧ bet r than g (flB r g) s = true := by
  have hless : lessB r g (flB r g) s than = bet r than g (flB r g) s := by
    unfold lessB bet
    rw [Bool.eq_iff_iff, List.all_eq_true, List.all_eq_true]
    refine forall_congr' fun o => imp_congr_right fun ho => ?_
    have := hg o ho
    unfold cvec
    rw [getD_map_range (by omega), show ((o.toNat : Nat) : Int) = o by omega]
  unfold betterB
  rw [hless, mem_devL]
  simp only [Bool.and_eq_true, decide_eq_true_eq, List.all_eq_true, List.mem_range'_1, Nat.zero_le, true_and, Nat.zero_add]
  generalize flB r g = fl
  constructor
  · rintro ⟨h1, h2, h3⟩
    refine ⟨⟨h1, fun i hi => ?_⟩, h3⟩
    have := h2 i (by omega)
    unfold okB at this
    simp only [Bool.and_eq_true, decide_eq_true_eq, Bool.not_eq_true', List.any_eq_false, List.mem_range'_1, Nat.zero_le, true_and, Nat.zero_add] at this
    refine ⟨this.2.1, this.2.2, fun j hj e => ?_⟩
    have := this.1 j (by omega)
    unfold dupB at this; simp only [Bool.and_eq_true, decide_eq_true_eq] at this; exact this ⟨hj, e⟩
  · rintro ⟨⟨h1, h2⟩, h3⟩
    refine ⟨h1, fun i hi => ?_, h3⟩
    obtain ⟨a1, a2, a3⟩ := h2 i (by omega)
    unfold okB
    simp only [Bool.and_eq_true, decide_eq_true_eq, Bool.not_eq_true', List.any_eq_false, List.mem_range'_1, Nat.zero_le, true_and, Nat.zero_add]
    refine ⟨fun j hj => ?_, a1, a2⟩
    unfold dupB; simp only [Bool.and_eq_true, decide_eq_true_eq]; rintro ⟨h, e⟩; exact a3 j h e
end Go.Fx


/- CoalitionExact. -/
set_option linter.unusedSimpArgs false
set_option linter.unusedVariables false
namespace Go.Fx
open Go Go.RowKit
theorem CoalitionExact_law (r : XRound) (slots group other : List Int) (hr : smXRound r) (hs : SmL (InK .i64) slots) (hgs : SmL (InK .i64) group) (ho : SmL (InK .i64) other) : m3_overflightlaw37_CoalitionExact r slots group other = some true := by
  have hl : slots.length < 9223372036854775807 := by have := hs.1; omega
  have hlg : group.length < 9223372036854775807 := by have := hgs.1; omega
  have hlo : other.length < 9223372036854775807 := by have := ho.1; omega
  unfold m3_overflightlaw37_CoalitionExact
  rw [sane_eq, m16_eq r hr]
  simp only [Option.bind_some, Bool.not_true, cond_false, jn_eq, m18_eq r slots hr hl, m17_eq r slots group hr hl hlg, m19_eq r slots hr hl]
  cases hf : fewB r
  · rfl
  rw [Bool.not_true, cond_false]
  by_cases c1 : 20 < (slots.length : Int)
  · rw [decide_eq_true c1]; rfl
  by_cases c2 : 20 < (group.length : Int)
  · rw [decide_eq_false c1, decide_eq_true c2]; rfl
  by_cases c3 : 20 < (other.length : Int)
  · rw [decide_eq_false c1, decide_eq_false c2, decide_eq_true c3]; rfl
  rw [decide_eq_false c1, decide_eq_false c2, decide_eq_false c3]
  unfold blocksM
  cases hg : goodB r slots
  · rfl
  cases hri : (risB group && decide (group ≠ []))
  · rfl
  simp only [Bool.and_eq_true, decide_eq_true_eq] at hri
  obtain ⟨hv, ha⟩ := good_props hg
  obtain ⟨hgr, hp⟩ := risB_props hri.1
  have e1 : (cvec r (ownL r) slots).length = 8 := by simp [cvec]
  have hB := fun x (hx : x.length < 9223372036854775807) => m20_eq r group x (cvec r (ownL r) slots) hv hp hgr (by omega) e1 hx
  have hM := m21_eq r group hv hp (by omega)
  simp only [cond_true, cond_false, ne_eq, not_true_eq_false, decide_false, e1, hB other hlo, hM, Option.bind_some]
  rcases blk_spec r (cvec r (ownL r) slots) group with ⟨b1, b2, b3⟩ | ⟨b1, b2⟩
  · have hns := not_stable hgr hp hri.2 b2 b3
    have hlen : (blk r (cvec r (ownL r) slots) group).1.length < 9223372036854775807 := by
      have := (mem_devL.1 b2).1; have := flB_len r group; have := hv.n8; omega
    have hbb := (betterB_iff hgr).2 ⟨b2, b3⟩
    rw [hB _ hlen, b1, hns, hbb]
    cases betterB r group other (cvec r (ownL r) slots) <;> rfl
  · rw [b1, hB [] (by simp)]
    have hbo : betterB r group other (cvec r (ownL r) slots) = false := by
      cases h : betterB r group other (cvec r (ownL r) slots)
      · rfl
      · obtain ⟨h1, h2⟩ := (betterB_iff hgr).1 h
        rw [b2 _ h1] at h2; cases h2
    have hb0 : betterB r group [] (cvec r (ownL r) slots) = false := by
      cases h : betterB r group [] (cvec r (ownL r) slots)
      · rfl
      · obtain ⟨h1, h2⟩ := (betterB_iff hgr).1 h
        rw [b2 _ h1] at h2; cases h2
    rw [hbo, hb0]
    rfl
end Go.Fx


namespace Go.Proofs.Ythakjfdppgdmaaa.lawCoalitionExact
open Go Go.Proofs Go.ChangeShapes Go.WideShapes Go.ChangeAt Go.RowKit Go.Fx
open Go.ChangeMaps (open_string shut_string)
set_option linter.unusedVariables false
set_option maxRecDepth 100000
theorem own : ownKnob Try.prog.godebug = none := by kernel_rfl
theorem laidOut : laidOutB Try.prog = true := by kernel_rfl
set_option maxRecDepth 100000 in
set_option maxHeartbeats 1000000 in
theorem lifted (os : Os) (started : os.Started) (H : Type) (enc : TypeId × Value → H) :
    ReturnsInHanded {} Try.checked os 3 .any (Rows.coalitionExactSpec.pre6 enc Try.prog Try.f3 Rows.coalitionExactRow.domain false) (Rows.coalitionExactSpec.post enc Try.prog Try.f3 false true false false) := by
  refine returnsInHanded_of_change_sized (C := Try.checked) own started (by kernel_rfl) Try.func3
    (ChangeSpec.witness6 (enc := enc) (C := Try.checked) false ⟨#[], #[.agg #[(.int .i64 0), (.slice none 0 0), (.slice none 0 0)], (.slice none 0 0), (.slice none 0 0), (.slice none 0 0)], []⟩ 8 (by kernel_rfl) (by kernel_rfl) (by kernel_rfl) (by kernel_rfl)) ?_
  intro W base args ds gs before hval0 hW hcnd hsz _
  have hval : ∀ (j : Nat) t v, Try.f3.params[j]? = some t → args[j]? = some v → Value.okWide Try.prog W .any base t v := hval0
  have hW' := hW
  obtain ⟨p, q, hA0, hV, rfl, hfz, hnd⟩ := hW
  have hA : DataW.TrodAll enc Try.prog W 0 (fun _ => true) true Try.f3.params.toList args.toList ds p := hA0
  rw [Try.params3] at hA hval
  obtain ⟨v0, vs0, d0, ds0, p0, q0, hargs, rfl, rfl, h0, r0⟩ := trodAll_cons hA
  obtain ⟨v1, vs1, d1, ds1, p1, q1, rfl, rfl, rfl, h1, r1⟩ := trodAll_cons r0
  obtain ⟨v2, vs2, d2, ds2, p2, q2, rfl, rfl, rfl, h2, r2⟩ := trodAll_cons r1
  obtain ⟨v3, vs3, d3, ds3, p3, q3, rfl, rfl, rfl, h3, r3⟩ := trodAll_cons r2
  obtain ⟨rfl, rfl, rfl⟩ := trodAll_nil r3
  obtain rfl : args = #[v0, v1, v2, v3] := by cases args; simp_all
  obtain ⟨rfl, rfl⟩ := trodVars_none hV
  have k0 := h0
  have lt0 : ∀ x ∈ p0, x.block < W.heap.size := by obtain ⟨m, hm⟩ := k0; exact DataW.trod_lt m _ _ _ hm
  obtain ⟨fu0, hf0⟩ := h0
  obtain ⟨r_, rr0, sm0⟩ := rd25.2 _ _ _ hf0
  replace sm0 := sm0 (fun n hn => by have := List.all_eq_true.1 hsz n (DataW.weights_mem_each (j := 0) (t := 25) rfl rfl n hn); simpa using this)
  obtain ⟨⟨cs0⟩, rfl, _⟩ := okWide_struct Try.underlying25 (hval 0 25 v0 rfl rfl)
  replace rr0 : rXRound.rd W [] cs0 r_ := rr0
  obtain ⟨_, _, rfl, ⟨rfl, r_r__slots⟩, ⟨_, _, rfl, ⟨a_r__owners, c_r__owners, rfl, f_r__owners⟩, ⟨a_r__costs, c_r__costs, rfl, f_r__costs⟩⟩⟩ := rr0
  have k1 := h1
  have lt1 : ∀ x ∈ p1, x.block < W.heap.size := by obtain ⟨m, hm⟩ := k1; exact DataW.trod_lt m _ _ _ hm
  obtain ⟨fu1, hf1⟩ := h1
  obtain ⟨slots, rr1, sm1⟩ := rd22.2 _ _ _ hf1
  replace sm1 := sm1 (fun n hn => by have := List.all_eq_true.1 hsz n (DataW.weights_mem_each (j := 1) (t := 22) rfl rfl n hn); simpa using this)
  obtain ⟨b1, l1, c1, rfl⟩ := okWide_slice Try.underlying22 (hval 1 22 v1 rfl rfl)
  replace rr1 : (rSl (rInt .i64)).rd W [] [.slice b1 l1 c1] slots := rr1
  obtain ⟨a_slots, c_slots, e1, f_slots⟩ := un_sl rr1
  simp only [Value.slice.injEq] at e1
  obtain ⟨rfl, rfl, rfl⟩ := e1
  have k2 := h2
  have lt2 : ∀ x ∈ p2, x.block < W.heap.size := by obtain ⟨m, hm⟩ := k2; exact DataW.trod_lt m _ _ _ hm
  obtain ⟨fu2, hf2⟩ := h2
  obtain ⟨group, rr2, sm2⟩ := rd22.2 _ _ _ hf2
  replace sm2 := sm2 (fun n hn => by have := List.all_eq_true.1 hsz n (DataW.weights_mem_each (j := 2) (t := 22) rfl rfl n hn); simpa using this)
  obtain ⟨b2, l2, c2, rfl⟩ := okWide_slice Try.underlying22 (hval 2 22 v2 rfl rfl)
  replace rr2 : (rSl (rInt .i64)).rd W [] [.slice b2 l2 c2] group := rr2
  obtain ⟨a_group, c_group, e2, f_group⟩ := un_sl rr2
  simp only [Value.slice.injEq] at e2
  obtain ⟨rfl, rfl, rfl⟩ := e2
  have k3 := h3
  have lt3 : ∀ x ∈ p3, x.block < W.heap.size := by obtain ⟨m, hm⟩ := k3; exact DataW.trod_lt m _ _ _ hm
  obtain ⟨fu3, hf3⟩ := h3
  obtain ⟨other, rr3, sm3⟩ := rd22.2 _ _ _ hf3
  replace sm3 := sm3 (fun n hn => by have := List.all_eq_true.1 hsz n (DataW.weights_mem_each (j := 3) (t := 22) rfl rfl n hn); simpa using this)
  obtain ⟨b3, l3, c3, rfl⟩ := okWide_slice Try.underlying22 (hval 3 22 v3 rfl rfl)
  replace rr3 : (rSl (rInt .i64)).rd W [] [.slice b3 l3 c3] other := rr3
  obtain ⟨a_other, c_other, e3, f_other⟩ := un_sl rr3
  simp only [Value.slice.injEq] at e3
  obtain ⟨rfl, rfl, rfl⟩ := e3
  have hm : m3_overflightlaw37_CoalitionExact r_ slots group other = some true := CoalitionExact_law _ _ _ _ sm0 sm1 sm2 sm3
  have hc := Fn.calls (c3_overflightlaw37_CoalitionExact (r_ := r_) (slots := slots) (group := group) (other := other) (w := W) (O := []) (by simp) r_r__slots f_r__owners f_r__costs f_slots f_group f_other hm)
  clear hA0 hval0
  refine Calls.mono hc ?_
  rintro e W' ⟨v, rfl, bel, hv⟩
  replace bel := bel.below; obtain rfl : v = .bool true := hv
  exact ⟨_, rfl, _, _, _, [], _, [], hW', trodAll_mk1 (shut_bool Try.underlying4 _), (trodAll_cons_mk (Below.trod laidOut (by kernel_rfl) (of_decide_eq_true (by kernel_rfl)) k0 bel lt0) (trodAll_cons_mk (Below.trod laidOut (by kernel_rfl) (of_decide_eq_true (by kernel_rfl)) k1 bel lt1) (trodAll_cons_mk (Below.trod laidOut (by kernel_rfl) (of_decide_eq_true (by kernel_rfl)) k2 bel lt2) (trodAll_cons_mk (Below.trod laidOut (by kernel_rfl) (of_decide_eq_true (by kernel_rfl)) k3 bel lt3) trodAll_mk0)))), rfl, bel.frame _, fun h => by cases h⟩
theorem over : Rows.coalitionExactRow.holds Try.pinned (OpenSpec.ofChange Rows.coalitionExactSpec) :=
  OpenClaim.holds_of_wide 3 Try.f3 rfl rfl rfl rfl rfl rfl rfl ⟨rfl, rfl, rfl, rfl, rfl⟩ rfl rfl rfl rfl rfl (by kernel_rfl) Try.func3 (by kernel_rfl)
    (of_decide_eq_true (by kernel_rfl)) (by unfold Func.isWrapper; first | (rw [if_pos (by decide +kernel)]; kernel_rfl) | (rw [if_neg (by decide +kernel)]; exact ⟨rfl, rfl⟩))
    (fun os started H enc _ => lifted os started H enc)
theorem proved : Rows.CoalitionExactSaid := over
end Go.Proofs.Ythakjfdppgdmaaa.lawCoalitionExact

