/- CoalitionFree: one slot more that nobody may take changes no answer. -/
import Derived.Test.YthakjfdppgdmaaaFree3
import Derived.Test.YthakjfdppgdmaaaRows
import Derived.WalkKit
import Derived.ShutString
set_option linter.unusedVariables false
set_option linter.unusedSimpArgs false
set_option maxRecDepth 100000
set_option maxHeartbeats 0
namespace Go.Fx
open Go Go.RowKit Go.Proofs
def m6_overflightlaw37_CoalitionFree_B1 (r_ : XRound) (group : List Int) (blocks_1 : (List Int) × Bool × Int) (sf250 : Int → Option Bool) (v_5 : Int) : Option Bool :=
 bif (decide (v_5 < (group.length : Int))) then
  ck ((0 : Int) ≤ v_5 ∧ v_5 < (group.length : Int)) <|
  jn (fun (v_6 : Bool) =>
   bif v_6 then
    some false
   else
    sf250 (IntKind.wrap .i64 (v_5 + 1)))
  (fun k269 =>
   (m21_overflightlaw37_members r_ [(group.getD v_5.toNat default)]).bind fun members_1 =>
   bif (decide ((members_1.length : Int) = 0)) then
    k269 blocks_1.2.1
   else
    k269 false)
 else
  some true

def m6_overflightlaw37_CoalitionFree_B0 (r_ : XRound) (slots : List Int) (group : List Int) (sf49 : Int → (List (List Int)) → Option Bool) (v_2 : Int) (v_3 : List (List Int)) : Option Bool :=
 bif (decide (v_2 < (r_.costs.length : Int))) then
  ck ((0 : Int) ≤ v_2 ∧ v_2 < (r_.costs.length : Int)) <|
  ck ((([] : List Int).length + (r_.costs.getD v_2.toNat default).length) * 8 ≤ 140737488355328) <|
  ck (((([] : List Int) ++ (r_.costs.getD v_2.toNat default)).length + [(-1)].length) * 8 ≤ 140737488355328) <|
  ck ((v_3.length + [((([] : List Int) ++ (r_.costs.getD v_2.toNat default)) ++ [(-1)])].length) * 24 ≤ 140737488355328) <|
  sf49 (IntKind.wrap .i64 (v_2 + 1)) (v_3 ++ [((([] : List Int) ++ (r_.costs.getD v_2.toNat default)) ++ [(-1)])])
 else
  (m17_coalition_Blocks r_ slots group).bind fun blocks_1 =>
  (m17_coalition_Blocks (⟨(IntKind.wrap .i64 (r_.slots + 1)), r_.owners, v_3⟩ : XRound) slots group).bind fun blocks_2 =>
  (m19_coalition_Stable r_ slots).bind fun stable_1 =>
  (m19_coalition_Stable (⟨(IntKind.wrap .i64 (r_.slots + 1)), r_.owners, v_3⟩ : XRound) slots).bind fun stable_2 =>
  jn (fun (v_4 : Bool) =>
   bif v_4 then
    some false
   else
    bif (decide (blocks_1.2.2 ≠ 0)) then
     some true
    else
     loop1 (m6_overflightlaw37_CoalitionFree_B1 r_ group blocks_1) (((group.length : Int) - 0).toNat + 1) 0)
  (fun k231 =>
   (m25_overflightref37_SameInts blocks_1.1 blocks_2.1).bind fun sameints_1 =>
   bif (!sameints_1) then
    k231 true
   else
    bif (!(blocks_1.2.1 == blocks_2.2.1)) then
     k231 true
    else
     bif (decide (blocks_1.2.2 ≠ blocks_2.2.2)) then
      k231 true
     else
      bif (!(stable_1.1 == stable_2.1)) then
       k231 true
      else
       bif (decide (stable_1.2 ≠ stable_2.2)) then
        k231 true
       else
        (m22_coalition_Check (⟨(IntKind.wrap .i64 (r_.slots + 1)), r_.owners, v_3⟩ : XRound)).bind fun check_1 =>
        k231 (decide (check_1 ≠ 0)))

def m6_overflightlaw37_CoalitionFree (r_ : XRound) (slots : List Int) (group : List Int) : Option Bool :=
 (m15_overflightlaw37_sane).bind fun sane_1 =>
 bif (!sane_1) then
  some false
 else
  jn (fun (v_1 : Bool) =>
   bif v_1 then
    some true
   else
    loop2 (m6_overflightlaw37_CoalitionFree_B0 r_ slots group) (((r_.costs.length : Int) - 0).toNat + 1) 0 ([] : List (List Int)))
  (fun k19 =>
   (m16_overflightref37_Few r_).bind fun few_1 =>
   bif (!few_1) then
    k19 true
   else
    bif (decide (20 < (slots.length : Int))) then
     k19 true
    else
     bif (decide (20 < (group.length : Int))) then
      k19 true
     else
      (m22_coalition_Check r_).bind fun check_2 =>
      bif (decide (check_2 ≠ 0)) then
       k19 true
      else
       k19 (decide (8 ≤ r_.slots)))

theorem c6_overflightlaw37_CoalitionFree {w : World} {O : List Nat} {r_ : XRound} {slots : List Int} {group : List Int} {a_r__owners : Option Addr} {c_r__owners : Nat} {a_r__costs : Option Addr} {c_r__costs : Nat} {a_slots : Option Addr} {c_slots : Nat} {a_group : Option Addr} {c_group : Nat} (hO : ∀ k ∈ O, k < w.heap.size) (r_r__slots : InK .i64 r_.slots) (f_r__owners : SlR (rInt .i64) w O a_r__owners c_r__owners r_.owners) (f_r__costs : SlR (rSl (rInt .i64)) w O a_r__costs c_r__costs r_.costs) (f_slots : SlR (rInt .i64) w O a_slots c_slots slots) (f_group : SlR (rInt .i64) w O a_group c_group group) {x : Bool} (hm : m6_overflightlaw37_CoalitionFree r_ slots group = some x) :
  Ok Try.prog 6 [(Value.agg [(Value.int .i64 r_.slots), (Value.slice a_r__owners r_.owners.length c_r__owners), (Value.slice a_r__costs r_.costs.length c_r__costs)].toArray), (Value.slice a_slots slots.length c_slots), (Value.slice a_group group.length c_group)] w O vB x := by
 unfold m6_overflightlaw37_CoalitionFree at hm
 refine Fn_of_Wp (n := 146) (xs := [.tmp 6]) Try.func6 rfl Try.ntmps6 Try.results6 rfl ?_
 have hs := St.start hO
 refine Wp_seq ?_
 refine Wp_region ?_
 refine Rg_op rfl (op_box (cs := [(Value.int .i64 r_.slots), (Value.slice a_r__owners r_.owners.length c_r__owners), (Value.slice a_r__costs r_.costs.length c_r__costs)]) hs rfl rfl ?_)
 intro b1 w2 _ p3 hs4
 replace f_r__owners := f_r__owners.step p3; replace f_r__costs := f_r__costs.step p3; replace f_slots := f_slots.step p3; replace f_group := f_group.step p3; clear p3
 refine Rg_op rfl (op_assign (v := (Value.bool false)) rfl ?_)
 refine Rg_nil ?_
 refine Wp_seq ?_
 refine Wp_seq ?_
 refine Wp_region ?_
 replace hm := bd hm; obtain ⟨sane_1, hv6, hm⟩ := hm
 refine Rg_op rfl (op_call Try.call15 (c15_overflightlaw37_sane  hs4.ltw  hv6) rfl ?_)
 rintro v7 w8 ⟨hx9, h10⟩
 have hs11 := hs4.call hx9
 have p12 := Step.ext (O := ks [(some b1, Obj.cells [(Value.int .i64 r_.slots), (Value.slice a_r__owners r_.owners.length c_r__owners), (Value.slice a_r__costs r_.costs.length c_r__costs)].toArray 25)] O) hx9
 clear hx9
 replace f_r__owners := f_r__owners.step p12; replace f_r__costs := f_r__costs.step p12; replace f_slots := f_slots.step p12; replace f_group := f_group.step p12; clear p12 hs4
 obtain rfl := h10
 refine Rg_op rfl (op_not rfl ?_)
 refine Rg_nil ?_
 refine Wp_cond rfl (fun hc14 => ?_) (fun hc14 => ?_)
 ·
  replace hm := bif_t hm hc14
  refine Wp_seq ?_
  obtain ⟨hs15, p16⟩ := hs11.sub (bs' := []) (.cons _ List.Sublist.slnil)
  clear f_r__owners f_r__costs f_slots f_group
  clear p16 hs11
  refine Wp_region ?_
  refine Rg_op rfl (op_assign (v := (Value.bool false)) rfl ?_)
  refine Rg_nil ?_
  refine Wp_ret ?_
  have hz := step_all hs15
  refine ⟨_, (show Closes [] _ _ from rfl), [(Value.bool false)], ⟨rfl, trivial⟩, hs15.ext, ?_⟩
  exact Vr.eq (a := vB) (x := false) rfl (Option.some.inj hm)
 ·
  replace hm := bif_f hm hc14
  refine Wp_skip ?_
  refine Wp_seq ?_
  refine Wp_reset [] [(1, (Value.slice a_slots slots.length c_slots)), (2, (Value.slice a_group group.length c_group)), (3, (Value.pointer (some ⟨b1, 0, none⟩)))] rfl ⟨rfl, rfl, rfl, trivial⟩ fun ξ17 => ?_
  replace hm := jn_elim hm; obtain ⟨k19, hk20, hm⟩ := hm
  refine Wp_seqJ [24, 25, 26, 27, 28, 29, 30, 31, 32, 33, 34, 35, 36, 37, 38, 39, 40, 41, 42, 43, 44, 45, 46] (fun fr w' => ∃ (v_1 : Bool) (Ebs : Ents), Ebs = [(some b1, Obj.cells [(Value.int .i64 r_.slots), (Value.slice a_r__owners r_.owners.length c_r__owners), (Value.slice a_r__costs r_.costs.length c_r__costs)].toArray 25)] ∧ fr [] [(46, (Value.bool v_1))] ∧ Step (ks [(some b1, Obj.cells [(Value.int .i64 r_.slots), (Value.slice a_r__owners r_.owners.length c_r__owners), (Value.slice a_r__costs r_.costs.length c_r__costs)].toArray 25)] O) w8 (ks Ebs O) w' ∧ St ⟨w, [], []⟩ O w' Ebs ∧ k19 v_1 = some x) ?_ ?_
  ·
   rintro ρ26 w22 ⟨v_1, Ebs, hEbs, hfr25, hst24, hs23, hm⟩
   replace hm := jnE1 hk20 hm
   subst hEbs; rw [hfr25.eq]; clear hfr25
   replace f_r__owners := f_r__owners.step hst24; replace f_r__costs := f_r__costs.step hst24; replace f_slots := f_slots.step hst24; replace f_group := f_group.step hst24; clear hst24 hs11
   refine Wp_cond rfl (fun hc27 => ?_) (fun hc27 => ?_)
   ·
    replace hm := bif_t hm hc27
    refine Wp_seq ?_
    obtain ⟨hs28, p29⟩ := hs23.sub (bs' := []) (.cons _ List.Sublist.slnil)
    clear f_r__owners f_r__costs f_slots f_group
    clear p29 hs23
    refine Wp_region ?_
    refine Rg_op rfl (op_assign (v := (Value.bool true)) rfl ?_)
    refine Rg_nil ?_
    refine Wp_ret ?_
    have hz := step_all hs28
    refine ⟨_, (show Closes [] _ _ from rfl), [(Value.bool true)], ⟨rfl, trivial⟩, hs28.ext, ?_⟩
    exact Vr.eq (a := vB) (x := true) rfl (Option.some.inj hm)
   ·
    replace hm := bif_f hm hc27
    refine Wp_skip ?_
    refine Wp_seq ?_
    refine Wp_region ?_
    refine Rg_op rfl (op_loadA (cs := [(Value.int .i64 r_.slots), (Value.slice a_r__owners r_.owners.length c_r__owners), (Value.slice a_r__costs r_.costs.length c_r__costs)]) (vs := [(Value.int .i64 r_.slots), (Value.slice a_r__owners r_.owners.length c_r__owners), (Value.slice a_r__costs r_.costs.length c_r__costs)]) (i := 0) ty25 hs23 rfl rfl rfl rfl ?_)
    refine Rg_op rfl (op_alloc ty25 hs23 ?_)
    intro b30 w31 _ p32 hs33
    replace f_r__owners := f_r__owners.step p32; replace f_r__costs := f_r__costs.step p32; replace f_slots := f_slots.step p32; replace f_group := f_group.step p32; clear p32 hs23
    refine Rg_op_ (op_store (cs := [(Value.int .i64 0), (Value.slice none 0 0), (Value.slice none 0 0)]) (vs := [(Value.int .i64 r_.slots), (Value.slice a_r__owners r_.owners.length c_r__owners), (Value.slice a_r__costs r_.costs.length c_r__costs)]) (cs' := [(Value.int .i64 r_.slots), (Value.slice a_r__owners r_.owners.length c_r__owners), (Value.slice a_r__costs r_.costs.length c_r__costs)]) (bs' := [(some b30, Obj.cells [(Value.int .i64 r_.slots), (Value.slice a_r__owners r_.owners.length c_r__owners), (Value.slice a_r__costs r_.costs.length c_r__costs)].toArray 25), (some b1, Obj.cells [(Value.int .i64 r_.slots), (Value.slice a_r__owners r_.owners.length c_r__owners), (Value.slice a_r__costs r_.costs.length c_r__costs)].toArray 25)]) (i := 0) ty25 hs33 rfl rfl rfl rfl rfl (le_lit rfl) rfl rfl rfl ?_)
    intro w35 p36 hs37
    replace f_r__owners := f_r__owners.step p36; replace f_r__costs := f_r__costs.step p36; replace f_slots := f_slots.step p36; replace f_group := f_group.step p36; clear p36 hs33
    refine Rg_nil ?_
    refine Wp_seq ?_
    refine Wp_region ?_
    refine Rg_op rfl (op_fieldAddr ty25 rfl ty3 (by decide) rfl (rfl : _ = (⟨_, 0, none⟩ : Addr)) ?_)
    refine Rg_op rfl (op_load (cs := [(Value.int .i64 r_.slots), (Value.slice a_r__owners r_.owners.length c_r__owners), (Value.slice a_r__costs r_.costs.length c_r__costs)]) (i := 0) ty3 hs37 rfl rfl rfl ?_)
    refine Rg_op rfl (op_addw rfl rfl ?_)
    refine Rg_op rfl (op_fieldAddr ty25 rfl ty3 (by decide) rfl (rfl : _ = (⟨_, 0, none⟩ : Addr)) ?_)
    refine Rg_op_ (op_store (cs := [(Value.int .i64 r_.slots), (Value.slice a_r__owners r_.owners.length c_r__owners), (Value.slice a_r__costs r_.costs.length c_r__costs)]) (vs := [(Value.int .i64 (IntKind.wrap .i64 (r_.slots + 1)))]) (cs' := [(Value.int .i64 (IntKind.wrap .i64 (r_.slots + 1))), (Value.slice a_r__owners r_.owners.length c_r__owners), (Value.slice a_r__costs r_.costs.length c_r__costs)]) (bs' := [(some b30, Obj.cells [(Value.int .i64 (IntKind.wrap .i64 (r_.slots + 1))), (Value.slice a_r__owners r_.owners.length c_r__owners), (Value.slice a_r__costs r_.costs.length c_r__costs)].toArray 25), (some b1, Obj.cells [(Value.int .i64 r_.slots), (Value.slice a_r__owners r_.owners.length c_r__owners), (Value.slice a_r__costs r_.costs.length c_r__costs)].toArray 25)]) (i := 0) ty3 hs37 rfl rfl rfl rfl rfl (le_lit rfl) rfl rfl rfl ?_)
    intro w38 p39 hs40
    replace f_r__owners := f_r__owners.step p39; replace f_r__costs := f_r__costs.step p39; replace f_slots := f_slots.step p39; replace f_group := f_group.step p39; clear p39 hs37
    refine Rg_nil ?_
    refine Wp_seq ?_
    refine Wp_region ?_
    refine Rg_op rfl (op_fieldAddr ty25 rfl ty23 (by decide) rfl (rfl : _ = (⟨_, 2, none⟩ : Addr)) ?_)
    refine Rg_op_ (op_store (cs := [(Value.int .i64 (IntKind.wrap .i64 (r_.slots + 1))), (Value.slice a_r__owners r_.owners.length c_r__owners), (Value.slice a_r__costs r_.costs.length c_r__costs)]) (vs := [(Value.slice none 0 0)]) (cs' := [(Value.int .i64 (IntKind.wrap .i64 (r_.slots + 1))), (Value.slice a_r__owners r_.owners.length c_r__owners), (Value.slice none 0 0)]) (bs' := [(some b30, Obj.cells [(Value.int .i64 (IntKind.wrap .i64 (r_.slots + 1))), (Value.slice a_r__owners r_.owners.length c_r__owners), (Value.slice none 0 0)].toArray 25), (some b1, Obj.cells [(Value.int .i64 r_.slots), (Value.slice a_r__owners r_.owners.length c_r__owners), (Value.slice a_r__costs r_.costs.length c_r__costs)].toArray 25)]) (i := 0) ty23 hs40 rfl rfl rfl rfl rfl (le_lit rfl) rfl rfl rfl ?_)
    intro w41 p42 hs43
    replace f_r__owners := f_r__owners.step p42; replace f_r__costs := f_r__costs.step p42; replace f_slots := f_slots.step p42; replace f_group := f_group.step p42; clear p42 hs40
    refine Rg_nil ?_
    refine Wp_seq ?_
    refine Wp_seq ?_
    refine Wp_region ?_
    refine Rg_op rfl (op_fieldAddr ty25 rfl ty23 (by decide) rfl (rfl : _ = (⟨_, 2, none⟩ : Addr)) ?_)
    refine Rg_op rfl (op_load (cs := [(Value.int .i64 r_.slots), (Value.slice a_r__owners r_.owners.length c_r__owners), (Value.slice a_r__costs r_.costs.length c_r__costs)]) (i := 1) ty23 hs43 rfl rfl rfl ?_)
    refine Rg_op rfl (op_len Try.underlying23 rfl ?_)
    have rl44 := inK_len f_r__costs
    refine Rg_op rfl (op_move (v := (Value.int .i64 0)) rfl ?_)
    refine Rg_nil ?_
    refine Wp_block ?_
    refine Wp_reset [] [(1, (Value.slice a_slots slots.length c_slots)), (2, (Value.slice a_group group.length c_group)), (3, (Value.pointer (some ⟨b1, 0, none⟩))), (7, (Value.pointer (some ⟨b30, 0, none⟩))), (54, (Value.slice a_r__costs r_.costs.length c_r__costs)), (55, (Value.int .i64 (r_.costs.length : Int))), (56, (Value.int .i64 0))] rfl ⟨rfl, rfl, rfl, rfl, rfl, rfl, rfl, trivial⟩ fun ξ48 => ?_
    have hs53 := hs43.ghost (Obj.cells #[] 22)
    refine Wp_loopM [9, 56, 57, 58, 59, 60, 61, 62, 63, 64, 65, 66, 67, 68, 69, 70] (fun m fr w' => ∃ (v_2 : Int) (v_3 : List (List Int)) (a_g47 : Option Addr) (c_g47 : Nat) (k_g47 : Option Nat) (o_g47 : Obj) (Ebs : Ents), Ebs = [(k_g47, o_g47), (some b30, Obj.cells [(Value.int .i64 (IntKind.wrap .i64 (r_.slots + 1))), (Value.slice a_r__owners r_.owners.length c_r__owners), (Value.slice a_g47 v_3.length c_g47)].toArray 25), (some b1, Obj.cells [(Value.int .i64 r_.slots), (Value.slice a_r__owners r_.owners.length c_r__owners), (Value.slice a_r__costs r_.costs.length c_r__costs)].toArray 25)] ∧ fr [] [(56, (Value.int .i64 v_2))] ∧ Step (ks [(none, (Obj.cells #[] 22)), (some b30, Obj.cells [(Value.int .i64 (IntKind.wrap .i64 (r_.slots + 1))), (Value.slice a_r__owners r_.owners.length c_r__owners), (Value.slice none 0 0)].toArray 25), (some b1, Obj.cells [(Value.int .i64 r_.slots), (Value.slice a_r__owners r_.owners.length c_r__owners), (Value.slice a_r__costs r_.costs.length c_r__costs)].toArray 25)] O) w41 (ks Ebs O) w' ∧ St ⟨w, [], []⟩ O w' Ebs ∧ InK .i64 v_2 ∧ Gs (rSl (rInt .i64)) 22 w' (ks Ebs O) a_g47 c_g47 v_3 k_g47 o_g47 ∧ loop2 (m6_overflightlaw37_CoalitionFree_B0 r_ slots group) m v_2 v_3 = some x) (((r_.costs.length : Int) - 0).toNat + 1) ⟨0, ([] : List (List Int)), none, 0, none, (Obj.cells #[] 22), _, rfl, ⟨Out.refl _ _, rfl, rfl, trivial⟩, Step.refl _ _, hs53, (show InK .i64 0 from by decide), Gs.nil_, hm⟩ ?_ ?_
    · rintro _ _ ⟨_, _, _, _, _, _, _, _, _, _, _, _, _, hm⟩; exact loop2_z hm
    ·
     rintro m52 K51 hK51 ρ59 w55 ⟨v_2, v_3, a_g47, c_g47, k_g47, o_g47, Ebs, hEbs, hfr58, hst57, hs56, r_y45, f_g47, hm⟩
     obtain ⟨sf49, hsf50, hm⟩ := loop2_s hm; unfold m6_overflightlaw37_CoalitionFree_B0 at hm
     subst hEbs; rw [hfr58.eq]; clear hfr58
     replace f_r__owners := f_r__owners.step hst57; replace f_r__costs := f_r__costs.step hst57; replace f_slots := f_slots.step hst57; replace f_group := f_group.step hst57
     have ch60 := hst57
     refine Wp_seq ?_
     refine Wp_region ?_
     refine Rg_op rfl (op_lss rfl rfl ?_)
     refine Rg_nil ?_
     refine Wp_seq ?_
     refine Wp_cond rfl (fun hc61 => ?_) (fun hc61 => ?_)
     ·
      replace hm := bif_t hm hc61
      refine Wp_skip ?_
      refine Wp_seq ?_
      refine Wp_block ?_
      refine Wp_seq ?_
      refine Wp_region ?_
      replace hm := ck_some hm; obtain ⟨hc62, hm⟩ := hm
      refine Rg_op rfl (op_indexAddr (q := (rSl (rInt .i64))) ty23 ty22 rfl rfl f_r__costs rfl hc62.1 hc62.2 ?_)
      intro p63 f64
      refine Rg_op rfl (op_loadP ty22 rfl f64 rfl ?_)
      intro v65 h66
      obtain ⟨a_y67, c_y67, rfl, f_y67⟩ := un_sl h66
      refine Rg_op rfl (op_assign (v := (Value.slice a_y67 (r_.costs.getD v_2.toNat default).length c_y67)) rfl ?_)
      refine Rg_nil ?_
      clear f64
      refine Wp_drawR (g0 := ([], [])) (m := 8) (fl := []) (TX_inv (eat := (fun t : Nat => if t = 2 then 4 else if t = 4 then 6 else if t = 6 then 7 else 1000)) hs56) rfl (.inl rfl) rfl (by decide +kernel) ?_  -- 11
      refine Dw_eq (Value.pointer (some ⟨b30, 2, none⟩)) (fun ρ68 w69 g hle hi ht => ?_) ?_
      ·
       obtain ⟨-, hst, -⟩ := hle
       obtain ⟨hi, hi2⟩ := hi
       refine StepOp_plain (op_fieldAddr ty25 rfl ty23 (by decide) (ht 7 rfl) (rfl : _ = (⟨_, 2, none⟩ : Addr)) ?_)
       exact GoesX.same hi hi2 rfl
      refine Dw_eq (Value.slice a_g47 v_3.length c_g47) (fun ρ71 w72 g hle hi ht => ?_) ?_
      ·
       obtain ⟨-, hst, -⟩ := hle
       obtain ⟨hi, hi2⟩ := hi
       have hsn := (Step.nxX hi).1
       refine StepOp_plain (op_load (cs := [(Value.int .i64 (IntKind.wrap .i64 (r_.slots + 1))), (Value.slice a_r__owners r_.owners.length c_r__owners), (Value.slice a_g47 v_3.length c_g47)]) (i := 1) ty23 hsn (ht 60 rfl) rfl rfl ?_)
       exact GoesX.same hi hi2 rfl
      refine Dw_opN (XG O [(k_g47, o_g47), (some b30, Obj.cells [(Value.int .i64 (IntKind.wrap .i64 (r_.slots + 1))), (Value.slice a_r__owners r_.owners.length c_r__owners), (Value.slice a_g47 v_3.length c_g47)].toArray 25), (some b1, Obj.cells [(Value.int .i64 r_.slots), (Value.slice a_r__owners r_.owners.length c_r__owners), (Value.slice a_r__costs r_.costs.length c_r__costs)].toArray 25)] (fun t : Nat => if t = 2 then 4 else if t = 4 then 6 else if t = 6 then 7 else 1000) 2 (rInt .i64) 3 ([] : List Int)) (XG.stab _ _ _ _) (fun ρ74 w75 g hle hi hk ht => ?_) ?_
      ·
       obtain ⟨-, hst, -⟩ := hle
       obtain ⟨hi, hi2⟩ := hi
       replace f_r__owners := f_r__owners.step hst; replace f_r__costs := f_r__costs.step hst; replace f_slots := f_slots.step hst; replace f_group := f_group.step hst; replace f_g47 := f_g47.step hst; replace f_y67 := f_y67.step hst
       refine StepOp_plain (op_buildSlice (cs := []) (parts := []) ty22 ty3 hi (by decide) (by simp only [List.map]; rfl) ?_)
       intro b77 w78 hx81 p79 hs80
       replace f_r__owners := f_r__owners.step p79; replace f_r__costs := f_r__costs.step p79; replace f_slots := f_slots.step p79; replace f_group := f_group.step p79; replace f_g47 := f_g47.step p79; replace f_y67 := f_y67.step p79
       exact GoesX.own (xs := ([] : List Int)) hi2 p79 hs80 (Gs.of_cells (p := (rInt .i64)) (e := 3) (bl := b77) (c := 0) (show Els (rInt .i64) _ _ [] [] from Els.nil) rfl (le_lit rfl)) rfl
      refine Dw_eq (Value.slice a_y67 (r_.costs.getD v_2.toNat default).length c_y67) (fun ρ84 w85 g hle hi ht => ?_) ?_
      ·
       obtain ⟨-, hst, -⟩ := hle
       obtain ⟨hi, hi2⟩ := hi
       refine StepOp_plain (op_move (v := (Value.slice a_y67 (r_.costs.getD v_2.toNat default).length c_y67)) (ht 9 rfl) ?_)
       exact GoesX.same hi hi2 rfl
      replace hm := ck_some hm; obtain ⟨hc90, hm⟩ := hm
      refine Dw_opN (XG O [(k_g47, o_g47), (some b30, Obj.cells [(Value.int .i64 (IntKind.wrap .i64 (r_.slots + 1))), (Value.slice a_r__owners r_.owners.length c_r__owners), (Value.slice a_g47 v_3.length c_g47)].toArray 25), (some b1, Obj.cells [(Value.int .i64 r_.slots), (Value.slice a_r__owners r_.owners.length c_r__owners), (Value.slice a_r__costs r_.costs.length c_r__costs)].toArray 25)] (fun t : Nat => if t = 2 then 4 else if t = 4 then 6 else if t = 6 then 7 else 1000) 4 (rInt .i64) 3 (([] : List Int) ++ (r_.costs.getD v_2.toNat default))) (XG.stab _ _ _ _) (fun ρ87 w88 g hle hi hk ht => ?_) ?_
      ·
       obtain ⟨-, hst, -⟩ := hle
       obtain ⟨hi, hi2⟩ := hi
       replace f_y67 := f_y67.step hst
       obtain ⟨ns91, he92, hr93⟩ := f_y67.src
       refine StepOp_plain (op_appendX (q := (rInt .i64)) (xs := ([] : List Int)) (ys := (r_.costs.getD v_2.toNat default)) (news := ns91) (tag := 2) ty22 ty3 rfl (by decide) hi hi2 hk rfl (le_lit rfl) (ht 62 rfl) (ht 63 rfl) hr93 he92 hc90 (by have := hc90; simp only [maxLen]; omega))
      refine Dw_op (XD O [(k_g47, o_g47), (some b30, Obj.cells [(Value.int .i64 (IntKind.wrap .i64 (r_.slots + 1))), (Value.slice a_r__owners r_.owners.length c_r__owners), (Value.slice a_g47 v_3.length c_g47)].toArray 25), (some b1, Obj.cells [(Value.int .i64 r_.slots), (Value.slice a_r__owners r_.owners.length c_r__owners), (Value.slice a_r__costs r_.costs.length c_r__costs)].toArray 25)] (vC (rSl (rInt .i64))) [(-1)]) (XD.stab _ _) (fun ρ94 w95 g hle hi ht => ?_) ?_
      ·
       obtain ⟨-, hst, -⟩ := hle
       obtain ⟨hi, hi2⟩ := hi
       replace f_r__owners := f_r__owners.step hst; replace f_r__costs := f_r__costs.step hst; replace f_slots := f_slots.step hst; replace f_group := f_group.step hst; replace f_g47 := f_g47.step hst; replace f_y67 := f_y67.step hst
       refine StepOp_plain (op_buildSlice (cs := [(Value.int .i64 (-1))]) (parts := [(0, .const (.int .i64 (-1)))]) ty22 ty3 hi (by decide) (by simp only [List.map, (show ev _ (.const (.int .i64 (-1))) = .int .i64 (-1) from rfl)]; rfl) ?_)
       intro b97 w98 hx101 p99 hs100
       replace f_r__owners := f_r__owners.step p99; replace f_r__costs := f_r__costs.step p99; replace f_slots := f_slots.step p99; replace f_group := f_group.step p99; replace f_g47 := f_g47.step p99; replace f_y67 := f_y67.step p99
       obtain ⟨hs103, p104, f105⟩ := St.publish (q := (rInt .i64)) (i := 0) (o := 0) (c := 1) (xs := [(-1)]) hs100 rfl (show Els (rInt .i64) _ _ [(Value.int .i64 (-1))] [(-1)] from ⟨_, _, rfl, (mk_int (show InK .i64 (-1) from by decide)), Els.nil⟩) (le_lit rfl) (le_lit rfl) (le_lit rfl)
       exact GoesX.pub hi hi2 hs103 (Step.trans p99 p104) hx101 (show Vr.vd (vC (rSl (rInt .i64))) _ _ _ _ from mkC (mk_sl f105))
      replace hm := ck_some hm; obtain ⟨hc112, hm⟩ := hm
      refine Dw_opN (XG O [(k_g47, o_g47), (some b30, Obj.cells [(Value.int .i64 (IntKind.wrap .i64 (r_.slots + 1))), (Value.slice a_r__owners r_.owners.length c_r__owners), (Value.slice a_g47 v_3.length c_g47)].toArray 25), (some b1, Obj.cells [(Value.int .i64 r_.slots), (Value.slice a_r__owners r_.owners.length c_r__owners), (Value.slice a_r__costs r_.costs.length c_r__costs)].toArray 25)] (fun t : Nat => if t = 2 then 4 else if t = 4 then 6 else if t = 6 then 7 else 1000) 6 (rInt .i64) 3 ((([] : List Int) ++ (r_.costs.getD v_2.toNat default)) ++ [(-1)])) (XG.stab _ _ _ _) (fun ρ106 w107 g hle hi hk ht => ?_) ?_
      ·
       obtain ⟨-, hst, -⟩ := hle
       obtain ⟨hi, hi2⟩ := hi
       have h109 : Vr.vd (vC (rSl (rInt .i64))) _ _ _ _ := ht 65 rfl
       obtain ⟨a_y111, c_y111, q110, f_y111⟩ := un_sl h109
       obtain ⟨ns113, he114, hr115⟩ := f_y111.src
       refine StepOp_plain (op_appendX (q := (rInt .i64)) (xs := (([] : List Int) ++ (r_.costs.getD v_2.toNat default))) (ys := [(-1)]) (news := ns113) (tag := 4) ty22 ty3 rfl (by decide) hi hi2 hk rfl (le_lit rfl) (ht 64 rfl) q110 hr115 he114 hc112 (by have := hc112; simp only [maxLen]; omega))
      refine Dw_opN (XD O [(k_g47, o_g47), (some b30, Obj.cells [(Value.int .i64 (IntKind.wrap .i64 (r_.slots + 1))), (Value.slice a_r__owners r_.owners.length c_r__owners), (Value.slice a_g47 v_3.length c_g47)].toArray 25), (some b1, Obj.cells [(Value.int .i64 r_.slots), (Value.slice a_r__owners r_.owners.length c_r__owners), (Value.slice a_r__costs r_.costs.length c_r__costs)].toArray 25)] (vC (rSl (rSl (rInt .i64)))) [((([] : List Int) ++ (r_.costs.getD v_2.toNat default)) ++ [(-1)])]) (XD.stab _ _) (fun ρ116 w117 g hle hi hk ht => ?_) ?_
      ·
       obtain ⟨-, hst, -⟩ := hle
       obtain ⟨hi, hi2⟩ := hi
       replace f_r__owners := f_r__owners.step hst; replace f_r__costs := f_r__costs.step hst; replace f_slots := f_slots.step hst; replace f_group := f_group.step hst; replace f_g47 := f_g47.step hst; replace f_y67 := f_y67.step hst
       obtain ⟨a119, c120, g, q121, hi, hi2, hlx, hdx, f122⟩ := takeX (eat := (fun t : Nat => if t = 2 then 4 else if t = 4 then 6 else if t = 6 then 7 else 1000)) (tag := 6) hi hi2 hk rfl (le_lit rfl) (ht 66 rfl)
       have px123 := hlx.2.1
       replace f_r__owners := f_r__owners.step px123; replace f_r__costs := f_r__costs.step px123; replace f_slots := f_slots.step px123; replace f_group := f_group.step px123; replace f_g47 := f_g47.step px123; replace f_y67 := f_y67.step px123
       refine StepOp_plain (op_buildSlice (cs := [(Value.slice a119 ((([] : List Int) ++ (r_.costs.getD v_2.toNat default)) ++ [(-1)]).length c120)]) (parts := [(0, .tmp 66)]) ty23 ty22 hi (by decide) (by simp only [List.map, (show ev _ (.tmp 66) = _ from q121)]; rfl) ?_)
       intro b124 w125 hx128 p126 hs127
       replace f_r__owners := f_r__owners.step p126; replace f_r__costs := f_r__costs.step p126; replace f_slots := f_slots.step p126; replace f_group := f_group.step p126; replace f_g47 := f_g47.step p126; replace f_y67 := f_y67.step p126; replace f122 := f122.step p126
       have hs130e := (show Els (rSl (rInt .i64)) _ _ [(Value.slice a119 ((([] : List Int) ++ (r_.costs.getD v_2.toNat default)) ++ [(-1)]).length c120)] [((([] : List Int) ++ (r_.costs.getD v_2.toNat default)) ++ [(-1)])] from ⟨_, _, rfl, (mk_sl f122), Els.nil⟩)
       obtain ⟨hs130, p131, f132⟩ := St.publish (q := (rSl (rInt .i64))) (i := 0) (o := 0) (c := 1) (xs := [((([] : List Int) ++ (r_.costs.getD v_2.toNat default)) ++ [(-1)])]) hs127 rfl hs130e (le_lit rfl) (le_lit rfl) (le_lit rfl)
       exact GoesX.take hlx hdx (GoesX.pub hi hi2 hs130 (Step.trans p126 p131) hx128 (show Vr.vd (vC (rSl (rSl (rInt .i64)))) _ _ _ _ from mkC (mk_sl f132)))
      refine Dw_nil fun w137 g138 hl139 hi140 => ?_
      obtain ⟨-, hst141, -⟩ := hl139
      obtain ⟨hi140, hi144⟩ := hi140
      obtain ⟨hs143, p142⟩ := Step.nxX hi140
      rintro v145 h146
      replace h146 : Vr.vd (vC (rSl (rSl (rInt .i64)))) _ _ _ _ := h146
      obtain ⟨a_y147, c_y147, rfl, f_y147⟩ := un_sl h146
      rintro _ -
      rintro v148 h149
      replace h149 : Vr.vd (vC (rSl (rInt .i64))) _ _ _ _ := h149
      obtain ⟨a_y150, c_y150, rfl, f_y150⟩ := un_sl h149
      rintro _ -
      rintro _ rfl
      rintro _ -
      rintro _ rfl
      rintro _ rfl
      have p151 : Step (ks [(k_g47, o_g47), (some b30, Obj.cells [(Value.int .i64 (IntKind.wrap .i64 (r_.slots + 1))), (Value.slice a_r__owners r_.owners.length c_r__owners), (Value.slice a_g47 v_3.length c_g47)].toArray 25), (some b1, Obj.cells [(Value.int .i64 r_.slots), (Value.slice a_r__owners r_.owners.length c_r__owners), (Value.slice a_r__costs r_.costs.length c_r__costs)].toArray 25)] O) w55 (ks [(k_g47, o_g47), (some b30, Obj.cells [(Value.int .i64 (IntKind.wrap .i64 (r_.slots + 1))), (Value.slice a_r__owners r_.owners.length c_r__owners), (Value.slice a_g47 v_3.length c_g47)].toArray 25), (some b1, Obj.cells [(Value.int .i64 r_.slots), (Value.slice a_r__owners r_.owners.length c_r__owners), (Value.slice a_r__costs r_.costs.length c_r__costs)].toArray 25)] O) w137 := hst141.trans p142
      replace f_y147 := f_y147.step p142; replace f_y150 := f_y150.step p142; replace f_r__owners := f_r__owners.step p151; replace f_r__costs := f_r__costs.step p151; replace f_slots := f_slots.step p151; replace f_group := f_group.step p151; replace f_g47 := f_g47.step p151; replace f_y67 := f_y67.step p151; replace ch60 := ch60.trans p151; clear p151 hs56
      replace hm := ck_some hm; obtain ⟨hc152, hm⟩ := hm
      obtain ⟨ns153, he154, hr155⟩ := f_y147.src
      refine Rg_op rfl (op_append (q := (rSl (rInt .i64))) (i := 0) (xs := v_3) (ys := [((([] : List Int) ++ (r_.costs.getD v_2.toNat default)) ++ [(-1)])]) (news := ns153) ty23 ty22 rfl (by decide) hs143 rfl rfl f_g47 rfl hr155 he154 hc152 (by have := hc152; simp only [maxLen]; omega) ?_)
      intro a159 c160 k161 o162 w156 p157 hs158 f163
      replace f_r__owners := f_r__owners.step p157; replace f_r__costs := f_r__costs.step p157; replace f_slots := f_slots.step p157; replace f_group := f_group.step p157; replace f_y67 := f_y67.step p157; replace f_y147 := f_y147.step p157; replace f_y150 := f_y150.step p157; replace ch60 := ch60.trans p157; clear p157 hs143
      refine Rg_op rfl (op_fieldAddr ty25 rfl ty23 (by decide) rfl (rfl : _ = (⟨_, 2, none⟩ : Addr)) ?_)
      refine Rg_op_ (op_store (cs := [(Value.int .i64 (IntKind.wrap .i64 (r_.slots + 1))), (Value.slice a_r__owners r_.owners.length c_r__owners), (Value.slice a_g47 v_3.length c_g47)]) (vs := [(Value.slice a159 (v_3 ++ [((([] : List Int) ++ (r_.costs.getD v_2.toNat default)) ++ [(-1)])]).length c160)]) (cs' := [(Value.int .i64 (IntKind.wrap .i64 (r_.slots + 1))), (Value.slice a_r__owners r_.owners.length c_r__owners), (Value.slice a159 (v_3 ++ [((([] : List Int) ++ (r_.costs.getD v_2.toNat default)) ++ [(-1)])]).length c160)]) (bs' := [(k161, o162), (some b30, Obj.cells [(Value.int .i64 (IntKind.wrap .i64 (r_.slots + 1))), (Value.slice a_r__owners r_.owners.length c_r__owners), (Value.slice a159 (v_3 ++ [((([] : List Int) ++ (r_.costs.getD v_2.toNat default)) ++ [(-1)])]).length c160)].toArray 25), (some b1, Obj.cells [(Value.int .i64 r_.slots), (Value.slice a_r__owners r_.owners.length c_r__owners), (Value.slice a_r__costs r_.costs.length c_r__costs)].toArray 25)]) (i := 1) ty23 hs158 rfl rfl rfl rfl rfl (le_lit rfl) rfl rfl rfl ?_)
      intro w164 p165 hs166
      replace f_r__owners := f_r__owners.step p165; replace f_r__costs := f_r__costs.step p165; replace f_slots := f_slots.step p165; replace f_group := f_group.step p165; replace f_y67 := f_y67.step p165; replace f_y147 := f_y147.step p165; replace f_y150 := f_y150.step p165; replace f163 := f163.step p165; replace ch60 := ch60.trans p165; clear p165 hs158
      refine Rg_nil ?_
      clear f_y67 f_y147 f_y150
      refine Wp_region ?_
      refine Rg_op rfl (op_addw rfl rfl ?_)
      refine Rg_op rfl (op_move (v := (Value.int .i64 (IntKind.wrap .i64 (v_2 + 1)))) rfl ?_)
      refine Rg_nil ?_
      exact hK51 _ _ ⟨(IntKind.wrap .i64 (v_2 + 1)), (v_3 ++ [((([] : List Int) ++ (r_.costs.getD v_2.toNat default)) ++ [(-1)])]), a159, c160, k161, o162, _, rfl, ⟨(by repeat (first | with_reducible exact Out.refl _ _ | refine Out.upd ?_ rfl | refine Out.updL ?_ rfl | refine Out.mix' ?_ rfl | exact Out.refl _ _)), rfl, rfl, trivial⟩, ch60, hs166, (inK_wrap .i64 _), f163, jnE2 hsf50 hm⟩
     ·
      replace hm := bif_f hm hc61
      refine Wp_exit ?_
      refine Wp_seq ?_
      refine Wp_region ?_
      refine Rg_op rfl (op_loadA (cs := [(Value.int .i64 r_.slots), (Value.slice a_r__owners r_.owners.length c_r__owners), (Value.slice a_r__costs r_.costs.length c_r__costs)]) (vs := [(Value.int .i64 r_.slots), (Value.slice a_r__owners r_.owners.length c_r__owners), (Value.slice a_r__costs r_.costs.length c_r__costs)]) (i := 2) ty25 hs56 rfl rfl rfl rfl ?_)
      refine Rg_op rfl (op_move (v := (Value.slice a_slots slots.length c_slots)) rfl ?_)
      refine Rg_op rfl (op_move (v := (Value.slice a_group group.length c_group)) rfl ?_)
      replace hm := bd hm; obtain ⟨blocks_1, hv167, hm⟩ := hm
      refine Rg_op rfl (op_call Try.call17 (c17_coalition_Blocks (r_ := r_) (slots := slots) (group := group) hs56.ltw r_r__slots f_r__owners f_r__costs f_slots f_group hv167) rfl ?_)
      rintro v168 w169 ⟨hx170, h171⟩
      have hs172 := hs56.call hx170
      have p173 := Step.ext (O := ks [(k_g47, o_g47), (some b30, Obj.cells [(Value.int .i64 (IntKind.wrap .i64 (r_.slots + 1))), (Value.slice a_r__owners r_.owners.length c_r__owners), (Value.slice a_g47 v_3.length c_g47)].toArray 25), (some b1, Obj.cells [(Value.int .i64 r_.slots), (Value.slice a_r__owners r_.owners.length c_r__owners), (Value.slice a_r__costs r_.costs.length c_r__costs)].toArray 25)] O) hx170
      clear hx170
      replace f_r__owners := f_r__owners.step p173; replace f_r__costs := f_r__costs.step p173; replace f_slots := f_slots.step p173; replace f_group := f_group.step p173; replace f_g47 := f_g47.step p173; replace ch60 := ch60.trans p173; clear p173 hs56
      obtain ⟨v174, v175, v176, rfl, h177, h178, h179⟩ := h171
      obtain ⟨a_y180, c_y180, rfl, f_y180⟩ := un_sl h177
      obtain rfl := h178
      obtain ⟨rfl, r_y182⟩ := h179
      refine Rg_op rfl (op_move (v := (Value.tuple [(Value.slice a_y180 blocks_1.1.length c_y180), (Value.bool blocks_1.2.1), (Value.int .i64 blocks_1.2.2)].toArray)) rfl ?_)
      refine Rg_op rfl (op_extract (v := (Value.slice a_y180 blocks_1.1.length c_y180)) rfl rfl ?_)
      refine Rg_op rfl (op_extract (v := (Value.bool blocks_1.2.1)) rfl rfl ?_)
      refine Rg_op rfl (op_extract (v := (Value.int .i64 blocks_1.2.2)) rfl rfl ?_)
      refine Rg_op rfl (op_assign (v := (Value.slice a_y180 blocks_1.1.length c_y180)) rfl ?_)
      refine Rg_op rfl (op_assign (v := (Value.bool blocks_1.2.1)) rfl ?_)
      refine Rg_op rfl (op_assign (v := (Value.int .i64 blocks_1.2.2)) rfl ?_)
      refine Rg_nil ?_
      refine Wp_seq ?_
      refine Wp_region ?_
      refine Rg_op rfl (op_loadA (cs := [(Value.int .i64 (IntKind.wrap .i64 (r_.slots + 1))), (Value.slice a_r__owners r_.owners.length c_r__owners), (Value.slice a_g47 v_3.length c_g47)]) (vs := [(Value.int .i64 (IntKind.wrap .i64 (r_.slots + 1))), (Value.slice a_r__owners r_.owners.length c_r__owners), (Value.slice a_g47 v_3.length c_g47)]) (i := 1) ty25 hs172 rfl rfl rfl rfl ?_)
      refine Rg_op rfl (op_move (v := (Value.slice a_slots slots.length c_slots)) rfl ?_)
      refine Rg_op rfl (op_move (v := (Value.slice a_group group.length c_group)) rfl ?_)
      obtain ⟨hs184, p185, f183⟩ := Gs.publish (i := 0) hs172 rfl f_g47
      replace f_r__owners := f_r__owners.step p185; replace f_r__costs := f_r__costs.step p185; replace f_slots := f_slots.step p185; replace f_group := f_group.step p185; replace f_y180 := f_y180.step p185; replace ch60 := ch60.trans p185; clear p185 hs172
      replace hm := bd hm; obtain ⟨blocks_2, hv186, hm⟩ := hm
      refine Rg_op rfl (op_call Try.call17 (c17_coalition_Blocks (r_ := (⟨(IntKind.wrap .i64 (r_.slots + 1)), r_.owners, v_3⟩ : XRound)) (slots := slots) (group := group) hs184.ltw (inK_wrap .i64 _) f_r__owners f183 f_slots f_group hv186) rfl ?_)
      rintro v187 w188 ⟨hx189, h190⟩
      have hs191 := hs184.call hx189
      have p192 := Step.ext (O := ks [(some b30, Obj.cells [(Value.int .i64 (IntKind.wrap .i64 (r_.slots + 1))), (Value.slice a_r__owners r_.owners.length c_r__owners), (Value.slice a_g47 v_3.length c_g47)].toArray 25), (some b1, Obj.cells [(Value.int .i64 r_.slots), (Value.slice a_r__owners r_.owners.length c_r__owners), (Value.slice a_r__costs r_.costs.length c_r__costs)].toArray 25)] O) hx189
      clear hx189
      replace f_r__owners := f_r__owners.step p192; replace f_r__costs := f_r__costs.step p192; replace f_slots := f_slots.step p192; replace f_group := f_group.step p192; replace f_y180 := f_y180.step p192; replace f183 := f183.step p192; replace ch60 := ch60.trans p192; clear p192 hs184
      obtain ⟨v193, v194, v195, rfl, h196, h197, h198⟩ := h190
      obtain ⟨a_y199, c_y199, rfl, f_y199⟩ := un_sl h196
      obtain rfl := h197
      obtain ⟨rfl, r_y201⟩ := h198
      refine Rg_op rfl (op_move (v := (Value.tuple [(Value.slice a_y199 blocks_2.1.length c_y199), (Value.bool blocks_2.2.1), (Value.int .i64 blocks_2.2.2)].toArray)) rfl ?_)
      refine Rg_op rfl (op_extract (v := (Value.slice a_y199 blocks_2.1.length c_y199)) rfl rfl ?_)
      refine Rg_op rfl (op_extract (v := (Value.bool blocks_2.2.1)) rfl rfl ?_)
      refine Rg_op rfl (op_extract (v := (Value.int .i64 blocks_2.2.2)) rfl rfl ?_)
      refine Rg_op rfl (op_assign (v := (Value.slice a_y199 blocks_2.1.length c_y199)) rfl ?_)
      refine Rg_op rfl (op_assign (v := (Value.bool blocks_2.2.1)) rfl ?_)
      refine Rg_op rfl (op_assign (v := (Value.int .i64 blocks_2.2.2)) rfl ?_)
      refine Rg_nil ?_
      refine Wp_seq ?_
      refine Wp_region ?_
      refine Rg_op rfl (op_loadA (cs := [(Value.int .i64 r_.slots), (Value.slice a_r__owners r_.owners.length c_r__owners), (Value.slice a_r__costs r_.costs.length c_r__costs)]) (vs := [(Value.int .i64 r_.slots), (Value.slice a_r__owners r_.owners.length c_r__owners), (Value.slice a_r__costs r_.costs.length c_r__costs)]) (i := 1) ty25 hs191 rfl rfl rfl rfl ?_)
      refine Rg_op rfl (op_move (v := (Value.slice a_slots slots.length c_slots)) rfl ?_)
      replace hm := bd hm; obtain ⟨stable_1, hv202, hm⟩ := hm
      refine Rg_op rfl (op_call Try.call19 (c19_coalition_Stable (r_ := r_) (slots := slots) hs191.ltw r_r__slots f_r__owners f_r__costs f_slots hv202) rfl ?_)
      rintro v203 w204 ⟨hx205, h206⟩
      have hs207 := hs191.call hx205
      have p208 := Step.ext (O := ks [(some b30, Obj.cells [(Value.int .i64 (IntKind.wrap .i64 (r_.slots + 1))), (Value.slice a_r__owners r_.owners.length c_r__owners), (Value.slice a_g47 v_3.length c_g47)].toArray 25), (some b1, Obj.cells [(Value.int .i64 r_.slots), (Value.slice a_r__owners r_.owners.length c_r__owners), (Value.slice a_r__costs r_.costs.length c_r__costs)].toArray 25)] O) hx205
      clear hx205
      replace f_r__owners := f_r__owners.step p208; replace f_r__costs := f_r__costs.step p208; replace f_slots := f_slots.step p208; replace f_group := f_group.step p208; replace f_y180 := f_y180.step p208; replace f183 := f183.step p208; replace f_y199 := f_y199.step p208; replace ch60 := ch60.trans p208; clear p208 hs191
      obtain ⟨v209, v210, rfl, h211, h212⟩ := h206
      obtain rfl := h211
      obtain ⟨rfl, r_y214⟩ := h212
      refine Rg_op rfl (op_move (v := (Value.tuple [(Value.bool stable_1.1), (Value.int .i64 stable_1.2)].toArray)) rfl ?_)
      refine Rg_op rfl (op_extract (v := (Value.bool stable_1.1)) rfl rfl ?_)
      refine Rg_op rfl (op_extract (v := (Value.int .i64 stable_1.2)) rfl rfl ?_)
      refine Rg_op rfl (op_assign (v := (Value.bool stable_1.1)) rfl ?_)
      refine Rg_op rfl (op_assign (v := (Value.int .i64 stable_1.2)) rfl ?_)
      refine Rg_nil ?_
      refine Wp_seq ?_
      refine Wp_reset [] [(1, (Value.slice a_slots slots.length c_slots)), (2, (Value.slice a_group group.length c_group)), (3, (Value.pointer (some ⟨b1, 0, none⟩))), (7, (Value.pointer (some ⟨b30, 0, none⟩))), (10, (Value.slice a_y180 blocks_1.1.length c_y180)), (11, (Value.bool blocks_1.2.1)), (12, (Value.int .i64 blocks_1.2.2)), (13, (Value.slice a_y199 blocks_2.1.length c_y199)), (14, (Value.bool blocks_2.2.1)), (15, (Value.int .i64 blocks_2.2.2)), (16, (Value.bool stable_1.1)), (17, (Value.int .i64 stable_1.2))] rfl ⟨rfl, rfl, rfl, rfl, rfl, rfl, rfl, rfl, rfl, rfl, rfl, rfl, trivial⟩ fun ξ215 => ?_
      refine Wp_region ?_
      refine Rg_op rfl (op_loadA (cs := [(Value.int .i64 (IntKind.wrap .i64 (r_.slots + 1))), (Value.slice a_r__owners r_.owners.length c_r__owners), (Value.slice a_g47 v_3.length c_g47)]) (vs := [(Value.int .i64 (IntKind.wrap .i64 (r_.slots + 1))), (Value.slice a_r__owners r_.owners.length c_r__owners), (Value.slice a_g47 v_3.length c_g47)]) (i := 0) ty25 hs207 rfl rfl rfl rfl ?_)
      refine Rg_op rfl (op_move (v := (Value.slice a_slots slots.length c_slots)) rfl ?_)
      replace hm := bd hm; obtain ⟨stable_2, hv216, hm⟩ := hm
      refine Rg_op rfl (op_call Try.call19 (c19_coalition_Stable (r_ := (⟨(IntKind.wrap .i64 (r_.slots + 1)), r_.owners, v_3⟩ : XRound)) (slots := slots) hs207.ltw (inK_wrap .i64 _) f_r__owners f183 f_slots hv216) rfl ?_)
      rintro v217 w218 ⟨hx219, h220⟩
      have hs221 := hs207.call hx219
      have p222 := Step.ext (O := ks [(some b30, Obj.cells [(Value.int .i64 (IntKind.wrap .i64 (r_.slots + 1))), (Value.slice a_r__owners r_.owners.length c_r__owners), (Value.slice a_g47 v_3.length c_g47)].toArray 25), (some b1, Obj.cells [(Value.int .i64 r_.slots), (Value.slice a_r__owners r_.owners.length c_r__owners), (Value.slice a_r__costs r_.costs.length c_r__costs)].toArray 25)] O) hx219
      clear hx219
      replace f_r__owners := f_r__owners.step p222; replace f_r__costs := f_r__costs.step p222; replace f_slots := f_slots.step p222; replace f_group := f_group.step p222; replace f_y180 := f_y180.step p222; replace f183 := f183.step p222; replace f_y199 := f_y199.step p222; replace ch60 := ch60.trans p222; clear p222 hs207
      obtain ⟨v223, v224, rfl, h225, h226⟩ := h220
      obtain rfl := h225
      obtain ⟨rfl, r_y228⟩ := h226
      refine Rg_op rfl (op_move (v := (Value.tuple [(Value.bool stable_2.1), (Value.int .i64 stable_2.2)].toArray)) rfl ?_)
      refine Rg_op rfl (op_extract (v := (Value.bool stable_2.1)) rfl rfl ?_)
      refine Rg_op rfl (op_extract (v := (Value.int .i64 stable_2.2)) rfl rfl ?_)
      refine Rg_op rfl (op_assign (v := (Value.bool stable_2.1)) rfl ?_)
      refine Rg_op rfl (op_assign (v := (Value.int .i64 stable_2.2)) rfl ?_)
      refine Rg_nil ?_
      refine Wp_seq ?_
      refine Wp_reset [] [(2, (Value.slice a_group group.length c_group)), (3, (Value.pointer (some ⟨b1, 0, none⟩))), (7, (Value.pointer (some ⟨b30, 0, none⟩))), (10, (Value.slice a_y180 blocks_1.1.length c_y180)), (11, (Value.bool blocks_1.2.1)), (12, (Value.int .i64 blocks_1.2.2)), (13, (Value.slice a_y199 blocks_2.1.length c_y199)), (14, (Value.bool blocks_2.2.1)), (15, (Value.int .i64 blocks_2.2.2)), (16, (Value.bool stable_1.1)), (17, (Value.int .i64 stable_1.2)), (18, (Value.bool stable_2.1)), (19, (Value.int .i64 stable_2.2))] rfl ⟨rfl, rfl, rfl, rfl, rfl, rfl, rfl, rfl, rfl, rfl, rfl, rfl, rfl, trivial⟩ fun ξ229 => ?_
      replace hm := jn_elim hm; obtain ⟨k231, hk232, hm⟩ := hm
      refine Wp_seqJ [99, 100, 101, 102, 103, 104, 105, 106, 107, 108, 109, 110, 111, 112, 113, 114, 115, 116, 117, 118, 119, 120, 121, 122, 123, 124, 125, 126, 127] (fun fr w' => ∃ (v_4 : Bool) (Ebs : Ents), Ebs = [(some b30, Obj.cells [(Value.int .i64 (IntKind.wrap .i64 (r_.slots + 1))), (Value.slice a_r__owners r_.owners.length c_r__owners), (Value.slice a_g47 v_3.length c_g47)].toArray 25), (some b1, Obj.cells [(Value.int .i64 r_.slots), (Value.slice a_r__owners r_.owners.length c_r__owners), (Value.slice a_r__costs r_.costs.length c_r__costs)].toArray 25)] ∧ fr [] [(127, (Value.bool v_4))] ∧ Step (ks [(some b30, Obj.cells [(Value.int .i64 (IntKind.wrap .i64 (r_.slots + 1))), (Value.slice a_r__owners r_.owners.length c_r__owners), (Value.slice a_g47 v_3.length c_g47)].toArray 25), (some b1, Obj.cells [(Value.int .i64 r_.slots), (Value.slice a_r__owners r_.owners.length c_r__owners), (Value.slice a_r__costs r_.costs.length c_r__costs)].toArray 25)] O) w218 (ks Ebs O) w' ∧ St ⟨w, [], []⟩ O w' Ebs ∧ k231 v_4 = some x) ?_ ?_
      ·
       rintro ρ238 w234 ⟨v_4, Ebs, hEbs, hfr237, hst236, hs235, hm⟩
       replace hm := jnE1 hk232 hm
       subst hEbs; rw [hfr237.eq]; clear hfr237
       replace f_r__owners := f_r__owners.step hst236; replace f_r__costs := f_r__costs.step hst236; replace f_slots := f_slots.step hst236; replace f_group := f_group.step hst236; replace f_y180 := f_y180.step hst236; replace f183 := f183.step hst236; replace f_y199 := f_y199.step hst236; replace ch60 := ch60.trans hst236; clear hst236 hs221
       refine Wp_cond rfl (fun hc239 => ?_) (fun hc239 => ?_)
       ·
        replace hm := bif_t hm hc239
        refine Wp_seq ?_
        obtain ⟨hs240, p241⟩ := hs235.sub (bs' := []) (.cons _ (.cons _ List.Sublist.slnil))
        clear f_r__owners f_r__costs f_slots f_group f_y180 f183 f_y199
        replace ch60 := ch60.trans p241; clear p241 hs235
        refine Wp_region ?_
        refine Rg_op rfl (op_assign (v := (Value.bool false)) rfl ?_)
        refine Rg_nil ?_
        refine Wp_ret ?_
        have hz := step_all hs240
        refine ⟨_, (show Closes [] _ _ from rfl), [(Value.bool false)], ⟨rfl, trivial⟩, hs240.ext, ?_⟩
        exact Vr.eq (a := vB) (x := false) rfl (Option.some.inj hm)
       ·
        replace hm := bif_f hm hc239
        refine Wp_skip ?_
        refine Wp_seq ?_
        refine Wp_seq ?_
        obtain ⟨hs242, p243⟩ := hs235.sub (bs' := [(some b1, Obj.cells [(Value.int .i64 r_.slots), (Value.slice a_r__owners r_.owners.length c_r__owners), (Value.slice a_r__costs r_.costs.length c_r__costs)].toArray 25)]) (.cons _ (.cons_cons _ List.Sublist.slnil))
        clear f_slots f_y180 f183 f_y199
        replace f_r__owners := f_r__owners.step p243; replace f_r__costs := f_r__costs.step p243; replace f_group := f_group.step p243; replace ch60 := ch60.trans p243; clear p243 hs235
        refine Wp_region ?_
        refine Rg_op rfl (op_move (v := (Value.int .i64 blocks_1.2.2)) rfl ?_)
        refine Rg_op rfl (op_neq rfl rfl ?_)
        refine Rg_nil ?_
        refine Wp_cond rfl (fun hc244 => ?_) (fun hc244 => ?_)
        ·
         replace hm := bif_t hm hc244
         refine Wp_seq ?_
         obtain ⟨hs245, p246⟩ := hs242.sub (bs' := []) (.cons _ List.Sublist.slnil)
         clear f_r__owners f_r__costs f_group
         replace ch60 := ch60.trans p246; clear p246 hs242
         refine Wp_region ?_
         refine Rg_op rfl (op_assign (v := (Value.bool true)) rfl ?_)
         refine Rg_nil ?_
         refine Wp_ret ?_
         have hz := step_all hs245
         refine ⟨_, (show Closes [] _ _ from rfl), [(Value.bool true)], ⟨rfl, trivial⟩, hs245.ext, ?_⟩
         exact Vr.eq (a := vB) (x := true) rfl (Option.some.inj hm)
        ·
         replace hm := bif_f hm hc244
         refine Wp_skip ?_
         refine Wp_seq ?_
         refine Wp_seq ?_
         refine Wp_region ?_
         refine Rg_op rfl (op_move (v := (Value.slice a_group group.length c_group)) rfl ?_)
         refine Rg_op rfl (op_len Try.underlying22 rfl ?_)
         have rl247 := inK_len f_group
         refine Rg_op rfl (op_move (v := (Value.int .i64 0)) rfl ?_)
         refine Rg_nil ?_
         refine Wp_block ?_
         refine Wp_reset [] [(3, (Value.pointer (some ⟨b1, 0, none⟩))), (11, (Value.bool blocks_1.2.1)), (130, (Value.slice a_group group.length c_group)), (131, (Value.int .i64 (group.length : Int))), (132, (Value.int .i64 0))] rfl ⟨rfl, rfl, rfl, rfl, rfl, trivial⟩ fun ξ249 => ?_
         refine Wp_loopM [6, 21, 132, 133, 134, 135, 136, 137, 138, 139, 140, 141, 142, 143, 144, 145] (fun m fr w' => ∃ (v_5 : Int) (Ebs : Ents), Ebs = [(some b1, Obj.cells [(Value.int .i64 r_.slots), (Value.slice a_r__owners r_.owners.length c_r__owners), (Value.slice a_r__costs r_.costs.length c_r__costs)].toArray 25)] ∧ fr [] [(132, (Value.int .i64 v_5))] ∧ Step (ks [(some b1, Obj.cells [(Value.int .i64 r_.slots), (Value.slice a_r__owners r_.owners.length c_r__owners), (Value.slice a_r__costs r_.costs.length c_r__costs)].toArray 25)] O) w234 (ks Ebs O) w' ∧ St ⟨w, [], []⟩ O w' Ebs ∧ InK .i64 v_5 ∧ loop1 (m6_overflightlaw37_CoalitionFree_B1 r_ group blocks_1) m v_5 = some x) (((group.length : Int) - 0).toNat + 1) ⟨0, _, rfl, ⟨Out.refl _ _, rfl, rfl, trivial⟩, Step.refl _ _, hs242, (show InK .i64 0 from by decide), hm⟩ ?_ ?_
         · rintro _ _ ⟨_, _, _, _, _, _, _, hm⟩; exact loop1_z hm
         ·
          rintro m253 K252 hK252 ρ258 w254 ⟨v_5, Ebs, hEbs, hfr257, hst256, hs255, r_y248, hm⟩
          obtain ⟨sf250, hsf251, hm⟩ := loop1_s hm; unfold m6_overflightlaw37_CoalitionFree_B1 at hm
          subst hEbs; rw [hfr257.eq]; clear hfr257
          replace f_r__owners := f_r__owners.step hst256; replace f_r__costs := f_r__costs.step hst256; replace f_group := f_group.step hst256; replace ch60 := ch60.trans hst256
          have ch259 := hst256
          refine Wp_seq ?_
          refine Wp_region ?_
          refine Rg_op rfl (op_lss rfl rfl ?_)
          refine Rg_nil ?_
          refine Wp_seq ?_
          refine Wp_cond rfl (fun hc260 => ?_) (fun hc260 => ?_)
          ·
           replace hm := bif_t hm hc260
           refine Wp_skip ?_
           refine Wp_seq ?_
           refine Wp_block ?_
           refine Wp_seq ?_
           refine Wp_region ?_
           replace hm := ck_some hm; obtain ⟨hc261, hm⟩ := hm
           refine Rg_op rfl (op_indexAddr (q := (rInt .i64)) ty22 ty3 rfl rfl f_group rfl hc261.1 hc261.2 ?_)
           intro p262 f263
           refine Rg_op rfl (op_loadP ty3 rfl f263 rfl ?_)
           intro v264 h265
           obtain ⟨rfl, r_y266⟩ := un_int h265
           refine Rg_op rfl (op_assign (v := (Value.int .i64 (group.getD v_5.toNat default))) rfl ?_)
           refine Rg_nil ?_
           refine Wp_reset2 [6, 21, 132, 133, 134, 135, 136, 137, 138, 139, 140, 141, 142, 143, 144, 145] [] (updL ⟨ξ249, []⟩ [(3, (Value.pointer (some ⟨b1, 0, none⟩))), (11, (Value.bool blocks_1.2.1)), (130, (Value.slice a_group group.length c_group)), (131, (Value.int .i64 (group.length : Int))), (132, (Value.int .i64 0))]) [(21, (Value.int .i64 (group.getD v_5.toNat default))), (132, (Value.int .i64 v_5))] (by repeat (first | with_reducible exact Out.refl _ _ | refine Out.upd ?_ rfl | refine Out.updL ?_ rfl | refine Out.mix' ?_ rfl | exact Out.refl _ _)) rfl ⟨rfl, rfl, trivial⟩ fun ξ267 => ?_
           replace hm := jn_elim hm; obtain ⟨k269, hk270, hm⟩ := hm
           refine Wp_seqJ [136, 137, 138, 139, 140, 141, 142, 143, 144] (fun fr w' => ∃ (v_6 : Bool) (Ebs : Ents), Ebs = [(some b1, Obj.cells [(Value.int .i64 r_.slots), (Value.slice a_r__owners r_.owners.length c_r__owners), (Value.slice a_r__costs r_.costs.length c_r__costs)].toArray 25)] ∧ fr [] [(144, (Value.bool v_6))] ∧ Step (ks [(some b1, Obj.cells [(Value.int .i64 r_.slots), (Value.slice a_r__owners r_.owners.length c_r__owners), (Value.slice a_r__costs r_.costs.length c_r__costs)].toArray 25)] O) w254 (ks Ebs O) w' ∧ St ⟨w, [], []⟩ O w' Ebs ∧ k269 v_6 = some x) ?_ ?_
           ·
            rintro ρ276 w272 ⟨v_6, Ebs, hEbs, hfr275, hst274, hs273, hm⟩
            replace hm := jnE1 hk270 hm
            subst hEbs; rw [hfr275.eq]; clear hfr275
            replace f_r__owners := f_r__owners.step hst274; replace f_r__costs := f_r__costs.step hst274; replace f_group := f_group.step hst274; replace f263 := f263.step hst274; replace ch60 := ch60.trans hst274; replace ch259 := ch259.trans hst274; clear hst274 hs255
            refine Wp_cond rfl (fun hc277 => ?_) (fun hc277 => ?_)
            ·
             replace hm := bif_t hm hc277
             refine Wp_seq ?_
             clear f_group f263
             refine Wp_region ?_
             refine Rg_op rfl (op_assign (v := (Value.bool false)) rfl ?_)
             refine Rg_nil ?_
             refine Wp_ret ?_
             have hz := step_all hs273
             replace f_r__owners := f_r__owners.step hz; replace f_r__costs := f_r__costs.step hz
             refine ⟨_, (show Closes [] _ _ from rfl), [(Value.bool false)], ⟨rfl, trivial⟩, hs273.ext, ?_⟩
             exact Vr.eq (a := vB) (x := false) rfl (Option.some.inj hm)
            ·
             replace hm := bif_f hm hc277
             refine Wp_skip ?_
             clear f263
             refine Wp_region ?_
             refine Rg_op rfl (op_addw rfl rfl ?_)
             refine Rg_op rfl (op_move (v := (Value.int .i64 (IntKind.wrap .i64 (v_5 + 1)))) rfl ?_)
             refine Rg_nil ?_
             exact hK252 _ _ ⟨(IntKind.wrap .i64 (v_5 + 1)), _, rfl, ⟨(by repeat (first | with_reducible exact Out.refl _ _ | refine Out.upd ?_ rfl | refine Out.updL ?_ rfl | refine Out.mix' ?_ rfl | exact Out.refl _ _)), rfl, rfl, trivial⟩, ch259, hs273, (inK_wrap .i64 _), jnE1 hsf251 hm⟩
           ·
            intro K271 hK271
            have ch278 := Step.refl (ks [(some b1, Obj.cells [(Value.int .i64 r_.slots), (Value.slice a_r__owners r_.owners.length c_r__owners), (Value.slice a_r__costs r_.costs.length c_r__costs)].toArray 25)] O) w254
            clear f263
            refine Wp_region ?_
            refine Rg_op rfl (op_loadA (cs := [(Value.int .i64 r_.slots), (Value.slice a_r__owners r_.owners.length c_r__owners), (Value.slice a_r__costs r_.costs.length c_r__costs)]) (vs := [(Value.int .i64 r_.slots), (Value.slice a_r__owners r_.owners.length c_r__owners), (Value.slice a_r__costs r_.costs.length c_r__costs)]) (i := 0) ty25 hs255 rfl rfl rfl rfl ?_)
            refine Rg_op rfl (op_move (v := (Value.int .i64 (group.getD v_5.toNat default))) rfl ?_)
            refine Rg_op rfl (op_buildSlice (cs := [(Value.int .i64 (group.getD v_5.toNat default))]) (parts := [(0, .tmp 137)]) ty22 ty3 hs255 (by decide) rfl ?_)
            intro b279 w280 hx283 p281 hs282
            replace f_r__owners := f_r__owners.step p281; replace f_r__costs := f_r__costs.step p281; replace f_group := f_group.step p281; replace ch60 := ch60.trans p281; replace ch259 := ch259.trans p281; replace ch278 := ch278.trans p281; clear p281 hs255
            obtain ⟨hs286, p287, f285⟩ := St.publish (i := 0) (o := 0) (c := 1) (xs := [(group.getD v_5.toNat default)]) hs282 rfl (show Els (rInt .i64) _ _ [(Value.int .i64 (group.getD v_5.toNat default))] [(group.getD v_5.toNat default)] from ⟨_, _, rfl, (mk_int r_y266), Els.nil⟩) (le_lit rfl) (le_lit rfl) (le_lit rfl)
            replace f_r__owners := f_r__owners.step p287; replace f_r__costs := f_r__costs.step p287; replace f_group := f_group.step p287; replace ch60 := ch60.trans p287; replace ch259 := ch259.trans p287; replace ch278 := ch278.trans p287; clear p287 hs282
            replace hm := bd hm; obtain ⟨members_1, hv288, hm⟩ := hm
            refine Rg_op rfl (op_call Try.call21 (g21_overflightlaw37_members (r_ := r_) (group := [(group.getD v_5.toNat default)]) hs286.ltw r_r__slots f_r__owners f_r__costs f285 hv288) rfl ?_)
            rintro _ w290 ⟨hx291, a294, c295, k296, o297, rfl, hk298, f299⟩
            obtain ⟨hs293, p300⟩ := hs286.callG (o := o297) hx291 hk298
            rw [← ks_cons (o := o297)] at f299
            replace f_r__owners := f_r__owners.step p300; replace f_r__costs := f_r__costs.step p300; replace f_group := f_group.step p300; replace f285 := f285.step p300; replace ch60 := ch60.trans p300; replace ch259 := ch259.trans p300; replace ch278 := ch278.trans p300; clear p300 hs286
            refine Rg_op rfl (op_len Try.underlying22 rfl ?_)
            have rl302 := inK_lenG f299
            refine Rg_op rfl (op_eql rfl rfl ?_)
            refine Rg_op rfl (op_move (v := (Value.bool (decide ((members_1.length : Int) = 0)))) rfl ?_)
            refine Rg_case (fun hg303 => ?_) (fun hg303 => ?_)
            ·
             replace hm := bif_t hm hg303
             refine Rg_opg rfl rfl rfl (op_move (v := (Value.bool blocks_1.2.1)) rfl ?_)
             refine Rg_op rfl (op_pick_t (v := (Value.bool blocks_1.2.1)) rfl rfl ?_)
             refine Rg_nil ?_
             have hs304 := hs293.drop 0
             replace f_r__owners := f_r__owners.step (hs293.dropS 0)
             replace f_r__costs := f_r__costs.step (hs293.dropS 0)
             replace f_group := f_group.step (hs293.dropS 0)
             replace f285 := f285.step (hs293.dropS 0)
             replace f299 := f299.step (hs293.dropS 0)
             replace ch60 := ch60.trans (hs293.dropS 0)
             replace ch259 := ch259.trans (hs293.dropS 0)
             replace ch278 := ch278.trans (hs293.dropS 0); clear hs293
             exact hK271 _ _ ⟨blocks_1.2.1, _, rfl, ⟨(by repeat (first | with_reducible exact Out.refl _ _ | refine Out.upd ?_ rfl | refine Out.updL ?_ rfl | refine Out.mix' ?_ rfl | exact Out.refl _ _)), rfl, rfl, trivial⟩, ch278, hs304, hm⟩
            ·
             replace hm := bif_f hm hg303
             refine Rg_opx rfl (asB_ne rfl rfl) rfl ?_
             refine Rg_op rfl (op_pick_f (v := (Value.bool false)) rfl rfl ?_)
             refine Rg_nil ?_
             have hs305 := hs293.drop 0
             replace f_r__owners := f_r__owners.step (hs293.dropS 0)
             replace f_r__costs := f_r__costs.step (hs293.dropS 0)
             replace f_group := f_group.step (hs293.dropS 0)
             replace f285 := f285.step (hs293.dropS 0)
             replace f299 := f299.step (hs293.dropS 0)
             replace ch60 := ch60.trans (hs293.dropS 0)
             replace ch259 := ch259.trans (hs293.dropS 0)
             replace ch278 := ch278.trans (hs293.dropS 0); clear hs293
             exact hK271 _ _ ⟨false, _, rfl, ⟨(by repeat (first | with_reducible exact Out.refl _ _ | refine Out.upd ?_ rfl | refine Out.updL ?_ rfl | refine Out.mix' ?_ rfl | exact Out.refl _ _)), rfl, rfl, trivial⟩, ch278, hs305, hm⟩
          ·
           replace hm := bif_f hm hc260
           refine Wp_exit ?_
           refine Wp_seq ?_
           obtain ⟨hs306, p307⟩ := hs255.sub (bs' := []) (.cons _ List.Sublist.slnil)
           clear f_r__owners f_r__costs f_group
           replace ch60 := ch60.trans p307; replace ch259 := ch259.trans p307; clear p307 hs255
           refine Wp_region ?_
           refine Rg_op rfl (op_assign (v := (Value.bool true)) rfl ?_)
           refine Rg_nil ?_
           refine Wp_ret ?_
           have hz := step_all hs306
           refine ⟨_, (show Closes [] _ _ from rfl), [(Value.bool true)], ⟨rfl, trivial⟩, hs306.ext, ?_⟩
           exact Vr.eq (a := vB) (x := true) rfl (Option.some.inj hm)
      ·
       intro K233 hK233
       have ch308 := Step.refl (ks [(some b30, Obj.cells [(Value.int .i64 (IntKind.wrap .i64 (r_.slots + 1))), (Value.slice a_r__owners r_.owners.length c_r__owners), (Value.slice a_g47 v_3.length c_g47)].toArray 25), (some b1, Obj.cells [(Value.int .i64 r_.slots), (Value.slice a_r__owners r_.owners.length c_r__owners), (Value.slice a_r__costs r_.costs.length c_r__costs)].toArray 25)] O) w218
       clear f_slots
       refine Wp_region ?_
       refine Rg_op rfl (op_move (v := (Value.slice a_y180 blocks_1.1.length c_y180)) rfl ?_)
       refine Rg_op rfl (op_move (v := (Value.slice a_y199 blocks_2.1.length c_y199)) rfl ?_)
       replace hm := bd hm; obtain ⟨sameints_1, hv309, hm⟩ := hm
       refine Rg_op rfl (op_call Try.call25 (c25_overflightref37_SameInts (a := blocks_1.1) (b := blocks_2.1) hs221.ltw f_y180 f_y199 hv309) rfl ?_)
       rintro v310 w311 ⟨hx312, h313⟩
       have hs314 := hs221.call hx312
       have p315 := Step.ext (O := ks [(some b30, Obj.cells [(Value.int .i64 (IntKind.wrap .i64 (r_.slots + 1))), (Value.slice a_r__owners r_.owners.length c_r__owners), (Value.slice a_g47 v_3.length c_g47)].toArray 25), (some b1, Obj.cells [(Value.int .i64 r_.slots), (Value.slice a_r__owners r_.owners.length c_r__owners), (Value.slice a_r__costs r_.costs.length c_r__costs)].toArray 25)] O) hx312
       clear hx312
       replace f_r__owners := f_r__owners.step p315; replace f_r__costs := f_r__costs.step p315; replace f_group := f_group.step p315; replace f_y180 := f_y180.step p315; replace f183 := f183.step p315; replace f_y199 := f_y199.step p315; replace ch60 := ch60.trans p315; replace ch308 := ch308.trans p315; clear p315 hs221
       obtain rfl := h313
       refine Rg_op rfl (op_not rfl ?_)
       refine Rg_op rfl (op_move (v := (Value.bool (!sameints_1))) rfl ?_)
       refine Rg_case (fun hg317 => ?_) (fun hg317 => ?_)
       ·
        replace hm := bif_t hm hg317
        iterate 3 refine Rg_opx rfl (asB_ne rfl rfl) rfl ?_
        refine Rg_op rfl (op_pick_t (v := (Value.bool true)) rfl rfl ?_)
        refine Rg_op rfl (op_move (v := (Value.bool true)) rfl ?_)
        iterate 3 refine Rg_opx rfl (asB_ne rfl rfl) rfl ?_
        refine Rg_op rfl (op_pick_t (v := (Value.bool true)) rfl rfl ?_)
        refine Rg_op rfl (op_move (v := (Value.bool true)) rfl ?_)
        iterate 3 refine Rg_opx rfl (asB_ne rfl rfl) rfl ?_
        refine Rg_op rfl (op_pick_t (v := (Value.bool true)) rfl rfl ?_)
        refine Rg_op rfl (op_move (v := (Value.bool true)) rfl ?_)
        iterate 3 refine Rg_opx rfl (asB_ne rfl rfl) rfl ?_
        refine Rg_op rfl (op_pick_t (v := (Value.bool true)) rfl rfl ?_)
        refine Rg_op rfl (op_move (v := (Value.bool true)) rfl ?_)
        iterate 3 refine Rg_opx rfl (asB_ne rfl rfl) rfl ?_
        refine Rg_op rfl (op_pick_t (v := (Value.bool true)) rfl rfl ?_)
        refine Rg_nil ?_
        exact hK233 _ _ ⟨true, _, rfl, ⟨(by repeat (first | with_reducible exact Out.refl _ _ | refine Out.upd ?_ rfl | refine Out.updL ?_ rfl | refine Out.mix' ?_ rfl | exact Out.refl _ _)), rfl, rfl, trivial⟩, ch308, hs314, hm⟩
       ·
        replace hm := bif_f hm hg317
        refine Rg_opg rfl rfl rfl (op_move (v := (Value.bool blocks_1.2.1)) rfl ?_)
        refine Rg_opg rfl rfl rfl (op_move (v := (Value.bool blocks_2.2.1)) rfl ?_)
        refine Rg_opg rfl rfl rfl (op_neqb Try.underlying4 rfl rfl ?_)
        refine Rg_op rfl (op_pick_f (v := (Value.bool (!(blocks_1.2.1 == blocks_2.2.1)))) rfl rfl ?_)
        refine Rg_op rfl (op_move (v := (Value.bool (!(blocks_1.2.1 == blocks_2.2.1)))) rfl ?_)
        refine Rg_case (fun hg318 => ?_) (fun hg318 => ?_)
        ·
         replace hm := bif_t hm hg318
         iterate 3 refine Rg_opx rfl (asB_ne rfl rfl) rfl ?_
         refine Rg_op rfl (op_pick_t (v := (Value.bool true)) rfl rfl ?_)
         refine Rg_op rfl (op_move (v := (Value.bool true)) rfl ?_)
         iterate 3 refine Rg_opx rfl (asB_ne rfl rfl) rfl ?_
         refine Rg_op rfl (op_pick_t (v := (Value.bool true)) rfl rfl ?_)
         refine Rg_op rfl (op_move (v := (Value.bool true)) rfl ?_)
         iterate 3 refine Rg_opx rfl (asB_ne rfl rfl) rfl ?_
         refine Rg_op rfl (op_pick_t (v := (Value.bool true)) rfl rfl ?_)
         refine Rg_op rfl (op_move (v := (Value.bool true)) rfl ?_)
         iterate 3 refine Rg_opx rfl (asB_ne rfl rfl) rfl ?_
         refine Rg_op rfl (op_pick_t (v := (Value.bool true)) rfl rfl ?_)
         refine Rg_nil ?_
         exact hK233 _ _ ⟨true, _, rfl, ⟨(by repeat (first | with_reducible exact Out.refl _ _ | refine Out.upd ?_ rfl | refine Out.updL ?_ rfl | refine Out.mix' ?_ rfl | exact Out.refl _ _)), rfl, rfl, trivial⟩, ch308, hs314, hm⟩
        ·
         replace hm := bif_f hm hg318
         refine Rg_opg rfl rfl rfl (op_move (v := (Value.int .i64 blocks_1.2.2)) rfl ?_)
         refine Rg_opg rfl rfl rfl (op_move (v := (Value.int .i64 blocks_2.2.2)) rfl ?_)
         refine Rg_opg rfl rfl rfl (op_neq rfl rfl ?_)
         refine Rg_op rfl (op_pick_f (v := (Value.bool (decide (blocks_1.2.2 ≠ blocks_2.2.2)))) rfl rfl ?_)
         refine Rg_op rfl (op_move (v := (Value.bool (decide (blocks_1.2.2 ≠ blocks_2.2.2)))) rfl ?_)
         refine Rg_case (fun hg319 => ?_) (fun hg319 => ?_)
         ·
          replace hm := bif_t hm hg319
          iterate 3 refine Rg_opx rfl (asB_ne rfl rfl) rfl ?_
          refine Rg_op rfl (op_pick_t (v := (Value.bool true)) rfl rfl ?_)
          refine Rg_op rfl (op_move (v := (Value.bool true)) rfl ?_)
          iterate 3 refine Rg_opx rfl (asB_ne rfl rfl) rfl ?_
          refine Rg_op rfl (op_pick_t (v := (Value.bool true)) rfl rfl ?_)
          refine Rg_op rfl (op_move (v := (Value.bool true)) rfl ?_)
          iterate 3 refine Rg_opx rfl (asB_ne rfl rfl) rfl ?_
          refine Rg_op rfl (op_pick_t (v := (Value.bool true)) rfl rfl ?_)
          refine Rg_nil ?_
          exact hK233 _ _ ⟨true, _, rfl, ⟨(by repeat (first | with_reducible exact Out.refl _ _ | refine Out.upd ?_ rfl | refine Out.updL ?_ rfl | refine Out.mix' ?_ rfl | exact Out.refl _ _)), rfl, rfl, trivial⟩, ch308, hs314, hm⟩
         ·
          replace hm := bif_f hm hg319
          refine Rg_opg rfl rfl rfl (op_move (v := (Value.bool stable_1.1)) rfl ?_)
          refine Rg_opg rfl rfl rfl (op_move (v := (Value.bool stable_2.1)) rfl ?_)
          refine Rg_opg rfl rfl rfl (op_neqb Try.underlying4 rfl rfl ?_)
          refine Rg_op rfl (op_pick_f (v := (Value.bool (!(stable_1.1 == stable_2.1)))) rfl rfl ?_)
          refine Rg_op rfl (op_move (v := (Value.bool (!(stable_1.1 == stable_2.1)))) rfl ?_)
          refine Rg_case (fun hg320 => ?_) (fun hg320 => ?_)
          ·
           replace hm := bif_t hm hg320
           iterate 3 refine Rg_opx rfl (asB_ne rfl rfl) rfl ?_
           refine Rg_op rfl (op_pick_t (v := (Value.bool true)) rfl rfl ?_)
           refine Rg_op rfl (op_move (v := (Value.bool true)) rfl ?_)
           iterate 3 refine Rg_opx rfl (asB_ne rfl rfl) rfl ?_
           refine Rg_op rfl (op_pick_t (v := (Value.bool true)) rfl rfl ?_)
           refine Rg_nil ?_
           exact hK233 _ _ ⟨true, _, rfl, ⟨(by repeat (first | with_reducible exact Out.refl _ _ | refine Out.upd ?_ rfl | refine Out.updL ?_ rfl | refine Out.mix' ?_ rfl | exact Out.refl _ _)), rfl, rfl, trivial⟩, ch308, hs314, hm⟩
          ·
           replace hm := bif_f hm hg320
           refine Rg_opg rfl rfl rfl (op_move (v := (Value.int .i64 stable_1.2)) rfl ?_)
           refine Rg_opg rfl rfl rfl (op_move (v := (Value.int .i64 stable_2.2)) rfl ?_)
           refine Rg_opg rfl rfl rfl (op_neq rfl rfl ?_)
           refine Rg_op rfl (op_pick_f (v := (Value.bool (decide (stable_1.2 ≠ stable_2.2)))) rfl rfl ?_)
           refine Rg_op rfl (op_move (v := (Value.bool (decide (stable_1.2 ≠ stable_2.2)))) rfl ?_)
           refine Rg_case (fun hg321 => ?_) (fun hg321 => ?_)
           ·
            replace hm := bif_t hm hg321
            iterate 3 refine Rg_opx rfl (asB_ne rfl rfl) rfl ?_
            refine Rg_op rfl (op_pick_t (v := (Value.bool true)) rfl rfl ?_)
            refine Rg_nil ?_
            exact hK233 _ _ ⟨true, _, rfl, ⟨(by repeat (first | with_reducible exact Out.refl _ _ | refine Out.upd ?_ rfl | refine Out.updL ?_ rfl | refine Out.mix' ?_ rfl | exact Out.refl _ _)), rfl, rfl, trivial⟩, ch308, hs314, hm⟩
           ·
            replace hm := bif_f hm hg321
            refine Rg_opg rfl rfl rfl (op_loadA (cs := [(Value.int .i64 (IntKind.wrap .i64 (r_.slots + 1))), (Value.slice a_r__owners r_.owners.length c_r__owners), (Value.slice a_g47 v_3.length c_g47)]) (vs := [(Value.int .i64 (IntKind.wrap .i64 (r_.slots + 1))), (Value.slice a_r__owners r_.owners.length c_r__owners), (Value.slice a_g47 v_3.length c_g47)]) (i := 0) ty25 hs314 rfl rfl rfl rfl ?_)
            replace hm := bd hm; obtain ⟨check_1, hv322, hm⟩ := hm
            refine Rg_opg rfl rfl rfl (op_call Try.call22 (c22_coalition_Check (r_ := (⟨(IntKind.wrap .i64 (r_.slots + 1)), r_.owners, v_3⟩ : XRound)) hs314.ltw (inK_wrap .i64 _) f_r__owners f183 hv322) rfl ?_)
            rintro v323 w324 ⟨hx325, h326⟩
            have hs327 := hs314.call hx325
            have p328 := Step.ext (O := ks [(some b30, Obj.cells [(Value.int .i64 (IntKind.wrap .i64 (r_.slots + 1))), (Value.slice a_r__owners r_.owners.length c_r__owners), (Value.slice a_g47 v_3.length c_g47)].toArray 25), (some b1, Obj.cells [(Value.int .i64 r_.slots), (Value.slice a_r__owners r_.owners.length c_r__owners), (Value.slice a_r__costs r_.costs.length c_r__costs)].toArray 25)] O) hx325
            clear hx325
            replace f_r__owners := f_r__owners.step p328; replace f_r__costs := f_r__costs.step p328; replace f_group := f_group.step p328; replace f_y180 := f_y180.step p328; replace f183 := f183.step p328; replace f_y199 := f_y199.step p328; replace ch60 := ch60.trans p328; replace ch308 := ch308.trans p328; clear p328 hs314
            obtain ⟨rfl, r_y329⟩ := h326
            refine Rg_opg rfl rfl rfl (op_neq rfl rfl ?_)
            refine Rg_op rfl (op_pick_f (v := (Value.bool (decide (check_1 ≠ 0)))) rfl rfl ?_)
            refine Rg_nil ?_
            exact hK233 _ _ ⟨(decide (check_1 ≠ 0)), _, rfl, ⟨(by repeat (first | with_reducible exact Out.refl _ _ | refine Out.upd ?_ rfl | refine Out.updL ?_ rfl | refine Out.mix' ?_ rfl | exact Out.refl _ _)), rfl, rfl, trivial⟩, ch308, hs327, hm⟩
  ·
   intro K21 hK21
   have ch330 := Step.refl (ks [(some b1, Obj.cells [(Value.int .i64 r_.slots), (Value.slice a_r__owners r_.owners.length c_r__owners), (Value.slice a_r__costs r_.costs.length c_r__costs)].toArray 25)] O) w8
   refine Wp_region ?_
   refine Rg_op rfl (op_loadA (cs := [(Value.int .i64 r_.slots), (Value.slice a_r__owners r_.owners.length c_r__owners), (Value.slice a_r__costs r_.costs.length c_r__costs)]) (vs := [(Value.int .i64 r_.slots), (Value.slice a_r__owners r_.owners.length c_r__owners), (Value.slice a_r__costs r_.costs.length c_r__costs)]) (i := 0) ty25 hs11 rfl rfl rfl rfl ?_)
   replace hm := bd hm; obtain ⟨few_1, hv331, hm⟩ := hm
   refine Rg_op rfl (op_call Try.call16 (c16_overflightref37_Few (r_ := r_) hs11.ltw r_r__slots f_r__owners f_r__costs hv331) rfl ?_)
   rintro v332 w333 ⟨hx334, h335⟩
   have hs336 := hs11.call hx334
   have p337 := Step.ext (O := ks [(some b1, Obj.cells [(Value.int .i64 r_.slots), (Value.slice a_r__owners r_.owners.length c_r__owners), (Value.slice a_r__costs r_.costs.length c_r__costs)].toArray 25)] O) hx334
   clear hx334
   replace f_r__owners := f_r__owners.step p337; replace f_r__costs := f_r__costs.step p337; replace f_slots := f_slots.step p337; replace f_group := f_group.step p337; replace ch330 := ch330.trans p337; clear p337 hs11
   obtain rfl := h335
   refine Rg_op rfl (op_not rfl ?_)
   refine Rg_op rfl (op_move (v := (Value.bool (!few_1))) rfl ?_)
   refine Rg_case (fun hg339 => ?_) (fun hg339 => ?_)
   ·
    replace hm := bif_t hm hg339
    iterate 3 refine Rg_opx rfl (asB_ne rfl rfl) rfl ?_
    refine Rg_op rfl (op_pick_t (v := (Value.bool true)) rfl rfl ?_)
    refine Rg_op rfl (op_move (v := (Value.bool true)) rfl ?_)
    iterate 3 refine Rg_opx rfl (asB_ne rfl rfl) rfl ?_
    refine Rg_op rfl (op_pick_t (v := (Value.bool true)) rfl rfl ?_)
    refine Rg_op rfl (op_move (v := (Value.bool true)) rfl ?_)
    iterate 3 refine Rg_opx rfl (asB_ne rfl rfl) rfl ?_
    refine Rg_op rfl (op_pick_t (v := (Value.bool true)) rfl rfl ?_)
    refine Rg_op rfl (op_move (v := (Value.bool true)) rfl ?_)
    iterate 3 refine Rg_opx rfl (asB_ne rfl rfl) rfl ?_
    refine Rg_op rfl (op_pick_t (v := (Value.bool true)) rfl rfl ?_)
    refine Rg_nil ?_
    exact hK21 _ _ ⟨true, _, rfl, ⟨(by repeat (first | with_reducible exact Out.refl _ _ | refine Out.upd ?_ rfl | refine Out.updL ?_ rfl | refine Out.mix' ?_ rfl | exact Out.refl _ _)), rfl, rfl, trivial⟩, ch330, hs336, hm⟩
   ·
    replace hm := bif_f hm hg339
    refine Rg_opg rfl rfl rfl (op_move (v := (Value.slice a_slots slots.length c_slots)) rfl ?_)
    refine Rg_opg rfl rfl rfl (op_len Try.underlying22 rfl ?_)
    have rl340 := inK_len f_slots
    refine Rg_opg rfl rfl rfl (op_gtr rfl rfl ?_)
    refine Rg_op rfl (op_pick_f (v := (Value.bool (decide (20 < (slots.length : Int))))) rfl rfl ?_)
    refine Rg_op rfl (op_move (v := (Value.bool (decide (20 < (slots.length : Int))))) rfl ?_)
    refine Rg_case (fun hg341 => ?_) (fun hg341 => ?_)
    ·
     replace hm := bif_t hm hg341
     iterate 3 refine Rg_opx rfl (asB_ne rfl rfl) rfl ?_
     refine Rg_op rfl (op_pick_t (v := (Value.bool true)) rfl rfl ?_)
     refine Rg_op rfl (op_move (v := (Value.bool true)) rfl ?_)
     iterate 3 refine Rg_opx rfl (asB_ne rfl rfl) rfl ?_
     refine Rg_op rfl (op_pick_t (v := (Value.bool true)) rfl rfl ?_)
     refine Rg_op rfl (op_move (v := (Value.bool true)) rfl ?_)
     iterate 3 refine Rg_opx rfl (asB_ne rfl rfl) rfl ?_
     refine Rg_op rfl (op_pick_t (v := (Value.bool true)) rfl rfl ?_)
     refine Rg_nil ?_
     exact hK21 _ _ ⟨true, _, rfl, ⟨(by repeat (first | with_reducible exact Out.refl _ _ | refine Out.upd ?_ rfl | refine Out.updL ?_ rfl | refine Out.mix' ?_ rfl | exact Out.refl _ _)), rfl, rfl, trivial⟩, ch330, hs336, hm⟩
    ·
     replace hm := bif_f hm hg341
     refine Rg_opg rfl rfl rfl (op_move (v := (Value.slice a_group group.length c_group)) rfl ?_)
     refine Rg_opg rfl rfl rfl (op_len Try.underlying22 rfl ?_)
     have rl342 := inK_len f_group
     refine Rg_opg rfl rfl rfl (op_gtr rfl rfl ?_)
     refine Rg_op rfl (op_pick_f (v := (Value.bool (decide (20 < (group.length : Int))))) rfl rfl ?_)
     refine Rg_op rfl (op_move (v := (Value.bool (decide (20 < (group.length : Int))))) rfl ?_)
     refine Rg_case (fun hg343 => ?_) (fun hg343 => ?_)
     ·
      replace hm := bif_t hm hg343
      iterate 3 refine Rg_opx rfl (asB_ne rfl rfl) rfl ?_
      refine Rg_op rfl (op_pick_t (v := (Value.bool true)) rfl rfl ?_)
      refine Rg_op rfl (op_move (v := (Value.bool true)) rfl ?_)
      iterate 3 refine Rg_opx rfl (asB_ne rfl rfl) rfl ?_
      refine Rg_op rfl (op_pick_t (v := (Value.bool true)) rfl rfl ?_)
      refine Rg_nil ?_
      exact hK21 _ _ ⟨true, _, rfl, ⟨(by repeat (first | with_reducible exact Out.refl _ _ | refine Out.upd ?_ rfl | refine Out.updL ?_ rfl | refine Out.mix' ?_ rfl | exact Out.refl _ _)), rfl, rfl, trivial⟩, ch330, hs336, hm⟩
     ·
      replace hm := bif_f hm hg343
      refine Rg_opg rfl rfl rfl (op_loadA (cs := [(Value.int .i64 r_.slots), (Value.slice a_r__owners r_.owners.length c_r__owners), (Value.slice a_r__costs r_.costs.length c_r__costs)]) (vs := [(Value.int .i64 r_.slots), (Value.slice a_r__owners r_.owners.length c_r__owners), (Value.slice a_r__costs r_.costs.length c_r__costs)]) (i := 0) ty25 hs336 rfl rfl rfl rfl ?_)
      replace hm := bd hm; obtain ⟨check_2, hv344, hm⟩ := hm
      refine Rg_opg rfl rfl rfl (op_call Try.call22 (c22_coalition_Check (r_ := r_) hs336.ltw r_r__slots f_r__owners f_r__costs hv344) rfl ?_)
      rintro v345 w346 ⟨hx347, h348⟩
      have hs349 := hs336.call hx347
      have p350 := Step.ext (O := ks [(some b1, Obj.cells [(Value.int .i64 r_.slots), (Value.slice a_r__owners r_.owners.length c_r__owners), (Value.slice a_r__costs r_.costs.length c_r__costs)].toArray 25)] O) hx347
      clear hx347
      replace f_r__owners := f_r__owners.step p350; replace f_r__costs := f_r__costs.step p350; replace f_slots := f_slots.step p350; replace f_group := f_group.step p350; replace ch330 := ch330.trans p350; clear p350 hs336
      obtain ⟨rfl, r_y351⟩ := h348
      refine Rg_opg rfl rfl rfl (op_neq rfl rfl ?_)
      refine Rg_op rfl (op_pick_f (v := (Value.bool (decide (check_2 ≠ 0)))) rfl rfl ?_)
      refine Rg_op rfl (op_move (v := (Value.bool (decide (check_2 ≠ 0)))) rfl ?_)
      refine Rg_case (fun hg352 => ?_) (fun hg352 => ?_)
      ·
       replace hm := bif_t hm hg352
       iterate 3 refine Rg_opx rfl (asB_ne rfl rfl) rfl ?_
       refine Rg_op rfl (op_pick_t (v := (Value.bool true)) rfl rfl ?_)
       refine Rg_nil ?_
       exact hK21 _ _ ⟨true, _, rfl, ⟨(by repeat (first | with_reducible exact Out.refl _ _ | refine Out.upd ?_ rfl | refine Out.updL ?_ rfl | refine Out.mix' ?_ rfl | exact Out.refl _ _)), rfl, rfl, trivial⟩, ch330, hs349, hm⟩
      ·
       replace hm := bif_f hm hg352
       refine Rg_opg rfl rfl rfl (op_fieldAddr ty25 rfl ty3 (by decide) rfl (rfl : _ = (⟨_, 0, none⟩ : Addr)) ?_)
       refine Rg_opg rfl rfl rfl (op_load (cs := [(Value.int .i64 r_.slots), (Value.slice a_r__owners r_.owners.length c_r__owners), (Value.slice a_r__costs r_.costs.length c_r__costs)]) (i := 0) ty3 hs349 rfl rfl rfl ?_)
       refine Rg_opg rfl rfl rfl (op_geq rfl rfl ?_)
       refine Rg_op rfl (op_pick_f (v := (Value.bool (decide (8 ≤ r_.slots)))) rfl rfl ?_)
       refine Rg_nil ?_
       exact hK21 _ _ ⟨(decide (8 ≤ r_.slots)), _, rfl, ⟨(by repeat (first | with_reducible exact Out.refl _ _ | refine Out.upd ?_ rfl | refine Out.updL ?_ rfl | refine Out.mix' ?_ rfl | exact Out.refl _ _)), rfl, rfl, trivial⟩, ch330, hs349, hm⟩

end Go.Fx



/- What the models of functions compute: loops over lists, checks, meetings. No program in sight. -/
set_option linter.unusedSimpArgs false
set_option linter.unusedVariables false
namespace Go.Fx
open Go Go.RowKit

section
variable {R α σ : Type}
@[simp] theorem jn_eq {κ : Type _} (k : κ) (f : κ → Option R) : jn k f = f k := rfl
theorem ck_eq {c : Prop} [Decidable c] {m : Option R} (h : c) : ck c m = m := if_pos h
@[simp] theorem ck_True {m : Option R} : ck True m = m := if_pos trivial
theorem wrapN {i : Nat} (h : i < 9223372036854775808) : IntKind.i64.wrap (i : Int) = (i : Int) := wrap_i64 (by omega) (by omega)
theorem wrapS {i : Nat} (h : i + 1 < 9223372036854775808) : IntKind.i64.wrap ((i : Int) + 1) = (i : Int) + 1 := wrap_i64 (by omega) (by omega)
/-- a loop that goes up an index over a list: L fuel index state -/
theorem up_list {L : Nat → Int → σ → Option R} (I : Nat → σ → Prop) (F : Nat → List α → σ → Option R) (l : List α) (hl : l.length < 9223372036854775807)
    (hE : ∀ n s, I l.length s → L (n + 1) (l.length : Nat) s = F l.length [] s)
    (hS : ∀ n (i : Nat) s x t, i < l.length → l[i]? = some x → IntKind.i64.wrap ((i : Int) + 1) = (i : Int) + 1 → I i s →
      (∀ s, I (i + 1) s → L n ((i : Int) + 1) s = F (i + 1) t s) → L (n + 1) (i : Int) s = F i (x :: t) s) :
    ∀ (fuel : Nat) s, l.length < fuel → I 0 s → L fuel 0 s = F 0 l s := by
  have main : ∀ (t : List α) (i fuel : Nat) s, l.drop i = t → i ≤ l.length → l.length - i < fuel → I i s → L fuel (i : Int) s = F i t s := by
    intro t
    induction t with
    | nil =>
      intro i fuel s hd hi hf hI
      have : i = l.length := by have := congrArg List.length hd; simp at this; omega
      subst this
      obtain ⟨n, rfl⟩ : ∃ n, fuel = n + 1 := ⟨fuel - 1, by omega⟩
      exact hE n s hI
    | cons x t ih =>
      intro i fuel s hd hi hf hI
      have hlt : i < l.length := by have := congrArg List.length hd; simp at this; omega
      obtain ⟨n, rfl⟩ : ∃ n, fuel = n + 1 := ⟨fuel - 1, by omega⟩
      have hx : l[i]? = some x := by rw [← List.head?_drop, hd]; rfl
      refine hS n i s x t hlt hx (wrapS (by omega)) hI fun s' hI' => (ih (i + 1) n s' ?_ (by omega) (by omega) hI')
      rw [← List.drop_drop, hd]; rfl
  intro fuel s hf hI
  exact main l 0 fuel s rfl (by omega) (by omega) hI

theorem getD_of {l : List α} {i : Nat} {x d : α} (h : l[i]? = some x) : l.getD i d = x := by simp [List.getD, h]

/-- a loop that goes up an index over a list, no state -/
theorem up_list0 {B : (Int → Option R) → Int → Option R} (F : List α → Option R) (l : List α) (hl : l.length < 9223372036854775807)
    (hE : ∀ sf, B sf (l.length : Nat) = F [])
    (hS : ∀ sf (i : Nat) x t, i < l.length → l[i]? = some x → IntKind.i64.wrap ((i : Int) + 1) = (i : Int) + 1 →
      sf ((i : Int) + 1) = F t → B sf (i : Int) = F (x :: t))
    {fuel : Nat} (hf : l.length < fuel) : loop1 B fuel 0 = F l := by
  refine up_list (L := fun n i (_ : Unit) => loop1 B n i) (fun _ _ => True) (fun _ t _ => F t) l hl ?_ ?_ fuel () hf trivial
  · intro n _ _; show loop1 B (n + 1) _ = _; rw [loop1_succ]; exact hE _
  · intro n i _ x t h1 h2 h3 _ ih; show loop1 B (n + 1) _ = _; rw [loop1_succ]; exact hS _ i x t h1 h2 h3 (ih () trivial)
/-- index first, then a state -/
theorem up_listA {B : (Int → σ → Option R) → Int → σ → Option R} (I : Nat → σ → Prop) (F : Nat → List α → σ → Option R) (l : List α) (hl : l.length < 9223372036854775807)
    (hE : ∀ sf s, I l.length s → B sf (l.length : Nat) s = F l.length [] s)
    (hS : ∀ sf (i : Nat) s x t, i < l.length → l[i]? = some x → IntKind.i64.wrap ((i : Int) + 1) = (i : Int) + 1 → I i s →
      (∀ s, I (i + 1) s → sf ((i : Int) + 1) s = F (i + 1) t s) → B sf (i : Int) s = F i (x :: t) s)
    {fuel : Nat} {s : σ} (hf : l.length < fuel) (hI : I 0 s) : loop2 B fuel 0 s = F 0 l s := by
  refine up_list (L := fun n i s => loop2 B n i s) I F l hl ?_ ?_ fuel s hf hI
  · intro n s h; show loop2 B (n + 1) _ _ = _; rw [loop2_succ]; exact hE _ _ h
  · intro n i s x t h1 h2 h3 h4 ih; show loop2 B (n + 1) _ _ = _; rw [loop2_succ]; exact hS _ i s x t h1 h2 h3 h4 ih
/-- a state first, then the index -/
theorem up_listB {B : (σ → Int → Option R) → σ → Int → Option R} (I : Nat → σ → Prop) (F : Nat → List α → σ → Option R) (l : List α) (hl : l.length < 9223372036854775807)
    (hE : ∀ sf s, I l.length s → B sf s (l.length : Nat) = F l.length [] s)
    (hS : ∀ sf (i : Nat) s x t, i < l.length → l[i]? = some x → IntKind.i64.wrap ((i : Int) + 1) = (i : Int) + 1 → I i s →
      (∀ s, I (i + 1) s → sf s ((i : Int) + 1) = F (i + 1) t s) → B sf s (i : Int) = F i (x :: t) s)
    {fuel : Nat} {s : σ} (hf : l.length < fuel) (hI : I 0 s) : loop2 B fuel s 0 = F 0 l s := by
  refine up_list (L := fun n i s => loop2 B n s i) I F l hl ?_ ?_ fuel s hf hI
  · intro n s h; show loop2 B (n + 1) _ _ = _; rw [loop2_succ]; exact hE _ _ h
  · intro n i s x t h1 h2 h3 h4 ih; show loop2 B (n + 1) _ _ = _; rw [loop2_succ]; exact hS _ i s x t h1 h2 h3 h4 ih

/-- the same, where the answer needs the index -/
theorem up_listI {B : (Int → Option R) → Int → Option R} (F : Nat → List α → Option R) (l : List α) (hl : l.length < 9223372036854775807)
    (hE : ∀ sf, B sf (l.length : Nat) = F l.length [])
    (hS : ∀ sf (i : Nat) x t, i < l.length → l[i]? = some x → IntKind.i64.wrap ((i : Int) + 1) = (i : Int) + 1 →
      sf ((i : Int) + 1) = F (i + 1) t → B sf (i : Int) = F i (x :: t))
    {fuel : Nat} (hf : l.length < fuel) : loop1 B fuel 0 = F 0 l := by
  refine up_list (L := fun n i (_ : Unit) => loop1 B n i) (fun _ _ => True) (fun i t _ => F i t) l hl ?_ ?_ fuel () hf trivial
  · intro n _ _; show loop1 B (n + 1) _ = _; rw [loop1_succ]; exact hE _
  · intro n i _ x t h1 h2 h3 _ ih; show loop1 B (n + 1) _ = _; rw [loop1_succ]; exact hS _ i x t h1 h2 h3 (ih () trivial)
end
end Go.Fx



/- Chapter 37, no program in sight: all exchanges of some flights, in order. -/
set_option linter.unusedSimpArgs false
set_option linter.unusedVariables false
namespace Go.Fx
open Go Go.RowKit
/-- all ways to go on from b with k more, out of fl, all different, allowed at their place -/
def dv (fl : List Int) (ok : Nat → Int → Bool) : Nat → List Int → List (List Int)
  | 0, b => [b]
  | k + 1, b => fl.flatMap fun s => bif ok b.length s && !b.contains s then dv fl ok k (b ++ [s]) else []
/-- t may follow b -/
def gd (fl : List Int) (ok : Nat → Int → Bool) : List Int → List Int → Prop
  | _, [] => True
  | b, s :: t => s ∈ fl ∧ ok b.length s = true ∧ s ∉ b ∧ gd fl ok (b ++ [s]) t
theorem mem_dv {fl : List Int} {ok : Nat → Int → Bool} : ∀ {k : Nat} {b x : List Int}, x ∈ dv fl ok k b ↔ ∃ t, x = b ++ t ∧ t.length = k ∧ gd fl ok b t := by
  intro k
  induction k with
  | zero =>
    intro b x
    simp only [dv, List.mem_singleton]
    constructor
    · rintro rfl; exact ⟨[], by simp, rfl, trivial⟩
    · rintro ⟨t, rfl, ht, _⟩; rw [List.length_eq_zero_iff.1 ht]; simp
  | succ k ih =>
    intro b x
    simp only [dv, List.mem_flatMap]
    constructor
    · rintro ⟨s, hs, hx⟩
      cases hc : (ok b.length s && !b.contains s)
      · rw [hc] at hx; cases hx
      · rw [hc, cond_true, ih] at hx
        obtain ⟨t, rfl, ht, hg⟩ := hx
        simp only [Bool.and_eq_true, Bool.not_eq_true', List.contains_eq_mem, decide_eq_false_iff_not] at hc
        exact ⟨s :: t, by simp, by simp [ht], hs, hc.1, hc.2, hg⟩
    · rintro ⟨t, rfl, ht, hg⟩
      cases t with
      | nil => cases ht
      | cons s t =>
        obtain ⟨h1, h2, h3, h4⟩ := hg
        refine ⟨s, h1, ?_⟩
        have hc : (ok b.length s && !b.contains s) = true := by simp [h2, h3]
        rw [hc, cond_true, ih]
        exact ⟨t, by simp, by simpa using ht, h4⟩
/-- the sum of what belongs to o -/
def csum (own : Int → Int) (cost : Int → Int → Int) (o : Int) : List (Int × Int) → Int
  | [] => 0
  | (f, s) :: t => (if own f = o then cost f s else 0) + csum own cost o t
theorem csum_append (own : Int → Int) (cost : Int → Int → Int) (o : Int) (l m : List (Int × Int)) : csum own cost o (l ++ m) = csum own cost o l + csum own cost o m := by
  induction l with
  | nil => simp [csum]
  | cons p t ih => obtain ⟨f, s⟩ := p; simp only [List.cons_append, csum, ih]; omega
end Go.Fx



/- The plain laws of chapter 37: what the functions compute. -/
set_option linter.unusedSimpArgs false
set_option linter.unusedVariables false
namespace Go.Fx
open Go Go.RowKit
theorem sane_eq : m15_overflightlaw37_sane = some true := by kernel_rfl
theorem all_range' {p : Nat → Bool} (i n : Nat) : (List.range' i (n + 1)).all p = (p i && (List.range' (i + 1) n).all p) := by rw [List.range'_succ]; rfl
theorem all_range {p : Nat → Bool} (n : Nat) : (List.range n).all p = (List.range' 0 n).all p := by rw [List.range_eq_range']
/-- the first index from i where g holds, or -1 -/
def fidx {α} (g : α → Bool) : Nat → List α → Int
  | _, [] => -1
  | i, x :: t => bif g x then (i : Int) else fidx g (i + 1) t
theorem fidx_any {α} (g : α → Bool) (l : List α) (i : Nat) : decide (0 ≤ fidx g i l) = l.any g := by
  induction l generalizing i with
  | nil => rfl
  | cons x t ih => cases h : g x <;> simp [fidx, h, ih]
theorem m45_eq (s : List Int) (f : Int → Option Bool) (g : Int → Bool) (hf : ∀ x ∈ s, f x = some (g x)) (hl : s.length < 9223372036854775807) : m45_slices_ContainsFuncint_int_ s f = some (s.any g) := by
  have : m65_slices_IndexFuncint_int_ s f = some (fidx g 0 s) := by
    unfold m65_slices_IndexFuncint_int_
    refine up_listI (fun i t => some (fidx g i t)) s hl ?_ ?_ (by omega)
    · intro sf; unfold m65_slices_IndexFuncint_int__B0; simp [fidx]
    · intro sf i x t h1 h2 h3 ih; unfold m65_slices_IndexFuncint_int__B0; obtain ⟨_, rfl⟩ := List.getElem?_eq_some_iff.1 h2
      have hfi := hf s[i] (List.getElem_mem _)
      cases h : g s[i] <;> simp [h1, h3, ih, hfi, h, fidx, ck_eq]
  unfold m45_slices_ContainsFuncint_int_; rw [this]; simp [fidx_any]
theorem m43_eq (s : List Int) (v : Int) (hl : s.length < 9223372036854775807) : m43_slices_Containsint_int_ s v = some (s.any fun x => decide (v = x)) := by
  have : m64_slices_Indexint_int_ s v = some (fidx (fun x => decide (v = x)) 0 s) := by
    unfold m64_slices_Indexint_int_
    refine up_listI (fun i t => some (fidx (fun x => decide (v = x)) i t)) s hl ?_ ?_ (by omega)
    · intro sf; unfold m64_slices_Indexint_int__B0; simp [fidx]
    · intro sf i x t h1 h2 h3 ih; unfold m64_slices_Indexint_int__B0; obtain ⟨_, rfl⟩ := List.getElem?_eq_some_iff.1 h2
      by_cases h : v = s[i]
      · have g1 : s.getD (i : Int).toNat default = s[i] := by simp [h1]
        simp only [show (i : Int) < (s.length : Int) by omega, decide_true, cond_true, g1]
        rw [ck_eq (by simp)]; simp [← h, fidx]
      · simp [h1, h3, ih, h, fidx, ck_eq]
  unfold m43_slices_Containsint_int_; rw [this]; simp [fidx_any]
def badC (c : Int) : Bool := decide (c < -1) || decide (1048576 < c)
theorem m46_eq (c : Int) (hc : InK .i64 c) : m46_coalition_Check_2 c (fun x24 x25 => m44_coalition_Check_1 x24 x25) = some (badC c) := by
  have h1 := hc.1; have h2 := hc.2
  simp [IntKind.min, IntKind.max, IntKind.signed, IntKind.bits] at h1 h2
  unfold m46_coalition_Check_2 m44_coalition_Check_1 badC
  by_cases hm : c = 9223372036854775807
  · subst hm; rfl
  · have w : IntKind.i64.wrap (c + 1) = c + 1 := wrap_i64 (by omega) (by omega)
    rw [w]
    by_cases k1 : c < -1
    · have : c + 1 < 0 := by omega
      simp [k1, this]
    · have : ¬ c + 1 < 0 := by omega
      have e : (1048577 < c + 1) = (1048576 < c) := by apply propext; omega
      simp only [k1, this, e, decide_false, cond_false, Bool.false_or, Option.bind_some]
/-- flight i of a round is not as it should be -/
def rowBad (r : XRound) (i : Nat) : Bool :=
  (decide (r.owners.getD i default < 0) || decide (7 < r.owners.getD i default)) || (!decide (((r.costs.getD i default).length : Int) = r.slots) || (decide ((r.costs.getD i default).getD i default < 0) || (r.costs.getD i default).any badC))
def shapeB (r : XRound) : Bool := !(decide (r.slots < 1) || (decide (8 < r.slots) || (decide (r.slots < (r.owners.length : Int)) || decide ((r.costs.length : Int) ≠ (r.owners.length : Int)))))
/-- what Check answers -/
def valB (r : XRound) : Bool := shapeB r && (List.range r.owners.length).all fun i => !rowBad r i
theorem shape_props {r : XRound} (h : shapeB r = true) : 1 ≤ r.slots ∧ r.slots ≤ 8 ∧ (r.owners.length : Int) ≤ r.slots ∧ r.costs.length = r.owners.length := by
  unfold shapeB at h; simp at h; omega
theorem m22_eq (r : XRound) (hs : smXRound r) : m22_coalition_Check r = some (bif valB r then 0 else 370) := by
  have hcl : r.costs.length < 9223372036854775807 := by have := hs.2.2.1; omega
  unfold m22_coalition_Check
  have main : shapeB r = true → loop1 (m22_coalition_Check_B0 r) (((r.costs.length : Int) - 0).toNat + 1) 0 = some (bif (List.range r.owners.length).all (fun i => !rowBad r i) then 0 else 370) := by
    intro hsh
    obtain ⟨s1, s2, s3, s4⟩ := shape_props hsh
    rw [all_range, ← s4]
    refine up_listI (fun i t => some (bif (List.range' i t.length).all (fun i => !rowBad r i) then 0 else 370)) r.costs hcl ?_ ?_ (show r.costs.length < ((r.costs.length : Int) - 0).toNat + 1 by omega)
    · intro sf; unfold m22_coalition_Check_B0; simp
    · intro sf i x t h1 h2 h3 ih
      have g0 : r.costs.getD (i : Int).toNat default = r.costs.getD i default := rfl
      have g1 : r.owners.getD (i : Int).toNat default = r.owners.getD i default := rfl
      have g2 : (r.costs.getD i default).getD (i : Int).toNat default = (r.costs.getD i default).getD i default := rfl
      have hrow : r.costs.getD i default ∈ r.costs := by rw [show r.costs.getD i default = r.costs[i] from by simp [h1]]; exact List.getElem_mem _
      have hrl := (hs.2.2.2 _ hrow)
      rw [List.length_cons, all_range']
      unfold m22_coalition_Check_B0
      have c1 : (i : Int) < (r.costs.length : Int) := by omega
      simp only [c1, decide_true, cond_true, jn_eq, g0, g1, g2, h3, ih]
      rw [ck_eq (by simp), ck_eq (by omega)]
      have m45 := m45_eq (r.costs.getD i default) (fun x286 => m46_coalition_Check_2 x286 (fun x24 x25 => m44_coalition_Check_1 x24 x25)) badC (fun x hx => m46_eq x (hrl.2 x hx)) (by have := hrl.1; omega)
      rw [m45]
      have hb : rowBad r i = ((decide (r.owners.getD i default < 0) || decide (7 < r.owners.getD i default)) || (!decide (((r.costs.getD i default).length : Int) = r.slots) || (decide ((r.costs.getD i default).getD i default < 0) || (r.costs.getD i default).any badC))) := rfl
      rw [hb]
      generalize (List.range' (i + 1) t.length).all (fun i => !rowBad r i) = rest
      clear hb ih hrl hrow m45 g0 g1 g2 hs
      generalize r.costs.getD i default = row
      generalize r.owners.getD i default = o
      generalize row.getD i default = dg
      generalize row.any badC = bb
      unfold m44_coalition_Check_1
      by_cases k1 : o < 0
      · simp [k1]
      by_cases k2 : 7 < o
      · simp [k1, k2]
      by_cases k3 : (row.length : Int) = r.slots
      · rw [ck_eq (by omega)]
        by_cases k4 : dg < 0
        · simp [k1, k2, k3, k4]
        · cases bb <;> simp [k1, k2, k3, k4]
      · simp [k1, k2, k3]
  simp only [jn_eq]
  unfold valB
  cases hsh : shapeB r
  · unfold shapeB at hsh
    by_cases k1 : r.slots < 1
    · simp [k1]
    by_cases k2 : 8 < r.slots
    · simp [k1, k2]
    by_cases k3 : r.slots < (r.owners.length : Int)
    · simp [k1, k2, k3]
    by_cases k4 : (r.costs.length : Int) = (r.owners.length : Int)
    · simp [k1, k2, k3, k4] at hsh
    · simp [k1, k2, k3, k4]
  · have hm := main hsh
    obtain ⟨s1, s2, s3, s4⟩ := shape_props hsh
    have k1 : ¬ r.slots < 1 := by omega
    have k2 : ¬ 8 < r.slots := by omega
    have k3 : ¬ r.slots < (r.owners.length : Int) := by omega
    have k4 : (r.costs.length : Int) = (r.owners.length : Int) := by omega
    simp only [k1, k2, k3, k4, decide_false, cond_false, ne_eq, not_true_eq_false, Bool.true_and]
    rw [k4] at hm; exact hm
structure Val (r : XRound) : Prop where
  s1 : 1 ≤ r.slots
  s2 : r.slots ≤ 8
  s3 : (r.owners.length : Int) ≤ r.slots
  s4 : r.costs.length = r.owners.length
  own : ∀ i < r.owners.length, 0 ≤ r.owners.getD i default ∧ r.owners.getD i default < 8
  row : ∀ i < r.owners.length, ((r.costs.getD i default).length : Int) = r.slots
  diag : ∀ i < r.owners.length, 0 ≤ (r.costs.getD i default).getD i default
  cost : ∀ i < r.owners.length, ∀ c ∈ r.costs.getD i default, -1 ≤ c ∧ c ≤ 1048576
theorem Val.of {r : XRound} (h : valB r = true) : Val r := by
  unfold valB at h
  simp only [Bool.and_eq_true, List.all_eq_true, List.mem_range] at h
  obtain ⟨s1, s2, s3, s4⟩ := shape_props h.1
  have hb : ∀ i < r.owners.length, _ := fun i hi => h.2 i hi
  refine ⟨s1, s2, s3, s4, fun i hi => ?_, fun i hi => ?_, fun i hi => ?_, fun i hi c hc => ?_⟩ <;> (have := hb i hi; unfold rowBad at this; simp only [Bool.not_eq_true', Bool.or_eq_false_iff, Bool.not_eq_false', decide_eq_false_iff_not, decide_eq_true_eq, List.any_eq_false] at this; obtain ⟨⟨p1, p2⟩, p3, p4, p5⟩ := this)
  · omega
  · exact p3
  · omega
  · have := p5 c hc; simp [badC] at this; omega
end Go.Fx



/- Chapter 37: validity, few, assignments, costs. -/
set_option linter.unusedSimpArgs false
set_option linter.unusedVariables false
namespace Go.Fx
open Go Go.RowKit
theorem any_range' {p : Nat → Bool} (i n : Nat) : (List.range' i (n + 1)).any p = (p i || (List.range' (i + 1) n).any p) := by rw [List.range'_succ]; rfl
theorem getD_getElem {α} [Inhabited α] {l : List α} {i : Nat} (h : i < l.length) : l.getD i default = l[i] := by simp [h]
theorem getD_mem {α} [Inhabited α] {l : List α} {i : Nat} (h : i < l.length) : l.getD i default ∈ l := by rw [getD_getElem h]; exact List.getElem_mem _
def badK (row : List Int) (i k : Nat) : Bool := decide (row.getD k default < -1) || (decide (1048576 < row.getD k default) || (decide (k = i) && decide (row.getD k default < 0)))
theorem badK_any {row : List Int} {i : Nat} (h : i < row.length) : (List.range' 0 row.length).any (badK row i) = (decide (row.getD i default < 0) || row.any badC) := by
  rw [Bool.eq_iff_iff]
  simp only [List.any_eq_true, Bool.or_eq_true, decide_eq_true_eq, List.mem_range'_1, Nat.zero_le, true_and, Nat.zero_add]
  constructor
  · rintro ⟨k, hk, hb⟩
    unfold badK at hb
    simp only [Bool.or_eq_true, Bool.and_eq_true, decide_eq_true_eq] at hb
    rcases hb with hb | hb | ⟨rfl, hb⟩
    · exact .inr ⟨_, getD_mem hk, by unfold badC; simp only [← getD_getElem hk, hb, decide_true, Bool.true_or, Bool.or_true]⟩
    · exact .inr ⟨_, getD_mem hk, by unfold badC; simp only [← getD_getElem hk, hb, decide_true, Bool.true_or, Bool.or_true]⟩
    · exact .inl hb
  · rintro (hb | ⟨c, hc, hb⟩)
    · exact ⟨i, h, by simp only [badK, hb, decide_true, Bool.and_true, Bool.or_true]⟩
    · obtain ⟨k, hk, rfl⟩ := List.getElem_of_mem hc
      refine ⟨k, hk, ?_⟩
      unfold badC at hb; simp only [Bool.or_eq_true, decide_eq_true_eq] at hb
      unfold badK; rw [getD_getElem hk]
      rcases hb with hb | hb <;> simp [hb]
theorem m38_eq (r : XRound) (hs : smXRound r) : m38_overflightref37_Valid r = some (valB r) := by
  have hcl : r.owners.length < 9223372036854775807 := by have := hs.2.1.1; omega
  unfold m38_overflightref37_Valid
  have main : shapeB r = true → loop1 (m38_overflightref37_Valid_B0 r) (((r.owners.length : Int) - 0).toNat + 1) 0 = some ((List.range r.owners.length).all (fun i => !rowBad r i)) := by
    intro hsh
    obtain ⟨s1, s2, s3, s4⟩ := shape_props hsh
    rw [all_range]
    refine up_listI (fun i t => some ((List.range' i t.length).all (fun i => !rowBad r i))) r.owners hcl ?_ ?_ (show r.owners.length < ((r.owners.length : Int) - 0).toNat + 1 by omega)
    · intro sf; unfold m38_overflightref37_Valid_B0; simp
    · intro sf i x t h1 h2 h3 ih
      have hrow : r.costs.getD i default ∈ r.costs := getD_mem (by omega)
      have hrl := (hs.2.2.2 _ hrow)
      rw [List.length_cons, all_range']
      unfold m38_overflightref37_Valid_B0
      have c1 : (i : Int) < (r.owners.length : Int) := by omega
      have g0 : r.costs.getD (i : Int).toNat default = r.costs.getD i default := rfl
      have g1 : r.owners.getD (i : Int).toNat default = r.owners.getD i default := rfl
      simp only [decide_eq_true c1, cond_true, jn_eq, g0, g1]
      have inner : ∀ row : List Int, row = r.costs.getD i default → (row.length : Int) = r.slots → loop1 (m38_overflightref37_Valid_B1 r (i : Int) sf) ((r.slots - 0).toNat + 1) 0 = bif (decide (row.getD i default < 0) || row.any badC) then some false else sf (IntKind.wrap .i64 ((i : Int) + 1)) := by
        intro row hr hl
        rw [← badK_any (row := row) (i := i) (by omega)]
        refine up_listI (fun k t => bif (List.range' k t.length).any (badK row i) then some false else sf (IntKind.wrap .i64 ((i : Int) + 1))) row (by omega) ?_ ?_ (by omega)
        · intro sg; unfold m38_overflightref37_Valid_B1; simp [hl]
        · intro sg k y u h1 h2 h3 ih
          have g0 : r.costs.getD (i : Int).toNat default = row := by rw [hr]; rfl
          have g2 : row.getD (k : Int).toNat default = row.getD k default := rfl
          have c1 : (k : Int) < r.slots := by omega
          have e1 : ((k : Int) = (i : Int)) = (k = i) := by apply propext; omega
          rw [List.length_cons, any_range']
          unfold m38_overflightref37_Valid_B1
          simp only [c1, decide_true, cond_true, jn_eq, g0, g2, h3, ih, e1]
          rw [ck_eq (by omega), ck_eq (by omega)]
          have hb : badK row i k = (decide (row.getD k default < -1) || (decide (1048576 < row.getD k default) || (decide (k = i) && decide (row.getD k default < 0)))) := rfl
          rw [hb]
          have a1 : (0 : Int) ≤ i ∧ (i : Int) < r.costs.length := by omega
          have a2 : (0 : Int) ≤ k ∧ (k : Int) < row.length := by omega
          generalize (List.range' (k + 1) u.length).any (badK row i) = rest
          generalize row.getD k default = c
          simp only [ck_eq a1, ck_eq a2]
          by_cases q1 : c < -1
          · simp [q1]
          by_cases q2 : 1048576 < c
          · simp [q1, q2]
          by_cases q3 : k = i
          · by_cases q4 : c < 0
            · simp only [q1, q2, q3, q4]; rfl
            · simp only [q1, q2, q3, q4]; rfl
          · simp [q1, q2, q3]
      have hb : rowBad r i = ((decide (r.owners.getD i default < 0) || decide (7 < r.owners.getD i default)) || (!decide (((r.costs.getD i default).length : Int) = r.slots) || (decide ((r.costs.getD i default).getD i default < 0) || (r.costs.getD i default).any badC))) := rfl
      rw [hb]
      replace inner := inner _ rfl
      rw [h3] at inner
      generalize (List.range' (i + 1) t.length).all (fun i => !rowBad r i) = rest at *
      clear hb hrl hrow g0 g1 hs
      generalize r.costs.getD i default = row at *
      generalize r.owners.getD i default = o at *
      generalize row.getD i default = dg at *
      generalize row.any badC = bb at *
      have a1 : (0 : Int) ≤ i ∧ (i : Int) < r.owners.length := by omega
      have a2 : (0 : Int) ≤ i ∧ (i : Int) < r.costs.length := by omega
      simp only [ck_eq a1, ck_eq a2]
      by_cases k1 : o < 0
      · simp [k1]
      by_cases k2 : 7 < o
      · have : 8 ≤ o := by omega
        simp [k1, k2, this, ck_eq a1]
      have k2' : ¬ 8 ≤ o := by omega
      by_cases k3 : (row.length : Int) = r.slots
      · simp only [k1, k2, k2', k3, ck_eq a1, ck_eq a2, inner k3, ih, ne_eq, not_true_eq_false, decide_false, cond_false]
        generalize decide (dg < 0) = d1
        cases d1 <;> cases bb <;> rfl
      · simp [k1, k2, k2', k3, ck_eq a1, ck_eq a2]
  simp only [jn_eq]
  unfold valB
  cases hsh : shapeB r
  · unfold shapeB at hsh
    by_cases k1 : r.slots < 1
    · simp [k1]
    by_cases k2 : 8 < r.slots
    · simp [k1, k2]
    by_cases k3 : r.slots < (r.owners.length : Int)
    · simp [k1, k2, k3]
    by_cases k4 : (r.costs.length : Int) = (r.owners.length : Int)
    · simp [k1, k2, k3, k4] at hsh
    · simp [k1, k2, k3, k4]
  · have hm := main hsh
    obtain ⟨s1, s2, s3, s4⟩ := shape_props hsh
    have k1 : ¬ r.slots < 1 := by omega
    have k2 : ¬ 8 < r.slots := by omega
    have k3 : ¬ r.slots < (r.owners.length : Int) := by omega
    have k4 : (r.costs.length : Int) = (r.owners.length : Int) := by omega
    simp only [k1, k2, k3, k4, decide_false, cond_false, ne_eq, not_true_eq_false, Bool.true_and]
    exact hm
def fewB (r : XRound) : Bool := !(decide (12 < (r.owners.length : Int)) || decide (12 < (r.costs.length : Int))) && (r.costs.all (fun c => !decide (20 < (c.length : Int))) && (!valB r || decide ((r.owners.length : Int) ≤ 5)))
theorem m16_eq (r : XRound) (hs : smXRound r) : m16_overflightref37_Few r = some (fewB r) := by
  have hcl : r.costs.length < 9223372036854775807 := by have := hs.2.2.1; omega
  unfold m16_overflightref37_Few
  have main : loop1 (m16_overflightref37_Few_B0 r) (((r.costs.length : Int) - 0).toNat + 1) 0 = some (r.costs.all (fun c => !decide (20 < (c.length : Int))) && (!valB r || decide ((r.owners.length : Int) ≤ 5))) := by
    refine up_list0 (fun t => some (t.all (fun c => !decide (20 < (c.length : Int))) && (!valB r || decide ((r.owners.length : Int) ≤ 5)))) r.costs hcl ?_ ?_ (show r.costs.length < ((r.costs.length : Int) - 0).toNat + 1 by omega)
    · intro sf; unfold m16_overflightref37_Few_B0; simp only [m38_eq r hs]; cases valB r <;> simp
    · intro sf i x t h1 h2 h3 ih
      unfold m16_overflightref37_Few_B0
      have g0 : r.costs.getD (i : Int).toNat default = x := getD_of h2
      have c1 : (i : Int) < (r.costs.length : Int) := by omega
      simp only [c1, decide_true, cond_true, g0, h3, ih, List.all_cons]
      rw [ck_eq (by simp)]
      cases decide (20 < (x.length : Int)) <;> simp
  simp only [jn_eq, main]
  unfold fewB
  cases decide (12 < (r.owners.length : Int)) <;> cases decide (12 < (r.costs.length : Int)) <;> simp
/-- what flight f costs at slot s -/
def cst (r : XRound) (f s : Int) : Int := (r.costs.getD f.toNat default).getD s.toNat default
def ownr (r : XRound) (f : Int) : Int := r.owners.getD f.toNat default
/-- slot i of s is as it should be -/
def okS (r : XRound) (s : List Int) (i : Nat) : Bool := !(decide (s.getD i default < 0) || (decide (r.slots ≤ s.getD i default) || (decide (cst r i (s.getD i default) < 0) || (s.take i).any (fun x => decide (s.getD i default = x)))))
def asgB (r : XRound) (s : List Int) : Bool := decide (s.length = r.owners.length) && (List.range s.length).all (okS r s)
theorem m47_eq (r : XRound) (s : List Int) (hv : Val r) (hl : s.length < 9223372036854775807) : m47_coalition_allowed r s = some (asgB r s) := by
  unfold m47_coalition_allowed asgB
  by_cases hc : s.length = r.owners.length
  · have : ¬ (s.length : Int) ≠ r.owners.length := by omega
    simp only [this, decide_eq_true hc, decide_false, cond_false, Bool.true_and]
    rw [all_range]
    refine up_listI (fun i t => some ((List.range' i t.length).all (okS r s))) s hl ?_ ?_ (show s.length < ((s.length : Int) - 0).toNat + 1 by omega)
    · intro sf; unfold m47_coalition_allowed_B0; simp
    · intro sf i x t h1 h2 h3 ih
      rw [List.length_cons, all_range']
      unfold m47_coalition_allowed_B0
      have g0 : s.getD (i : Int).toNat default = s.getD i default := rfl
      have c1 : (i : Int) < (s.length : Int) := by omega
      have c2 : (0 : Int) ≤ i ∧ (i : Int) < s.length := by omega
      have c3 : (0 : Int) ≤ i ∧ (i : Int) ≤ s.length := by omega
      have c4 : (0 : Int) ≤ i ∧ (i : Int) < r.costs.length := by have := hv.s4; omega
      have e1 : (s.drop 0).take ((i : Int).toNat - 0) = s.take i := by simp
      have hm := m43_eq (s.take i) (s.getD i default) (by rw [List.length_take]; omega)
      have e2 : (r.costs.getD (i : Int).toNat default).getD (s.getD i default).toNat default = cst r i (s.getD i default) := rfl
      have hr := hv.row i (by omega)
      have hr' : ((r.costs.getD (i : Int).toNat default).length : Int) = r.slots := hr
      have hb : okS r s i = !(decide (s.getD i default < 0) || (decide (r.slots ≤ s.getD i default) || (decide (cst r i (s.getD i default) < 0) || (s.take i).any (fun x => decide (s.getD i default = x))))) := rfl
      simp only [c1, decide_true, cond_true, jn_eq, ck_eq c2, g0, h3, ih, e1, hm, ck_eq c3, ck_eq c4, e2, hr', hb, Option.bind_some]
      generalize cst r i (s.getD i default) = c
      generalize (s.take i).any (fun x => decide (s.getD i default = x)) = b
      generalize s.getD i default = v
      by_cases k1 : v < 0
      · simp [k1]
      by_cases k2 : r.slots ≤ v
      · simp [k1, k2]
      have c5 : (0 : Int) ≤ v ∧ v < r.slots := by omega
      simp only [ck_eq c5]
      by_cases k3 : c < 0
      · simp [k1, k2, k3]
      · cases b <;> simp [k1, k2, k3]
  · have : (s.length : Int) ≠ r.owners.length := by omega
    simp [this, hc]
theorem m24_eq (r : XRound) (s : List Int) (hs : smXRound r) (hl : s.length < 9223372036854775807) : m24_coalition_Allowed r s = some (bif valB r then (asgB r s, 0) else (false, 370)) := by
  unfold m24_coalition_Allowed
  rw [m22_eq r hs]
  cases hv : valB r
  · rfl
  · simp [m47_eq r s (Val.of hv) hl]
def goodB (r : XRound) (s : List Int) : Bool := valB r && asgB r s
theorem m39_eq (r : XRound) (s : List Int) (hs : smXRound r) (hl : s.length < 9223372036854775807) : m39_coalition_check r s = some (bif goodB r s then 0 else 370) := by
  unfold m39_coalition_check
  rw [m24_eq r s hs hl]
  unfold goodB
  cases hv : valB r
  · rfl
  · cases ha : asgB r s <;> rfl
def ownL (r : XRound) : List Int := (List.range r.owners.length).map fun i : Nat => (i : Int)
theorem m42_eq (r : XRound) (hv : Val r) : m42_coalition_own r = some (ownL r) := by
  unfold m42_coalition_own ownL
  have hn : r.owners.length ≤ 8 := by have := hv.s3; have := hv.s2; omega
  rw [List.range_eq_range']
  refine up_listB (fun i s => s.length = i) (fun i t s => some (s ++ (List.range' i t.length).map fun i : Nat => (i : Int))) r.owners (by omega) ?_ ?_ (by omega) (by rfl)
  · intro sf s hI; unfold m42_coalition_own_B0; simp
  · intro sf i s x t h1 h2 h3 hI ih
    unfold m42_coalition_own_B0
    have c1 : (i : Int) < (r.owners.length : Int) := by omega
    simp only [c1, decide_true, cond_true, h3]
    rw [ck_eq (by simp [hI]; omega), ih _ (by simp [hI])]
    simp [List.range'_succ]
end Go.Fx



/- Chapter 37: costs, worse. -/
set_option linter.unusedSimpArgs false
set_option linter.unusedVariables false
namespace Go.Fx
open Go Go.RowKit
theorem map_range_set {f g : Nat → Int} {k n : Nat} {v : Int} (hk : k < n) (hv : g k = v) (h : ∀ j, j ≠ k → g j = f j) : ((List.range n).map f).set k v = (List.range n).map g := by
  apply List.ext_getElem
  · simp
  · intro i h1 h2
    simp at h1
    by_cases e : k = i
    · subst e; simp [hv]
    · rw [List.getElem_set_ne e]; simp [h i (Ne.symm e)]
theorem getD_map_range {f : Nat → Int} {k n : Nat} (hk : k < n) : ((List.range n).map f).getD k default = f k := by simp [hk]
theorem csum_bound {own : Int → Int} {cost : Int → Int → Int} {o b : Int} {l : List (Int × Int)} (hb : 0 ≤ b) (h : ∀ p ∈ l, -b ≤ cost p.1 p.2 ∧ cost p.1 p.2 ≤ b) : -(b * l.length) ≤ csum own cost o l ∧ csum own cost o l ≤ b * l.length := by
  induction l with
  | nil => simp [csum]
  | cons p t ih =>
    obtain ⟨f, s⟩ := p
    have := ih fun p hp => h p (List.mem_cons_of_mem _ hp)
    have h1 := h (f, s) (List.mem_cons_self ..)
    simp only at h1
    simp only [csum, List.length_cons]
    have e : b * ((t.length + 1 : Nat) : Int) = b * t.length + b := by rw [Int.natCast_add, Int.mul_add]; simp
    rw [e]
    split <;> omega
/-- the costs of all airlines -/
def cvec (r : XRound) (fl s : List Int) : List Int := (List.range 8).map fun o : Nat => csum (ownr r) (cst r) (o : Int) (fl.zip s)
/-- flight f may have slot s -/
def fits (r : XRound) (f s : Int) : Prop := 0 ≤ f ∧ f < r.owners.length ∧ 0 ≤ s ∧ s < r.slots
theorem fits.cst {r : XRound} {f s : Int} (hv : Val r) (h : fits r f s) : -1 ≤ cst r f s ∧ cst r f s ≤ 1048576 := by
  obtain ⟨a, b, c, d⟩ := h
  have hr := hv.row f.toNat (by omega)
  exact hv.cost f.toNat (by omega) _ (getD_mem (by omega))
theorem zip_take_succ {l m : List Int} {i : Nat} (h1 : i < l.length) (h2 : i < m.length) : (l.zip m).take (i + 1) = (l.zip m).take i ++ [(l.getD i default, m.getD i default)] := by
  rw [List.take_succ_eq_append_getElem (by simp; omega)]
  simp [h1, h2]
theorem m41_eq (r : XRound) (fl s : List Int) (hv : Val r) (hl : fl.length ≤ 20) (hls : fl.length ≤ s.length) (hf : ∀ i < fl.length, fits r (fl.getD i default) (s.getD i default)) : m41_coalition_costs r fl s = some (cvec r fl s) := by
  unfold m41_coalition_costs
  rw [ck_eq (by decide)]
  have hz : (fl.zip s).take fl.length = fl.zip s := by rw [List.take_of_length_le (by simp; omega)]
  refine up_listB (fun i c => c = (List.range 8).map fun o : Nat => csum (ownr r) (cst r) (o : Int) ((fl.zip s).take i)) (fun i t c => some (cvec r fl s)) fl (by omega) ?_ ?_ (by omega) (by rfl)
  · intro sf c hI; unfold m41_coalition_costs_B0; rw [hz] at hI; simp [hI, cvec]
  · intro sf i c x t h1 h2 h3 hI ih
    unfold m41_coalition_costs_B0
    obtain ⟨a1, a2, a3, a4⟩ := hf i h1
    have g0 : fl.getD (i : Int).toNat default = fl.getD i default := rfl
    have g1 : s.getD (i : Int).toNat default = s.getD i default := rfl
    have hc := fits.cst hv (hf i h1)
    have hbound : ∀ o, -(1048576 * 20) ≤ csum (ownr r) (cst r) o ((fl.zip s).take i) ∧ csum (ownr r) (cst r) o ((fl.zip s).take i) ≤ 1048576 * 20 := by
      intro o
      have := csum_bound (own := ownr r) (cost := cst r) (o := o) (b := 1048576) (l := (fl.zip s).take i) (by omega) (fun p hp => by
        obtain ⟨j, hj, rfl⟩ := List.getElem_of_mem (List.mem_of_mem_take hp)
        simp at hj
        have := fits.cst hv (hf j (by omega))
        rw [getD_getElem (by omega), getD_getElem (by omega)] at this
        simp only [List.getElem_zip]; omega)
      have hle : ((fl.zip s).take i).length ≤ 20 := by simp; omega
      have : (1048576 : Int) * ((fl.zip s).take i).length ≤ 1048576 * 20 := by omega
      omega
    have e1 : (r.costs.getD (fl.getD i default).toNat default).getD (s.getD i default).toNat default = cst r (fl.getD i default) (s.getD i default) := rfl
    have e2 : r.owners.getD (fl.getD i default).toNat default = ownr r (fl.getD i default) := rfl
    have hro := hv.row (fl.getD i default).toNat (by omega)
    have ho := hv.own (fl.getD i default).toNat (by omega)
    rw [e2] at ho
    have hs4 := hv.s4
    simp only [show (i : Int) < (fl.length : Int) by omega, decide_true, cond_true, g0, g1, e1, e2]
    have hlen : c.length = 8 := by rw [hI]; simp
    have c1 : (0 : Int) ≤ i ∧ (i : Int) < fl.length := by omega
    have c2 : (0 : Int) ≤ fl.getD i default ∧ fl.getD i default < r.owners.length := ⟨a1, a2⟩
    have c3 : (0 : Int) ≤ ownr r (fl.getD i default) ∧ ownr r (fl.getD i default) < c.length := by omega
    have c4 : (0 : Int) ≤ fl.getD i default ∧ fl.getD i default < r.costs.length := by omega
    have c5 : (0 : Int) ≤ i ∧ (i : Int) < s.length := by omega
    have c6 : (0 : Int) ≤ s.getD i default ∧ s.getD i default < ((r.costs.getD (fl.getD i default).toNat default).length : Int) := by omega
    have cs := zip_take_succ h1 (show i < s.length by omega)
    simp only [true_and, ck_True, ck_eq c1, ck_eq c2, ck_eq c3, ck_eq c4, ck_eq c5, ck_eq c6, h3]
    refine ih _ ?_
    generalize fl.getD i default = f at *
    generalize s.getD i default = v at *
    have hk : ((ownr r f).toNat : Int) = ownr r f := by omega
    have hg : c.getD (ownr r f).toNat default = csum (ownr r) (cst r) (ownr r f) ((fl.zip s).take i) := by rw [hI, getD_map_range (by omega), hk]
    rw [hg, wrap_i64 (by have := hbound (ownr r f); omega) (by have := hbound (ownr r f); omega), hI]
    refine map_range_set (by omega) ?_ ?_
    · rw [cs, csum_append, hk]; simp [csum]
    · intro j hj; rw [cs, csum_append]; simp [csum]; omega
theorem asg_props {r : XRound} {s : List Int} (h : asgB r s = true) : s.length = r.owners.length ∧ ∀ i < s.length, 0 ≤ s.getD i default ∧ s.getD i default < r.slots ∧ 0 ≤ cst r i (s.getD i default) ∧ ∀ j < i, s.getD j default ≠ s.getD i default := by
  unfold asgB at h
  simp only [Bool.and_eq_true, decide_eq_true_eq, List.all_eq_true, List.mem_range] at h
  refine ⟨h.1, fun i hi => ?_⟩
  have := h.2 i hi
  unfold okS at this
  simp only [Bool.not_eq_true', Bool.or_eq_false_iff, decide_eq_false_iff_not, List.any_eq_false, decide_eq_true_eq] at this
  obtain ⟨b1, b2, b3, b4⟩ := this
  refine ⟨by omega, by omega, by omega, fun j hj e => b4 (s.getD j default) ?_ e.symm⟩
  have : (s.take i).getD j default ∈ s.take i := getD_mem (by rw [List.length_take]; omega)
  rwa [show (s.take i).getD j default = s.getD j default from by simp [hj]] at this
theorem ownL_len (r : XRound) : (ownL r).length = r.owners.length := by simp [ownL]
theorem ownL_getD {r : XRound} {i : Nat} (h : i < r.owners.length) : (ownL r).getD i default = i := by simp [ownL, h]
theorem fits_asg {r : XRound} {s : List Int} (hv : Val r) (h : asgB r s = true) : ∀ i < (ownL r).length, fits r ((ownL r).getD i default) (s.getD i default) := by
  intro i hi
  rw [ownL_len] at hi
  obtain ⟨e, h2⟩ := asg_props h
  obtain ⟨b1, b2, _, _⟩ := h2 i (by omega)
  rw [ownL_getD hi]
  exact ⟨by omega, by omega, b1, b2⟩
theorem fits_own {r : XRound} (hv : Val r) : ∀ i < (ownL r).length, fits r ((ownL r).getD i default) ((ownL r).getD i default) := by
  intro i hi
  rw [ownL_len] at hi
  rw [ownL_getD hi]
  have := hv.s3
  exact ⟨by omega, by omega, by omega, by omega⟩
theorem Val.n8 {r : XRound} (hv : Val r) : r.owners.length ≤ 8 := by have := hv.s3; have := hv.s2; omega
theorem cvec_asg {r : XRound} {s : List Int} (hv : Val r) (h : asgB r s = true) : m41_coalition_costs r (ownL r) s = some (cvec r (ownL r) s) :=
  m41_eq r _ s hv (by have := hv.n8; rw [ownL_len]; omega) (by rw [ownL_len, (asg_props h).1]; exact Nat.le_refl _) (fits_asg hv h)
theorem cvec_own {r : XRound} (hv : Val r) : m41_coalition_costs r (ownL r) (ownL r) = some (cvec r (ownL r) (ownL r)) :=
  m41_eq r _ _ hv (by have := hv.n8; rw [ownL_len]; omega) (Nat.le_refl _) (fits_own hv)
theorem good_props {r : XRound} {s : List Int} (h : goodB r s = true) : Val r ∧ asgB r s = true := by
  unfold goodB at h; simp only [Bool.and_eq_true] at h; exact ⟨Val.of h.1, h.2⟩
/-- the airlines that are worse off -/
def worseL (r : XRound) (s : List Int) : List Int := ((List.range 8).filter fun i => decide ((cvec r (ownL r) (ownL r)).getD i default < (cvec r (ownL r) s).getD i default)).map fun i : Nat => (i : Int)
theorem filter_range' {p : Nat → Bool} (i n : Nat) : (List.range' i (n + 1)).filter p = (if p i then [i] else []) ++ (List.range' (i + 1) n).filter p := by
  rw [List.range'_succ, List.filter_cons]; split <;> simp
theorem m23_eq (r : XRound) (s : List Int) (hs : smXRound r) (hl : s.length < 9223372036854775807) : m23_coalition_Worse r s = some (bif goodB r s then (worseL r s, 0) else ([], 370)) := by
  unfold m23_coalition_Worse
  rw [m39_eq r s hs hl]
  cases hg : goodB r s
  · rfl
  · obtain ⟨hv, ha⟩ := good_props hg
    simp only [cond_true, ne_eq, not_true_eq_false, decide_false, Option.bind_some, m42_eq r hv, cvec_asg hv ha, cvec_own hv, cond_false]
    unfold worseL
    rw [List.range_eq_range']
    have e1 : (cvec r (ownL r) (ownL r)).length = 8 := by simp [cvec]
    have e2 : (cvec r (ownL r) s).length = 8 := by simp [cvec]
    generalize cvec r (ownL r) (ownL r) = b at *
    generalize cvec r (ownL r) s = a at *
    rw [← e2]
    refine up_listB (fun i l => l.length ≤ i) (fun i t l => some (l ++ ((List.range' i t.length).filter fun i => decide (b.getD i default < a.getD i default)).map (fun i : Nat => (i : Int)), 0)) a (by omega) ?_ ?_ (by omega) (by exact Nat.le_refl _)
    · intro sf l hI; unfold m23_coalition_Worse_B0; simp
    · intro sf i l x t h1 h2 h3 hI ih
      unfold m23_coalition_Worse_B0
      have g0 : a.getD (i : Int).toNat default = a.getD i default := rfl
      have g1 : b.getD (i : Int).toNat default = b.getD i default := rfl
      have c1 : (0 : Int) ≤ i ∧ (i : Int) < a.length := by omega
      have c2 : (0 : Int) ≤ i ∧ (i : Int) < b.length := by omega
      have c3 : (l.length + [(i : Int)].length) * 8 ≤ 140737488355328 := by simp; omega
      simp only [decide_eq_true c1.2, cond_true, g0, g1, h3, ck_eq c1, ck_eq c2, ck_eq c3]
      rw [show (x :: t).length = t.length + 1 from rfl, filter_range']
      by_cases q : b.getD i default < a.getD i default
      · rw [decide_eq_true q, cond_true, ih _ (by simp; omega)]; simp
      · rw [decide_eq_false q, cond_false, ih _ (by omega)]; simp
end Go.Fx



/- Chapter 37: deviations and what blocks. -/
set_option linter.unusedSimpArgs false
set_option linter.unusedVariables false
namespace Go.Fx
open Go Go.RowKit
/-- the flights of a group -/
def flB (r : XRound) (group : List Int) : List Int := (ownL r).filter fun f => group.any fun x => decide (ownr r f = x)
theorem mem_ownL {r : XRound} {f : Int} : f ∈ ownL r ↔ 0 ≤ f ∧ f < r.owners.length := by
  unfold ownL; simp only [List.mem_map, List.mem_range]
  constructor
  · rintro ⟨i, hi, rfl⟩; omega
  · rintro ⟨h1, h2⟩; exact ⟨f.toNat, by omega, by omega⟩
theorem mem_flB {r : XRound} {g : List Int} {f : Int} : f ∈ flB r g ↔ (0 ≤ f ∧ f < r.owners.length) ∧ ownr r f ∈ g := by
  unfold flB; rw [List.mem_filter, mem_ownL]
  simp only [List.any_eq_true, decide_eq_true_eq, exists_eq_right']
theorem flB_len (r : XRound) (g : List Int) : (flB r g).length ≤ r.owners.length := by have := List.length_filter_le (fun f => g.any fun x => decide (ownr r f = x)) (ownL r); rwa [ownL_len] at this
def okf (r : XRound) (fl : List Int) (n : Nat) (s : Int) : Bool := decide (0 ≤ cst r (fl.getD n default) s)
def devL (r : XRound) (fl : List Int) : List (List Int) := dv fl (okf r fl) fl.length []
theorem contains_any (b : List Int) (s : Int) : (b.any fun x => decide (s = x)) = b.contains s := by
  rw [Bool.eq_iff_iff]; simp
theorem dev_eq (r : XRound) (fl : List Int) (hv : Val r) (hl : fl.length ≤ 8) (hf : ∀ f ∈ fl, 0 ≤ f ∧ f < r.owners.length) : ∀ (N : Nat) (b : List Int), b.length ≤ fl.length → fl.length - b.length < N → fixO (fun fx20 x21 => m80_coalition_deviations_1_1 x21 fl r fx20) N b = some (dv fl (okf r fl) (fl.length - b.length) b) := by
  intro N
  induction N with
  | zero => intro b _ h; omega
  | succ N ih =>
    intro b hb hN
    show m80_coalition_deviations_1_1 b fl r (fixO (fun fx20 x21 => m80_coalition_deviations_1_1 x21 fl r fx20) N) = _
    generalize fixO (fun fx20 x21 => m80_coalition_deviations_1_1 x21 fl r fx20) N = FX at ih ⊢
    unfold m80_coalition_deviations_1_1
    by_cases q : b.length = fl.length
    · have q' : (b.length : Int) = fl.length := by omega
      rw [decide_eq_true q', cond_true]
      unfold m58_slices_Cloneint_int_
      rw [ck_eq (by simp; omega), show fl.length - b.length = 0 by omega]
      rfl
    · have q' : ¬ (b.length : Int) = fl.length := by omega
      rw [decide_eq_false q', cond_false]
      obtain ⟨k, hk⟩ : ∃ k, fl.length - b.length = k + 1 := ⟨fl.length - b.length - 1, by omega⟩
      rw [hk]
      refine up_list0 (fun t => some (t.flatMap fun s => bif okf r fl b.length s && !b.contains s then dv fl (okf r fl) k (b ++ [s]) else [])) fl (by omega) ?_ ?_ (by omega)
      · intro sf; unfold m80_coalition_deviations_1_1_B0; simp
      · intro sf i x t h1 h2 h3 ih2
        have hx : fl.getD (i : Int).toNat default = x := getD_of h2
        have hxm : x ∈ fl := List.mem_of_getElem? h2
        have hbm : fl.getD b.length default ∈ fl := getD_mem (by omega)
        have a1 := hf _ hxm
        have a2 := hf _ hbm
        have hrow := hv.row (fl.getD b.length default).toNat (by omega)
        unfold m80_coalition_deviations_1_1_B0
        have c1 : (0 : Int) ≤ i ∧ (i : Int) < fl.length := by omega
        have c2 : (0 : Int) ≤ (b.length : Int) ∧ (b.length : Int) < fl.length := by omega
        have c3 : (0 : Int) ≤ fl.getD b.length default ∧ fl.getD b.length default < r.costs.length := by have := hv.s4; omega
        have c4 : (0 : Int) ≤ x ∧ x < ((r.costs.getD (fl.getD b.length default).toNat default).length : Int) := by have := hv.s3; omega
        have e1 : (r.costs.getD (fl.getD b.length default).toNat default).getD x.toNat default = cst r (fl.getD b.length default) x := rfl
        simp only [decide_eq_true c1.2, cond_true, ck_eq c1, hx, ck_eq c2, ck_eq c3, ck_eq c4]
        rw [List.flatMap_cons, e1, h3, ih2]
        have hok : okf r fl b.length x = decide (0 ≤ cst r (fl.getD b.length default) x) := rfl
        rw [hok]
        cases decide (0 ≤ cst r (fl.getD b.length default) x)
        · rfl
        · rw [cond_true, Bool.true_and, m43_eq b x (by omega), contains_any]
          cases hc : b.contains x
          · have c5 : (0 : Int) ≤ (b.length : Int) ∧ (b.length : Int) ≤ (b.length : Int) := by omega
            have e2 : (b.drop 0).take (b.length - 0) = b := by simp
            have c6 : (b.length + [x].length) * 8 ≤ 140737488355328 := by simp; omega
            have c7 : 0 < [x].length := by simp
            simp only [Option.bind_some, Bool.not_false, cond_true, ck_eq c5, e2, ck_eq c6, ck_eq c7]
            rw [ih (b ++ [x]) (by simp; omega) (by simp; omega)]
            rw [show fl.length - (b ++ [x]).length = k by simp; omega]
            rfl
          · rfl
theorem m63_eq (r : XRound) (fl : List Int) (hv : Val r) (hl : fl.length ≤ 8) (hf : ∀ f ∈ fl, 0 ≤ f ∧ f < r.owners.length) : m63_coalition_deviations r fl = some (devL r fl) := by
  unfold m63_coalition_deviations m79_coalition_deviations_1
  rw [dev_eq r fl hv hl hf 1000000 [] (by simp) (by simp; omega)]
  simp [apl, devL]
/-- x is better for all airlines of the group -/
def bet (r : XRound) (than group fl x : List Int) : Bool := group.all fun o => decide ((cvec r fl x).getD o.toNat default < than.getD o.toNat default)
def blk (r : XRound) (than group : List Int) : List Int × Bool := match (devL r (flB r group)).find? (bet r than group (flB r group)) with
  | some x => (x, true)
  | none => ([], false)
theorem gd_get {fl : List Int} {ok : Nat → Int → Bool} : ∀ {t b : List Int}, gd fl ok b t ↔ ∀ i < t.length, t.getD i default ∈ fl ∧ ok (b.length + i) (t.getD i default) = true ∧ t.getD i default ∉ b ∧ ∀ j < i, t.getD j default ≠ t.getD i default := by
  intro t
  induction t with
  | nil => intro b; simp [gd]
  | cons s t ih =>
    intro b
    unfold gd
    rw [ih]
    constructor
    · rintro ⟨h1, h2, h3, h4⟩ i hi
      cases i with
      | zero => exact ⟨h1, h2, h3, fun j hj => by omega⟩
      | succ i =>
        obtain ⟨k1, k2, k3, k4⟩ := h4 i (by simpa using hi)
        rw [List.getD_cons_succ]
        refine ⟨k1, ?_, fun h => k3 (List.mem_append_left _ h), fun j hj => ?_⟩
        · rw [← k2]; congr 1; simp; omega
        · cases j with
          | zero => rw [List.getD_cons_zero]; intro e; exact k3 (List.mem_append_right _ (by simp [e]))
          | succ j => rw [List.getD_cons_succ]; exact k4 j (by omega)
    · intro h
      obtain ⟨a1, a2, a3, _⟩ := h 0 (by simp)
      refine ⟨a1, a2, a3, fun i hi => ?_⟩
      obtain ⟨k1, k2, k3, k4⟩ := h (i + 1) (by simpa using hi)
      rw [List.getD_cons_succ] at k1 k2 k3 k4
      refine ⟨k1, ?_, fun hm => ?_, fun j hj => ?_⟩
      · rw [← k2]; congr 1; simp; omega
      · rcases List.mem_append.1 hm with hm | hm
        · exact k3 hm
        · have := k4 0 (by omega); rw [List.getD_cons_zero] at this; exact this (List.mem_singleton.1 hm).symm
      · have := k4 (j + 1) (by omega); rwa [List.getD_cons_succ] at this
theorem mem_devL {r : XRound} {fl x : List Int} : x ∈ devL r fl ↔ x.length = fl.length ∧ ∀ i < x.length, x.getD i default ∈ fl ∧ 0 ≤ cst r (fl.getD i default) (x.getD i default) ∧ ∀ j < i, x.getD j default ≠ x.getD i default := by
  unfold devL
  rw [mem_dv]
  constructor
  · rintro ⟨t, rfl, hl, hg⟩
    refine ⟨hl, fun i hi => ?_⟩
    obtain ⟨h1, h2, _, h4⟩ := gd_get.1 hg i hi
    refine ⟨h1, ?_, h4⟩
    unfold okf at h2; simpa using h2
  · rintro ⟨hl, h⟩
    refine ⟨x, rfl, hl, gd_get.2 fun i hi => ?_⟩
    obtain ⟨h1, h2, h3⟩ := h i hi
    refine ⟨h1, ?_, by simp, h3⟩
    unfold okf; simpa using h2
theorem fits_dev {r : XRound} {fl x : List Int} (hv : Val r) (hf : ∀ f ∈ fl, 0 ≤ f ∧ f < r.owners.length) (h : x ∈ devL r fl) : ∀ i < fl.length, fits r (fl.getD i default) (x.getD i default) := by
  intro i hi
  obtain ⟨hl, h⟩ := mem_devL.1 h
  obtain ⟨h1, _⟩ := h i (by omega)
  have a1 := hf _ (getD_mem hi)
  have a2 := hf _ h1
  have := hv.s3
  exact ⟨a1.1, a1.2, a2.1, by omega⟩
/-- a group of airlines -/
def grp (g : List Int) : Prop := ∀ o ∈ g, 0 ≤ o ∧ o < 8
theorem m40_eq (r : XRound) (than group : List Int) (hv : Val r) (ht : than.length = 8) (hg : grp group) (hgl : group.length < 9223372036854775807) : m40_coalition_blocks r than group = some (blk r than group) := by
  unfold m40_coalition_blocks
  have hn8 := hv.n8
  have hfl : ∀ f ∈ flB r group, 0 ≤ f ∧ f < r.owners.length := fun f hf => (mem_flB.1 hf).1
  have hfn : (flB r group).length ≤ 8 := by have := flB_len r group; omega
  refine up_listA (fun i l => l.length ≤ i ∧ l ++ ((List.range' i (r.owners.length - i)).map fun j : Nat => (j : Int)).filter (fun f => group.any fun x => decide (ownr r f = x)) = flB r group) (fun _ _ _ => some (blk r than group)) r.owners (by omega) ?_ ?_ (by omega) ⟨Nat.le_refl _, by simp [flB, ownL, List.range_eq_range']⟩
  · intro sf l hI
    have hI := hI.2
    rw [Nat.sub_self] at hI
    simp only [List.range'_zero, List.map_nil, List.filter_nil, List.append_nil] at hI
    subst hI
    unfold m40_coalition_blocks_B0
    have c1 : ¬ (r.owners.length : Int) < r.owners.length := by omega
    rw [decide_eq_false c1, cond_false, m63_eq r _ hv hfn hfl]
    simp only [Option.bind_some, jn_eq]
    unfold blk
    have main : ∀ L : List (List Int), (∀ x ∈ L, x ∈ devL r (flB r group)) → rng2 (m40_coalition_blocks_B1 r than group (flB r group) fun v_3 v_4 => some (v_4, v_3)) (fun v_3 v_4 => some (([] : List Int), false)) L false ([] : List Int) = some (match L.find? (bet r than group (flB r group)) with
  | some x => (x, true)
  | none => ([], false)) := by
      intro L
      induction L with
      | nil => intro _; rw [rng2_nil, List.find?_nil]
      | cons x t ih =>
        intro hL
        have hx := hL x (List.mem_cons_self ..)
        have ih := ih fun y hy => hL y (List.mem_cons_of_mem _ hy)
        rw [rng2_cons]
        generalize rng2 (m40_coalition_blocks_B1 r than group (flB r group) fun v_3 v_4 => some (v_4, v_3)) (fun v_3 v_4 => some (([] : List Int), false)) t = SF at ih ⊢
        unfold m40_coalition_blocks_B1
        rw [m41_eq r _ x hv (by omega) (by rw [(mem_devL.1 hx).1]; exact Nat.le_refl _) (fits_dev hv hfl hx)]
        rw [Option.bind_some]
        have hcl : (cvec r (flB r group) x).length = 8 := by simp [cvec]
        rw [List.find?_cons]
        have : bet r than group (flB r group) x = group.all fun o => decide ((cvec r (flB r group) x).getD o.toNat default < than.getD o.toNat default) := rfl
        rw [this]
        clear this
        generalize cvec r (flB r group) x = now at *
        have lp : loop1 (m40_coalition_blocks_B2 than group (fun v_3 v_4 => some (v_4, v_3)) false [] SF x now) (((group.length : Int) - 0).toNat + 1) 0 = bif (group.all fun o => decide (now.getD o.toNat default < than.getD o.toNat default)) then some (x, true) else SF false [] := by
          refine up_list0 (fun t => bif (t.all fun o => decide (now.getD o.toNat default < than.getD o.toNat default)) then some (x, true) else SF false []) group hgl ?_ ?_ (show group.length < ((group.length : Int) - 0).toNat + 1 by omega)
          · intro sf; unfold m40_coalition_blocks_B2; simp
          · intro sf i y u h1 h2 h3 ih2
            unfold m40_coalition_blocks_B2
            have hy : group.getD (i : Int).toNat default = y := getD_of h2
            have ho := hg y (List.mem_of_getElem? h2)
            have c1 : (0 : Int) ≤ i ∧ (i : Int) < group.length := by omega
            have c2 : (0 : Int) ≤ y ∧ y < now.length := by omega
            have c3 : (0 : Int) ≤ y ∧ y < than.length := by omega
            simp only [decide_eq_true c1.2, cond_true, ck_eq c1, hy, ck_eq c2, ck_eq c3, h3, ih2, List.all_cons]
            by_cases q : than.getD y.toNat default ≤ now.getD y.toNat default
            · have q2 : ¬ now.getD y.toNat default < than.getD y.toNat default := by omega
              rw [decide_eq_true q, decide_eq_false q2]; rfl
            · have q2 : now.getD y.toNat default < than.getD y.toNat default := by omega
              rw [decide_eq_false q, decide_eq_true q2]; rfl
        rw [lp]
        cases (group.all fun o => decide (now.getD o.toNat default < than.getD o.toNat default))
        · exact ih
        · rfl
    exact main _ fun x h => h
  · intro sf i l y t h1 h2 h3 hI ih
    unfold m40_coalition_blocks_B0
    have c1 : (0 : Int) ≤ i ∧ (i : Int) < r.owners.length := by omega
    have e1 : r.owners.getD (i : Int).toNat default = ownr r i := rfl
    have c2 : (l.length + [(i : Int)].length) * 8 ≤ 140737488355328 := by have := hI.1; simp; omega
    simp only [decide_eq_true c1.2, cond_true, ck_eq c1, e1, m43_eq group _ hgl, Option.bind_some, ck_eq c2, h3]
    obtain ⟨k, hk⟩ : ∃ k, r.owners.length - i = k + 1 := ⟨r.owners.length - i - 1, by omega⟩
    obtain ⟨hI1, hI2⟩ := hI
    rw [hk, List.range'_succ, List.map_cons, List.filter_cons] at hI2
    have hk2 : r.owners.length - (i + 1) = k := by omega
    cases hq : (group.any fun x => decide (ownr r (i : Int) = x))
    · rw [hq] at hI2
      rw [cond_false]
      exact ih _ ⟨by omega, by rw [hk2]; simpa using hI2⟩
    · rw [hq] at hI2
      rw [cond_true]
      exact ih _ ⟨by simp; omega, by rw [hk2]; simpa using hI2⟩
/-- strictly rising -/
def risB (g : List Int) : Bool := (List.range g.length).all fun i => !(decide (g.getD i default < 0) || (decide (8 ≤ g.getD i default) || (decide (0 < i) && decide (g.getD i default ≤ g.getD (i - 1) default))))
theorem risB_props {g : List Int} (h : risB g = true) : grp g ∧ g.Pairwise (· < ·) := by
  unfold risB at h
  simp only [List.all_eq_true, List.mem_range, Bool.not_eq_true', Bool.or_eq_false_iff, decide_eq_false_iff_not, Bool.and_eq_false_iff] at h
  constructor
  · intro o ho
    obtain ⟨i, hi, rfl⟩ := List.getElem_of_mem ho
    have := h i hi
    rw [getD_getElem hi] at this
    omega
  · have key : ∀ k i, i + k + 1 < g.length → g.getD i default < g.getD (i + k + 1) default := by
      intro k
      induction k with
      | zero => intro i hi; have := (h (i + 0 + 1) hi).2.2; rw [show i + 0 + 1 - 1 = i by omega] at this; omega
      | succ k ih => intro i hi; have h1 := ih i (by omega); have := (h (i + (k + 1) + 1) hi).2.2; rw [show i + (k + 1) + 1 - 1 = i + k + 1 by omega] at this; omega
    rw [List.pairwise_iff_getElem]
    intro i j hi hj hij
    have := key (j - i - 1) i (by omega)
    rw [show i + (j - i - 1) + 1 = j by omega, getD_getElem hi, getD_getElem hj] at this
    exact this
def blocksM (r : XRound) (s g : List Int) : List Int × Bool × Int := bif goodB r s then (bif risB g && decide (g ≠ []) then ((blk r (cvec r (ownL r) s) g).1, (blk r (cvec r (ownL r) s) g).2, 0) else ([], false, 1)) else ([], false, 370)
theorem m17_eq (r : XRound) (s g : List Int) (hs : smXRound r) (hl : s.length < 9223372036854775807) (hgl : g.length < 9223372036854775807) : m17_coalition_Blocks r s g = some (blocksM r s g) := by
  unfold m17_coalition_Blocks blocksM
  rw [m39_eq r s hs hl]
  cases hg : goodB r s
  · rfl
  obtain ⟨hv, ha⟩ := good_props hg
  simp only [cond_true, Option.bind_some, ne_eq, not_true_eq_false, decide_false, cond_false]
  have fin : ∀ k : Nat, k = g.length → risB g = true → m17_coalition_Blocks_B0 r s g = m17_coalition_Blocks_B0 r s g := fun _ _ _ => rfl
  have lp : loop1 (m17_coalition_Blocks_B0 r s g) (((g.length : Int) - 0).toNat + 1) 0 = bif (List.range' 0 g.length).all (fun i => !(decide (g.getD i default < 0) || (decide (8 ≤ g.getD i default) || (decide (0 < i) && decide (g.getD i default ≤ g.getD (i - 1) default))))) then (bif decide ((g.length : Int) = 0) then some ([], false, 1) else (bif risB g then some ((blk r (cvec r (ownL r) s) g).1, (blk r (cvec r (ownL r) s) g).2, 0) else m17_coalition_Blocks_B0 r s g (fun _ => none) (g.length : Nat))) else some ([], false, 1) := by
    refine up_listI (fun i t => bif (List.range' i t.length).all (fun i => !(decide (g.getD i default < 0) || (decide (8 ≤ g.getD i default) || (decide (0 < i) && decide (g.getD i default ≤ g.getD (i - 1) default))))) then (bif decide ((g.length : Int) = 0) then some ([], false, 1) else (bif risB g then some ((blk r (cvec r (ownL r) s) g).1, (blk r (cvec r (ownL r) s) g).2, 0) else m17_coalition_Blocks_B0 r s g (fun _ => none) (g.length : Nat))) else some ([], false, 1)) g hgl ?_ ?_ (show g.length < ((g.length : Int) - 0).toNat + 1 by omega)
    · intro sf
      rw [show (List.range' g.length ([] : List Int).length) = [] from rfl, List.all_nil, cond_true]
      unfold m17_coalition_Blocks_B0
      have c1 : ¬ (g.length : Int) < g.length := by omega
      rw [decide_eq_false c1, cond_false, cond_false]
      cases decide ((g.length : Int) = 0)
      · rw [cond_false, cond_false]
        cases hr : risB g
        · rfl
        · rw [cond_true, m42_eq r hv, Option.bind_some, cvec_asg hv ha, Option.bind_some, m40_eq r _ g hv (by simp [cvec]) (risB_props hr).1 hgl]; rfl
      · rfl
    · intro sf i x t h1 h2 h3 ih
      rw [List.length_cons, all_range']
      generalize (bif decide ((g.length : Int) = 0) then some ([], false, 1) else (bif risB g then some ((blk r (cvec r (ownL r) s) g).1, (blk r (cvec r (ownL r) s) g).2, 0) else m17_coalition_Blocks_B0 r s g (fun _ => none) (g.length : Nat))) = E at *
      unfold m17_coalition_Blocks_B0
      have hx : g.getD (i : Int).toNat default = g.getD i default := rfl
      have c1 : (0 : Int) ≤ i ∧ (i : Int) < g.length := by omega
      simp only [decide_eq_true c1.2, cond_true, ck_eq c1, hx, h3, ih, jn_eq]
      generalize (List.range' (i + 1) t.length).all (fun i => !(decide (g.getD i default < 0) || (decide (8 ≤ g.getD i default) || (decide (0 < i) && decide (g.getD i default ≤ g.getD (i - 1) default))))) = rest
      generalize decide (g.getD i default < 0) = b1
      generalize decide (8 ≤ g.getD i default) = b2
      cases b1
      · cases b2
        · by_cases q : 0 < i
          · have w : IntKind.i64.wrap ((i : Int) - 1) = ((i - 1 : Nat) : Int) := (wrap_i64 (by omega) (by omega)).trans (by omega)
            have c2 : (0 : Int) ≤ ((i - 1 : Nat) : Int) ∧ ((i - 1 : Nat) : Int) < g.length := by omega
            have e2 : g.getD ((i - 1 : Nat) : Int).toNat default = g.getD (i - 1) default := rfl
            rw [decide_eq_true (show (0 : Int) < i by omega), decide_eq_true q, w]
            simp only [cond_true, cond_false, ck_eq c2, e2]
            cases decide (g.getD i default ≤ g.getD (i - 1) default) <;> cases rest <;> rfl
          · rw [decide_eq_false (show ¬ (0 : Int) < i by omega), decide_eq_false q]
            cases rest <;> rfl
        · rfl
      · rfl
  rw [lp]
  have hrr : risB g = (List.range' 0 g.length).all (fun i => !(decide (g.getD i default < 0) || (decide (8 ≤ g.getD i default) || (decide (0 < i) && decide (g.getD i default ≤ g.getD (i - 1) default))))) := by rw [← List.range_eq_range']; rfl
  rw [← hrr]
  cases hr : risB g
  · rfl
  · by_cases q : g = []
    · subst q; rfl
    · have : ¬ (g.length : Int) = 0 := by have := List.length_pos_iff.2 q; omega
      rw [decide_eq_false this, decide_eq_true q]; rfl
end Go.Fx



/- Chapter 37: stable assignments, members, better. -/
set_option linter.unusedSimpArgs false
set_option linter.unusedVariables false
namespace Go.Fx
open Go Go.RowKit
def bitOn (b o : Nat) : Bool := !decide ((Go.bits .and .i64 ((b : Int) / 2 ^ min o (IntKind.bits .i64)) 1) = 0)
def grpOf (b : Nat) : List Int := ((List.range 8).filter (bitOn b)).map fun o : Nat => (o : Int)
theorem grpOf_grp (b : Nat) : grp (grpOf b) := by
  intro o ho
  unfold grpOf at ho
  simp only [List.mem_map, List.mem_filter, List.mem_range] at ho
  obtain ⟨a, ⟨h, _⟩, rfl⟩ := ho; omega
def hasF (r : XRound) (o : Int) : Bool := r.owners.any fun x => decide (o = x)
/-- group b blocks -/
def stB (r : XRound) (than : List Int) (b : Nat) : Bool := ((List.range 8).all fun o : Nat => !bitOn b o || hasF r o) && (!decide (((grpOf b).length : Int) = 0) && (blk r than (grpOf b)).2)
theorem m19_loop (r : XRound) (than : List Int) (hv : Val r) (ht : than.length = 8) : loop1 (m19_coalition_Stable_B0 r than) (((256 : Int) - 0).toNat + 1) 0 = some (!(List.range 256).any (stB r than), 0) := by
  rw [List.range_eq_range']
  refine (up_listI (fun i t => some (!(List.range' i t.length).any (stB r than), 0)) (List.range' 0 256) (by rw [List.length_range']; omega) ?_ ?_ (show (List.range' 0 256).length < ((256 : Int) - 0).toNat + 1 by rw [List.length_range']; omega)).trans (by rw [List.length_range'])
  · intro sf; unfold m19_coalition_Stable_B0; rw [List.length_range']; rfl
  · intro sf b x t h1 h2 h3 ih
    rw [List.length_range'] at h1
    rw [List.length_cons, any_range']
    unfold m19_coalition_Stable_B0
    rw [decide_eq_true (show (b : Int) < 256 by omega), cond_true, jn_eq, h3, ih]
    generalize (List.range' (b + 1) t.length).any (stB r than) = rest
    refine (up_listB (s := ([] : List Int)) (fun i s => s = ((List.range i).filter (bitOn b)).map fun o : Nat => (o : Int)) (fun i t s => bif (List.range' i t.length).all (fun o : Nat => !bitOn b o || hasF r o) then (bif (!decide (((grpOf b).length : Int) = 0) && (blk r than (grpOf b)).2) then some (false, 0) else some (!rest, 0)) else some (!rest, 0)) (List.range' 0 8) (by rw [List.length_range']; omega) ?_ ?_ (show (List.range' 0 8).length < ((8 : Int) - 0).toNat + 1 by rw [List.length_range']; omega) (by rfl)).trans ?_
    · intro sg s hI
      rw [List.length_range'] at hI ⊢
      have hI : s = grpOf b := hI
      subst hI
      unfold m19_coalition_Stable_B1
      rw [m40_eq r than _ hv ht (grpOf_grp b) (by have := List.length_filter_le (bitOn b) (List.range 8); unfold grpOf; simp at this ⊢; omega)]
      rw [show (List.range' 8 ([] : List Nat).length).all (fun o : Nat => !bitOn b o || hasF r o) = true from rfl]
      rw [decide_eq_false (show ¬ ((8 : Nat) : Int) < 8 by omega), Option.bind_some, cond_false]
      cases decide (((grpOf b).length : Int) = 0) <;> cases (blk r than (grpOf b)).2 <;> rfl
    · intro sg o s y u j1 j2 j3 hI ih2
      rw [List.length_range'] at j1
      rw [List.length_cons, all_range']
      unfold m19_coalition_Stable_B1
      have c1 : (0 : Int) ≤ o := by omega
      have c2 : (s.length + [(o : Int)].length) * 8 ≤ 140737488355328 := by
        have := List.length_filter_le (bitOn b) (List.range o)
        rw [hI]; simp at this ⊢; omega
      have hb : decide ((Go.bits .and .i64 ((b : Int) / 2 ^ min (o : Int).toNat (IntKind.bits .i64)) 1) = 0) = !bitOn b o := by unfold bitOn; rw [Bool.not_not, Int.toNat_natCast]
      rw [decide_eq_true (show (o : Int) < 8 by omega), cond_true, ck_eq c1, hb, j3]
      have hI' : ∀ s', s' = s ++ (([o].filter (bitOn b)).map fun o : Nat => (o : Int)) → s' = ((List.range (o + 1)).filter (bitOn b)).map fun o : Nat => (o : Int) := by
        intro s' h; rw [h, hI, List.range_succ, List.filter_append, List.map_append]
      have hm := m43_eq r.owners (o : Int) (by have := hv.n8; omega)
      rw [hm]
      have hh : hasF r o = r.owners.any fun x => decide ((o : Int) = x) := rfl
      rw [← hh]
      cases hbo : bitOn b o
      · rw [Bool.not_false, cond_true, ih2 _ (hI' _ (by rw [List.filter_cons, hbo]; simp))]
        rfl
      · rw [Bool.not_true, cond_false, Option.bind_some]
        cases hasF r o
        · rfl
        · rw [Bool.not_true, cond_false, ck_eq c2, ih2 _ (hI' _ (by rw [List.filter_cons, hbo]; simp))]
          rfl
    · rw [List.length_range']
      unfold stB
      rw [List.range_eq_range']
      cases (List.range' 0 8).all (fun o : Nat => !bitOn b o || hasF r o) <;> cases (!decide (((grpOf b).length : Int) = 0) && (blk r than (grpOf b)).2) <;> rfl
def stableB (r : XRound) (s : List Int) : Bool := decide (worseL r s = []) && !(List.range 256).any (stB r (cvec r (ownL r) s))
theorem m19_eq (r : XRound) (s : List Int) (hs : smXRound r) (hl : s.length < 9223372036854775807) : m19_coalition_Stable r s = some (bif goodB r s then (stableB r s, 0) else (false, 370)) := by
  unfold m19_coalition_Stable
  rw [m23_eq r s hs hl]
  cases hg : goodB r s
  · rfl
  obtain ⟨hv, ha⟩ := good_props hg
  simp only [cond_true, Option.bind_some, jn_eq]
  rw [m42_eq r hv, Option.bind_some, cvec_asg hv ha, Option.bind_some, m19_loop r _ hv (by simp [cvec])]
  unfold stableB
  by_cases q : worseL r s = []
  · rw [q]; rfl
  · have : (0 : Int) < (worseL r s).length := by have := List.length_pos_iff.2 q; omega
    rw [decide_eq_true this, decide_eq_false q]; rfl
end Go.Fx



/- Chapter 37: what blocks is not stable. -/
set_option linter.unusedSimpArgs false
set_option linter.unusedVariables false
namespace Go.Fx
open Go Go.RowKit
theorem blk_spec (r : XRound) (than g : List Int) : ((blk r than g).2 = true ∧ (blk r than g).1 ∈ devL r (flB r g) ∧ bet r than g (flB r g) (blk r than g).1 = true) ∨ ((blk r than g) = ([], false) ∧ ∀ x ∈ devL r (flB r g), bet r than g (flB r g) x = false) := by
  unfold blk
  cases h : (devL r (flB r g)).find? (bet r than g (flB r g)) with
  | none => right; exact ⟨rfl, fun x hx => by have := List.find?_eq_none.1 h x hx; simpa using this⟩
  | some x => left; exact ⟨rfl, List.mem_of_find?_eq_some h, List.find?_some h⟩
theorem csum_zero {own : Int → Int} {cost : Int → Int → Int} {o : Int} {l : List (Int × Int)} (h : ∀ p ∈ l, own p.1 ≠ o) : csum own cost o l = 0 := by
  induction l with
  | nil => rfl
  | cons p t ih =>
    obtain ⟨f, s⟩ := p
    simp only [csum]
    rw [if_neg (h (f, s) (List.mem_cons_self ..)), ih fun p hp => h p (List.mem_cons_of_mem _ hp)]; rfl
theorem hasF_iff {r : XRound} {o : Int} : hasF r o = true ↔ ∃ f : Int, 0 ≤ f ∧ f < r.owners.length ∧ ownr r f = o := by
  unfold hasF
  simp only [List.any_eq_true, decide_eq_true_eq]
  constructor
  · rintro ⟨x, hx, rfl⟩
    obtain ⟨i, hi, rfl⟩ := List.getElem_of_mem hx
    exact ⟨i, by omega, by omega, by unfold ownr; rw [Int.toNat_natCast, getD_getElem hi]⟩
  · rintro ⟨f, h1, h2, rfl⟩
    exact ⟨_, getD_mem (by omega), rfl⟩
theorem zip_own {r : XRound} {fl s : List Int} {o : Int} (hf : ∀ f ∈ fl, 0 ≤ f ∧ f < r.owners.length) (h : hasF r o = false) : csum (ownr r) (cst r) o (fl.zip s) = 0 := by
  refine csum_zero fun p hp e => ?_
  have := List.of_mem_zip hp
  have := hf _ this.1
  have : hasF r o = true := hasF_iff.2 ⟨p.1, this.1, this.2, e⟩
  rw [h] at this; cases this
/-- whoever blocks has flights -/
theorem bet_has {r : XRound} {s g x : List Int} (hg : grp g) (hb : bet r (cvec r (ownL r) s) g (flB r g) x = true) : ∀ o ∈ g, hasF r o = true := by
  intro o ho
  cases hh : hasF r o with
  | true => rfl
  | false =>
    unfold bet at hb
    rw [List.all_eq_true] at hb
    have := hb o ho
    have ho8 := hg o ho
    unfold cvec at this
    rw [getD_map_range (by omega), getD_map_range (by omega), show ((o.toNat : Nat) : Int) = o by omega] at this
    rw [zip_own (fun f hf => (mem_flB.1 hf).1) hh, zip_own (fun f hf => mem_ownL.1 hf) hh] at this
    simp at this
end Go.Fx



set_option linter.unusedVariables false
set_option linter.unusedSimpArgs false
set_option maxRecDepth 100000
set_option maxHeartbeats 0
namespace Go.Fx
open Go Go.RowKit Go.Proofs
end Go.Fx



/- Chapter 37: members, better. -/
set_option linter.unusedSimpArgs false
set_option linter.unusedVariables false
namespace Go.Fx
open Go Go.RowKit
theorem m21_eq (r : XRound) (g : List Int) (hv : Val r) (hp : g.Pairwise (· < ·)) (hg : g.length ≤ 20) : m21_overflightlaw37_members r g = some (flB r g) := by
  unfold m21_overflightlaw37_members
  have hn8 := hv.n8
  refine up_listB (s := ([] : List Int)) (fun i l => l.length ≤ i ∧ l ++ ((List.range' i (r.owners.length - i)).map fun j : Nat => (j : Int)).filter (fun f => g.any fun x => decide (ownr r f = x)) = flB r g) (fun _ _ _ => some (flB r g)) r.owners (by omega) ?_ ?_ (show r.owners.length < ((r.owners.length : Int) - 0).toNat + 1 by omega) ⟨Nat.le_refl _, by simp [flB, ownL, List.range_eq_range']⟩
  · intro sf l hI
    have hI := hI.2
    rw [Nat.sub_self] at hI
    simp only [List.range'_zero, List.map_nil, List.filter_nil, List.append_nil] at hI
    subst hI
    unfold m21_overflightlaw37_members_B0
    have c1 : ¬ (r.owners.length : Int) < r.owners.length := by omega
    rw [decide_eq_false c1]; rfl
  · intro sf i l y t h1 h2 h3 hI ih
    unfold m21_overflightlaw37_members_B0
    have c1 : (0 : Int) ≤ i ∧ (i : Int) < r.owners.length := by omega
    rw [decide_eq_true c1.2, cond_true, ck_eq c1]
    refine (up_listB (s := l) (fun j s => s.length ≤ i + j) (fun j t s => sf (s ++ if ownr r i ∈ g.drop j then [(i : Int)] else []) ((i : Int) + 1)) g (by omega) ?_ ?_ (show g.length < ((g.length : Int) - 0).toNat + 1 by omega) (by have := hI.1; omega)).trans ?_
    · intro sg s hJ
      unfold m21_overflightlaw37_members_B1
      have d1 : ¬ (g.length : Int) < g.length := by omega
      rw [decide_eq_false d1, cond_false, h3]; simp
    · intro sg j s x u j1 j2 j3 hJ ih2
      unfold m21_overflightlaw37_members_B1
      have d1 : (0 : Int) ≤ j ∧ (j : Int) < g.length := by omega
      have hx : g.getD (j : Int).toNat default = x := getD_of j2
      have e1 : r.owners.getD (i : Int).toNat default = ownr r i := rfl
      have d2 : (s.length + [(i : Int)].length) * 8 ≤ 140737488355328 := by simp; omega
      have hdr : g.drop j = x :: g.drop (j + 1) := by
        obtain ⟨hj, rfl⟩ := List.getElem?_eq_some_iff.1 j2
        exact List.drop_eq_getElem_cons hj
      have hnx : ∀ z ∈ g.drop (j + 1), x < z := by
        have := hp.sublist (List.drop_sublist j g)
        rw [hdr, List.pairwise_cons] at this
        exact this.1
      rw [decide_eq_true d1.2, cond_true, ck_eq d1, hx, e1, j3, hdr]
      by_cases q : x = ownr r i
      · rw [decide_eq_true q, cond_true, ck_eq d2, ih2 _ (by simp; omega)]
        have n1 : ownr r (i : Int) ∉ g.drop (j + 1) := fun h => by have := hnx _ h; omega
        rw [if_neg n1, if_pos (by rw [q]; exact List.mem_cons_self ..)]; simp
      · rw [decide_eq_false q, cond_false, ih2 _ (by omega)]
        have : (ownr r (i : Int) ∈ x :: g.drop (j + 1)) = (ownr r (i : Int) ∈ g.drop (j + 1)) := by
          apply propext; rw [List.mem_cons]; exact ⟨fun h => h.resolve_left fun e => q e.symm, .inr⟩
        simp only [this]
    · obtain ⟨k, hk⟩ : ∃ k, r.owners.length - i = k + 1 := ⟨r.owners.length - i - 1, by omega⟩
      obtain ⟨hI1, hI2⟩ := hI
      rw [hk, List.range'_succ, List.map_cons, List.filter_cons] at hI2
      have hk2 : r.owners.length - (i + 1) = k := by omega
      rw [List.drop_zero]
      have hany : (g.any fun x => decide (ownr r (i : Int) = x)) = decide (ownr r (i : Int) ∈ g) := by rw [contains_any]; simp
      rw [hany] at hI2
      by_cases q : ownr r (i : Int) ∈ g
      · rw [if_pos q]; rw [decide_eq_true q] at hI2
        exact ih _ ⟨by simp; omega, by rw [hk2]; simpa using hI2⟩
      · rw [if_neg q]; rw [decide_eq_false q] at hI2
        exact ih _ ⟨by simp; omega, by rw [hk2]; simpa using hI2⟩
end Go.Fx



/- CoalitionFree. -/
set_option linter.unusedSimpArgs false
set_option linter.unusedVariables false
namespace Go.Fx
open Go Go.RowKit
/-- one slot more, free to nobody -/
def extR (r : XRound) : XRound := ⟨r.slots + 1, r.owners, r.costs.map fun c => ([] ++ c) ++ [-1]⟩
theorem getD_app {l m : List Int} {i : Nat} (h : i < l.length) : (l ++ m).getD i default = l.getD i default := by simp [List.getD, List.getElem?_append_left h]
theorem getD_end {l : List Int} {x : Int} : (l ++ [x]).getD l.length default = x := by simp [List.getD]
theorem rowX {r : XRound} {i : Nat} (h : i < r.costs.length) : (extR r).costs.getD i default = r.costs.getD i default ++ [-1] := by
  simp [extR, h]
theorem cstX {r : XRound} (hv : Val r) {f s : Int} (h : fits r f s) : cst (extR r) f s = cst r f s := by
  obtain ⟨f0, f1, s0, s1⟩ := h
  have h4 := hv.s4
  have hr := hv.row f.toNat (by omega)
  unfold cst
  rw [rowX (by omega)]
  rw [getD_app (by omega)]
theorem cstXl {r : XRound} (hv : Val r) {f : Int} (f0 : 0 ≤ f) (f1 : f < r.owners.length) : cst (extR r) f r.slots = -1 := by
  have h4 := hv.s4
  have hr := hv.row f.toNat (by omega)
  unfold cst
  rw [rowX (by omega), show r.slots.toNat = (r.costs.getD f.toNat default).length by omega, getD_end]
theorem valX {r : XRound} (hv : Val r) (h8 : r.slots < 8) : valB (extR r) = true := by
  have h1 := hv.s1; have h3 := hv.s3; have h4 := hv.s4
  unfold valB
  rw [Bool.and_eq_true, List.all_eq_true]
  constructor
  · unfold shapeB
    show (!(decide (r.slots + 1 < 1) || (decide (8 < r.slots + 1) || (decide (r.slots + 1 < (r.owners.length : Int)) || decide (((r.costs.map fun c => ([] ++ c) ++ [-1]).length : Int) ≠ (r.owners.length : Int)))))) = true
    rw [List.length_map, decide_eq_false (show ¬ (r.slots + 1 < 1) by omega), decide_eq_false (show ¬ (8 < r.slots + 1) by omega), decide_eq_false (show ¬ (r.slots + 1 < (r.owners.length : Int)) by omega), decide_eq_false (show ¬ ((r.costs.length : Int) ≠ (r.owners.length : Int)) by omega)]
    rfl
  · intro i hi
    have hi : i < r.owners.length := List.mem_range.1 hi
    have ho := hv.own i hi
    have hr := hv.row i hi
    have hd := hv.diag i hi
    have hc := hv.cost i hi
    unfold rowBad
    rw [rowX (by omega)]
    have e1 : (r.costs.getD i default ++ [-1]).getD i default = (r.costs.getD i default).getD i default := getD_app (by omega)
    have e2 : (r.costs.getD i default ++ [-1]).any badC = false := by
      rw [List.any_eq_false]
      intro c hcm hb
      rw [List.mem_append, List.mem_singleton] at hcm
      have : -1 ≤ c ∧ c ≤ 1048576 := by
        rcases hcm with h | rfl
        · exact hc c h
        · decide
      unfold badC at hb
      rw [decide_eq_false (show ¬ c < -1 by omega), decide_eq_false (show ¬ 1048576 < c by omega)] at hb
      cases hb
    rw [e1, e2, List.length_append]
    show (!(decide (r.owners.getD i default < 0) || decide (7 < r.owners.getD i default) || (!decide ((((r.costs.getD i default).length + 1 : Nat) : Int) = r.slots + 1) || (decide ((r.costs.getD i default).getD i default < 0) || false)))) = true
    rw [decide_eq_false (show ¬ (r.owners.getD i default < 0) by omega), decide_eq_false (show ¬ (7 < r.owners.getD i default) by omega), decide_eq_true (show (((r.costs.getD i default).length + 1 : Nat) : Int) = r.slots + 1 by omega), decide_eq_false (show ¬ ((r.costs.getD i default).getD i default < 0) by omega)]
    rfl
theorem smX {r : XRound} (hr : smXRound r) (hv : Val r) (h8 : r.slots < 8) : smXRound (extR r) := by
  have h1 := hv.s1
  obtain ⟨a, b, c1, c2⟩ := hr
  refine ⟨by show InK .i64 (r.slots + 1); constructor <;> simp only [IntKind.min, IntKind.max, IntKind.signed, IntKind.bits, cond_true] <;> omega, b, by simp only [extR, List.length_map]; exact c1, ?_⟩
  intro row hrow
  simp only [extR, List.mem_map] at hrow
  obtain ⟨c, hc, rfl⟩ := hrow
  obtain ⟨i, hi, rfl⟩ := List.getElem_of_mem hc
  have h4 := hv.s4
  have hl := hv.row i (by omega)
  rw [getD_getElem hi] at hl
  refine ⟨by simp only [List.length_append, List.length_nil, List.length_cons]; omega, fun x hx => ?_⟩
  simp only [List.nil_append, List.mem_append, List.mem_singleton] at hx
  rcases hx with hx | rfl
  · exact (c2 _ hc).2 x hx
  · constructor <;> decide
theorem all_cong {α : Type} {p q : α → Bool} : ∀ {l : List α}, (∀ x ∈ l, p x = q x) → l.all p = l.all q
  | [], _ => rfl
  | x :: l, h => by rw [List.all_cons, List.all_cons, h x List.mem_cons_self, all_cong fun y hy => h y (List.mem_cons_of_mem _ hy)]
theorem flat_cong {α β : Type} {p q : α → List β} : ∀ {l : List α}, (∀ x ∈ l, p x = q x) → l.flatMap p = l.flatMap q
  | [], _ => rfl
  | x :: l, h => by rw [List.flatMap_cons, List.flatMap_cons, h x List.mem_cons_self, flat_cong fun y hy => h y (List.mem_cons_of_mem _ hy)]
theorem asgX {r : XRound} (hv : Val r) (s : List Int) : asgB (extR r) s = asgB r s := by
  unfold asgB
  show (decide (s.length = r.owners.length) && _) = _
  by_cases hl : s.length = r.owners.length
  · rw [decide_eq_true hl, Bool.true_and, Bool.true_and]
    refine all_cong fun i hi => ?_
    have hi := List.mem_range.1 hi
    unfold okS
    generalize hx : s.getD i default = x
    show (!(decide (x < 0) || (decide (r.slots + 1 ≤ x) || (decide (cst (extR r) i x < 0) || _)))) = _
    by_cases c0 : x < 0
    · rw [decide_eq_true c0]; rfl
    by_cases c1 : r.slots + 1 ≤ x
    · rw [decide_eq_true c1, decide_eq_true (show r.slots ≤ x by omega)]; rfl
    by_cases c2 : r.slots ≤ x
    · have : x = r.slots := by omega
      rw [decide_eq_true c2, this, cstXl hv (by omega) (by omega)]; simp
    · rw [decide_eq_false c1, decide_eq_false c2, cstX hv ⟨by omega, by omega, by omega, by omega⟩]
  · rw [decide_eq_false hl]; rfl
theorem csum_congr {own : Int → Int} {c c' : Int → Int → Int} {o : Int} : ∀ {l : List (Int × Int)}, (∀ p ∈ l, c p.1 p.2 = c' p.1 p.2) → csum own c o l = csum own c' o l
  | [], _ => rfl
  | p :: l, h => by
    have h1 := h p List.mem_cons_self
    have h2 := csum_congr (own := own) (o := o) fun q hq => h q (List.mem_cons_of_mem _ hq)
    obtain ⟨a, b⟩ := p
    simp only [csum] at h1 ⊢
    rw [h1, h2]
theorem cvecX {r : XRound} (hv : Val r) {fl s : List Int} (hf : ∀ i < fl.length, fits r (fl.getD i default) (s.getD i default)) : cvec (extR r) fl s = cvec r fl s := by
  unfold cvec
  refine List.map_congr_left fun o _ => ?_
  show csum (ownr r) (cst (extR r)) _ _ = _
  refine csum_congr fun p hp => ?_
  obtain ⟨i, hi, rfl⟩ := List.getElem_of_mem hp
  rw [List.length_zip] at hi
  rw [List.getElem_zip]
  have := hf i (by omega)
  rw [getD_getElem (by omega), getD_getElem (by omega)] at this
  exact cstX hv this
theorem dv_congr {fl : List Int} {ok ok' : Nat → Int → Bool} {n : Nat} (h : ∀ i < n, ∀ s ∈ fl, ok i s = ok' i s) : ∀ (k : Nat) (b : List Int), b.length + k ≤ n → dv fl ok k b = dv fl ok' k b
  | 0, _, _ => rfl
  | k + 1, b, hb => by
    simp only [dv]
    refine flat_cong fun s hs => ?_
    rw [h _ (by omega) s hs, dv_congr h k (b ++ [s]) (by simp; omega)]
theorem devX {r : XRound} (hv : Val r) {fl : List Int} (hf : ∀ f ∈ fl, 0 ≤ f ∧ f < r.owners.length) : devL (extR r) fl = devL r fl := by
  unfold devL
  refine dv_congr (n := fl.length) (fun i hi s hs => ?_) _ _ (by simp)
  unfold okf
  have a := hf _ (getD_mem hi); have b := hf s hs; have := hv.s3
  rw [cstX hv ⟨a.1, a.2, b.1, by omega⟩]
theorem find_congr {α : Type} {p q : α → Bool} : ∀ {l : List α}, (∀ x ∈ l, p x = q x) → l.find? p = l.find? q
  | [], _ => rfl
  | x :: l, h => by
    rw [List.find?_cons, List.find?_cons, h x List.mem_cons_self, find_congr fun y hy => h y (List.mem_cons_of_mem _ hy)]
theorem blkX {r : XRound} (hv : Val r) (than g : List Int) : blk (extR r) than g = blk r than g := by
  have hf : ∀ f ∈ flB r g, 0 ≤ f ∧ f < r.owners.length := fun f hf => (mem_flB.1 hf).1
  have e : (devL (extR r) (flB r g)).find? (bet (extR r) than g (flB r g)) = (devL r (flB r g)).find? (bet r than g (flB r g)) := by
    rw [devX hv hf]
    refine find_congr fun x hx => ?_
    unfold bet
    rw [cvecX hv (fits_dev hv hf hx)]
  unfold blk
  rw [show flB (extR r) g = flB r g from rfl, e]
theorem goodX {r : XRound} (hv : Val r) (hvb : valB r = true) (h8 : r.slots < 8) (s : List Int) : goodB (extR r) s = goodB r s := by
  unfold goodB; rw [valX hv h8, hvb, asgX hv]
theorem cvecXa {r : XRound} (hv : Val r) {s : List Int} (h : asgB r s = true) : cvec (extR r) (ownL (extR r)) s = cvec r (ownL r) s := cvecX hv (fits_asg hv h)
theorem stableX {r : XRound} (hv : Val r) {s : List Int} (h : asgB r s = true) : stableB (extR r) s = stableB r s := by
  unfold stableB
  have e : worseL (extR r) s = worseL r s := by
    unfold worseL
    rw [cvecXa hv h, show cvec (extR r) (ownL (extR r)) (ownL (extR r)) = cvec r (ownL r) (ownL r) from cvecX hv (fits_own hv)]
  rw [e, cvecXa hv h]
  have : stB (extR r) (cvec r (ownL r) s) = stB r (cvec r (ownL r) s) := by
    funext b
    unfold stB
    rw [blkX hv]
    rfl
  rw [this]
theorem m25_same (a : List Int) (hl : a.length < 9223372036854775807) : m25_overflightref37_SameInts a a = some true := by
  unfold m25_overflightref37_SameInts
  rw [decide_eq_false (show ¬ ((a.length : Int) ≠ a.length) by omega), cond_false]
  refine up_list0 (fun _ => some true) a hl ?_ ?_ (by omega)
  · intro sf
    unfold m25_overflightref37_SameInts_B0
    rw [decide_eq_false (by omega)]; rfl
  · intro sf i x t h1 h2 h3 ih
    unfold m25_overflightref37_SameInts_B0
    rw [decide_eq_true (show (i : Int) < a.length by omega), cond_true, ck_eq (by omega), ck_eq (by omega)]
    simp [h3, ih]
theorem CoalitionFree_law (r : XRound) (slots group : List Int) (hr : smXRound r) (hs : SmL (InK .i64) slots) (hgs : SmL (InK .i64) group) : m6_overflightlaw37_CoalitionFree r slots group = some true := by
  have hl : slots.length < 9223372036854775807 := by have := hs.1; omega
  have hlg : group.length < 9223372036854775807 := by have := hgs.1; omega
  unfold m6_overflightlaw37_CoalitionFree
  rw [sane_eq, m16_eq r hr, m22_eq r hr]
  simp only [Option.bind_some, Bool.not_true, cond_false, jn_eq]
  cases hf : fewB r
  · rfl
  rw [Bool.not_true, cond_false]
  by_cases c1 : 20 < (slots.length : Int)
  · rw [decide_eq_true c1]; rfl
  by_cases c2 : 20 < (group.length : Int)
  · rw [decide_eq_false c1, decide_eq_true c2]; rfl
  rw [decide_eq_false c1, decide_eq_false c2]
  cases hvb : valB r
  · rfl
  have hv := Val.of hvb
  have hn8 := hv.n8
  have h4 := hv.s4
  have hs2 := hv.s2
  simp only [cond_true, cond_false]
  rw [decide_eq_false (show ¬ ((0 : Int) ≠ 0) by decide), cond_false]
  by_cases c3 : 8 ≤ r.slots
  · rw [decide_eq_true c3]; rfl
  rw [decide_eq_false c3, cond_false]
  have h1 := hv.s1
  have hX : smXRound (extR r) := smX hr hv (by omega)
  have ew : IntKind.i64.wrap (r.slots + 1) = r.slots + 1 := wrap_i64 (by omega) (by omega)
  refine up_listA (fun i v => v = (r.costs.take i).map fun c => ([] ++ c) ++ [-1]) (fun _ _ _ => some true) r.costs (by omega) ?_ ?_ (by omega) (by rfl)
  · intro sf v hI
    rw [List.take_length] at hI
    subst hI
    unfold m6_overflightlaw37_CoalitionFree_B0
    rw [decide_eq_false (show ¬ (r.costs.length : Int) < r.costs.length by omega), cond_false, ew]
    show ((m17_coalition_Blocks r slots group).bind fun blocks_1 => (m17_coalition_Blocks (extR r) slots group).bind fun blocks_2 => (m19_coalition_Stable r slots).bind fun stable_1 => (m19_coalition_Stable (extR r) slots).bind fun stable_2 => jn (fun (v_4 : Bool) =>
      bif v_4 then some false else bif (decide (blocks_1.2.2 ≠ 0)) then some true else loop1 (m6_overflightlaw37_CoalitionFree_B1 r group blocks_1) (((group.length : Int) - 0).toNat + 1) 0) (fun k231 =>
      (m25_overflightref37_SameInts blocks_1.1 blocks_2.1).bind fun sameints_1 =>
      bif (!sameints_1) then k231 true else bif (!(blocks_1.2.1 == blocks_2.2.1)) then k231 true else bif (decide (blocks_1.2.2 ≠ blocks_2.2.2)) then k231 true else
            bif (!(stable_1.1 == stable_2.1)) then k231 true else bif (decide (stable_1.2 ≠ stable_2.2)) then k231 true
              else (m22_coalition_Check (extR r)).bind fun check_1 => k231 (decide (check_1 ≠ 0)))) = some true
    rw [m17_eq r slots group hr hl hlg, m17_eq (extR r) slots group hX hl hlg, m19_eq r slots hr hl, m19_eq (extR r) slots hX hl, m22_eq (extR r) hX, valX hv (by omega)]
    have eb : blocksM (extR r) slots group = blocksM r slots group := by
      unfold blocksM
      rw [goodX hv hvb (by omega)]
      cases hg : goodB r slots
      · rfl
      obtain ⟨_, ha⟩ := good_props hg
      rw [cvecXa hv ha, blkX hv]
    have es : (bif goodB (extR r) slots then (stableB (extR r) slots, (0 : Int)) else (false, 370)) = (bif goodB r slots then (stableB r slots, (0 : Int)) else (false, 370)) := by
      rw [goodX hv hvb (by omega)]
      cases hg : goodB r slots
      · rfl
      obtain ⟨_, ha⟩ := good_props hg
      rw [stableX hv ha]
    rw [eb, es]
    have hbl : (blocksM r slots group).1.length < 9223372036854775807 := by
      unfold blocksM
      cases hg : goodB r slots
      · simp
      cases hg2 : (risB group && decide (group ≠ []))
      · simp
      simp only [cond_true]
      rcases blk_spec r (cvec r (ownL r) slots) group with ⟨_, b2, _⟩ | ⟨b1, _⟩
      · have := (mem_devL.1 b2).1; have := flB_len r group; omega
      · rw [b1]; decide
    simp only [Option.bind_some, m25_same _ hbl, jn_eq, Bool.not_true, cond_false, beq_self_eq_true, ne_eq, not_true_eq_false, decide_false, cond_true]
    by_cases ce : (blocksM r slots group).2.2 = 0
    · rw [decide_eq_false (show ¬ ¬ _ = _ from fun h => h ce), cond_false]
      have hbb : ∀ o ∈ group, (blocksM r slots group).2.1 = true → flB r [o] ≠ [] := by
        intro o ho hb
        unfold blocksM at hb
        cases hg : goodB r slots
        · rw [hg] at hb; cases hb
        cases hg2 : (risB group && decide (group ≠ []))
        · rw [hg, hg2] at hb; cases hb
        rw [hg, hg2] at hb
        simp only [cond_true] at hb
        rw [Bool.and_eq_true] at hg2
        obtain ⟨hgr, hp⟩ := risB_props hg2.1
        rcases blk_spec r (cvec r (ownL r) slots) group with ⟨_, b2, b3⟩ | ⟨b1, _⟩
        · obtain ⟨f, f0, f1, f2⟩ := hasF_iff.1 (bet_has hgr b3 o ho)
          intro hn
          have : f ∈ flB r [o] := mem_flB.2 ⟨⟨f0, f1⟩, by rw [f2]; exact List.mem_singleton.2 rfl⟩
          rw [hn] at this; cases this
        · rw [b1] at hb; cases hb
      refine up_list0 (fun _ => some true) group hlg ?_ ?_ (by omega)
      · intro sf
        unfold m6_overflightlaw37_CoalitionFree_B1
        rw [decide_eq_false (by omega)]; rfl
      · intro sf i x t g1 g2 g3 ih
        unfold m6_overflightlaw37_CoalitionFree_B1
        have hx : group.getD (i : Int).toNat default = x := getD_of g2
        rw [decide_eq_true (show (i : Int) < group.length by omega), cond_true, ck_eq (by omega), hx, m21_eq r [x] hv (List.pairwise_singleton _ _) (by simp)]
        simp only [Option.bind_some, jn_eq]
        by_cases d : ((flB r [x]).length : Int) = 0
        · rw [decide_eq_true d, cond_true]
          have : (blocksM r slots group).2.1 = false := by
            cases hb : (blocksM r slots group).2.1
            · rfl
            · exact absurd (List.length_eq_zero_iff.1 (by omega)) (hbb x (List.mem_of_getElem? g2) hb)
          rw [this, cond_false, g3, ih]
        · rw [decide_eq_false d, cond_false, cond_false, g3, ih]
    · rw [decide_eq_true (show ¬ _ = _ from ce)]; rfl
  · intro sf i v x t g1 g2 g3 hI ih
    unfold m6_overflightlaw37_CoalitionFree_B0
    have hlen : v.length = i := by rw [hI]; simp; omega
    have hrow := hv.row i (by omega)
    have hx : r.costs.getD (i : Int).toNat default = x := getD_of g2
    rw [show r.costs.getD i default = x from hx] at hrow
    rw [decide_eq_true (show (i : Int) < r.costs.length by omega), cond_true, ck_eq (by omega), hx, ck_eq (by simp only [List.length_nil]; omega), ck_eq (by simp only [List.length_append, List.length_nil, List.length_cons]; omega), ck_eq (by simp only [List.length_cons, List.length_nil]; omega), g3]
    refine ih _ ?_
    rw [hI, List.take_add_one, g2]
    simp
end Go.Fx



namespace Go.Proofs.Ythakjfdppgdmaaa.lawCoalitionFree
open Go Go.Proofs Go.ChangeShapes Go.WideShapes Go.ChangeAt Go.RowKit Go.Fx
open Go.ChangeMaps (open_string shut_string)
set_option linter.unusedVariables false
set_option maxRecDepth 100000
theorem own : ownKnob Try.prog.godebug = none := by kernel_rfl
theorem laidOut : laidOutB Try.prog = true := by kernel_rfl
set_option maxRecDepth 100000 in
set_option maxHeartbeats 1000000 in
theorem lifted (os : Os) (started : os.Started) (H : Type) (enc : TypeId × Value → H) :
    ReturnsInHanded {} Try.checked os 6 .any (Rows.coalitionFreeSpec.pre6 enc Try.prog Try.f6 Rows.coalitionFreeRow.domain false) (Rows.coalitionFreeSpec.post enc Try.prog Try.f6 false true false false) := by
  refine returnsInHanded_of_change_sized (C := Try.checked) own started (by kernel_rfl) Try.func6
    (ChangeSpec.witness6 (enc := enc) (C := Try.checked) false ⟨#[], #[.agg #[(.int .i64 0), (.slice none 0 0), (.slice none 0 0)], (.slice none 0 0), (.slice none 0 0)], []⟩ 8 (by kernel_rfl) (by kernel_rfl) (by kernel_rfl) (by kernel_rfl)) ?_
  intro W base args ds gs before hval0 hW hcnd hsz _
  have hval : ∀ (j : Nat) t v, Try.f6.params[j]? = some t → args[j]? = some v → Value.okWide Try.prog W .any base t v := hval0
  have hW' := hW
  obtain ⟨p, q, hA0, hV, rfl, hfz, hnd⟩ := hW
  have hA : DataW.TrodAll enc Try.prog W 0 (fun _ => true) true Try.f6.params.toList args.toList ds p := hA0
  rw [Try.params6] at hA hval
  obtain ⟨v0, vs0, d0, ds0, p0, q0, hargs, rfl, rfl, h0, r0⟩ := trodAll_cons hA
  obtain ⟨v1, vs1, d1, ds1, p1, q1, rfl, rfl, rfl, h1, r1⟩ := trodAll_cons r0
  obtain ⟨v2, vs2, d2, ds2, p2, q2, rfl, rfl, rfl, h2, r2⟩ := trodAll_cons r1
  obtain ⟨rfl, rfl, rfl⟩ := trodAll_nil r2
  obtain rfl : args = #[v0, v1, v2] := by cases args; simp_all
  obtain ⟨rfl, rfl⟩ := trodVars_none hV
  have k0 := h0
  have lt0 : ∀ x ∈ p0, x.block < W.heap.size := by obtain ⟨m, hm⟩ := k0; exact DataW.trod_lt m _ _ _ hm
  obtain ⟨fu0, hf0⟩ := h0
  obtain ⟨r_, rr0, sm0⟩ := rd25.2 _ _ _ hf0
  replace sm0 := sm0 (fun n hn => by have := List.all_eq_true.1 hsz n (DataW.weights_mem_each (j := 0) (t := 25) rfl rfl n hn); simpa using this)
  obtain ⟨⟨cs0⟩, rfl, _⟩ := okWide_struct Try.underlying25 (hval 0 25 v0 rfl rfl)
  replace rr0 : rXRound.rd W [] cs0 r_ := rr0
  obtain ⟨_, _, rfl, ⟨rfl, r_r__slots⟩, ⟨_, _, rfl, ⟨a_r__owners, c_r__owners, rfl, f_r__owners⟩, ⟨a_r__costs, c_r__costs, rfl, f_r__costs⟩⟩⟩ := rr0
  have k1 := h1
  have lt1 : ∀ x ∈ p1, x.block < W.heap.size := by obtain ⟨m, hm⟩ := k1; exact DataW.trod_lt m _ _ _ hm
  obtain ⟨fu1, hf1⟩ := h1
  obtain ⟨slots, rr1, sm1⟩ := rd22.2 _ _ _ hf1
  replace sm1 := sm1 (fun n hn => by have := List.all_eq_true.1 hsz n (DataW.weights_mem_each (j := 1) (t := 22) rfl rfl n hn); simpa using this)
  obtain ⟨b1, l1, c1, rfl⟩ := okWide_slice Try.underlying22 (hval 1 22 v1 rfl rfl)
  replace rr1 : (rSl (rInt .i64)).rd W [] [.slice b1 l1 c1] slots := rr1
  obtain ⟨a_slots, c_slots, e1, f_slots⟩ := un_sl rr1
  simp only [Value.slice.injEq] at e1
  obtain ⟨rfl, rfl, rfl⟩ := e1
  have k2 := h2
  have lt2 : ∀ x ∈ p2, x.block < W.heap.size := by obtain ⟨m, hm⟩ := k2; exact DataW.trod_lt m _ _ _ hm
  obtain ⟨fu2, hf2⟩ := h2
  obtain ⟨group, rr2, sm2⟩ := rd22.2 _ _ _ hf2
  replace sm2 := sm2 (fun n hn => by have := List.all_eq_true.1 hsz n (DataW.weights_mem_each (j := 2) (t := 22) rfl rfl n hn); simpa using this)
  obtain ⟨b2, l2, c2, rfl⟩ := okWide_slice Try.underlying22 (hval 2 22 v2 rfl rfl)
  replace rr2 : (rSl (rInt .i64)).rd W [] [.slice b2 l2 c2] group := rr2
  obtain ⟨a_group, c_group, e2, f_group⟩ := un_sl rr2
  simp only [Value.slice.injEq] at e2
  obtain ⟨rfl, rfl, rfl⟩ := e2
  have hm : m6_overflightlaw37_CoalitionFree r_ slots group = some true := CoalitionFree_law _ _ _ sm0 sm1 sm2
  have hc := Fn.calls (c6_overflightlaw37_CoalitionFree (r_ := r_) (slots := slots) (group := group) (w := W) (O := []) (by simp) r_r__slots f_r__owners f_r__costs f_slots f_group hm)
  clear hA0 hval0
  refine Calls.mono hc ?_
  rintro e W' ⟨v, rfl, bel, hv⟩
  replace bel := bel.below; obtain rfl : v = .bool true := hv
  exact ⟨_, rfl, _, _, _, [], _, [], hW', trodAll_mk1 (shut_bool Try.underlying4 _), (trodAll_cons_mk (Below.trod laidOut (by kernel_rfl) (of_decide_eq_true (by kernel_rfl)) k0 bel lt0) (trodAll_cons_mk (Below.trod laidOut (by kernel_rfl) (of_decide_eq_true (by kernel_rfl)) k1 bel lt1) (trodAll_cons_mk (Below.trod laidOut (by kernel_rfl) (of_decide_eq_true (by kernel_rfl)) k2 bel lt2) trodAll_mk0))), rfl, bel.frame _, fun h => by cases h⟩
theorem over : Rows.coalitionFreeRow.holds Try.pinned (OpenSpec.ofChange Rows.coalitionFreeSpec) :=
  OpenClaim.holds_of_wide 6 Try.f6 rfl rfl rfl rfl rfl rfl rfl ⟨rfl, rfl, rfl, rfl, rfl⟩ rfl rfl rfl rfl rfl (by kernel_rfl) Try.func6 (by kernel_rfl)
    (of_decide_eq_true (by kernel_rfl)) (by unfold Func.isWrapper; first | (rw [if_pos (by decide +kernel)]; kernel_rfl) | (rw [if_neg (by decide +kernel)]; exact ⟨rfl, rfl⟩))
    (fun os started H enc _ => lifted os started H enc)
theorem proved : Rows.CoalitionFreeSaid := over
end Go.Proofs.Ythakjfdppgdmaaa.lawCoalitionFree


