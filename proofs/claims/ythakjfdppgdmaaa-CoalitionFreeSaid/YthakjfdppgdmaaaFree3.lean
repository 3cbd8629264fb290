/- Part 3 of the proof: coalitionFree: one slot more that nobody may take changes no answer. -/
import Derived.Test.YthakjfdppgdmaaaFree2
set_option linter.unusedVariables false
set_option linter.unusedSimpArgs false
set_option maxRecDepth 100000
set_option maxHeartbeats 0
namespace Go.Fx
open Go Go.RowKit Go.Proofs
def m19_coalition_Stable_B1 (r_ : XRound) (costs_1 : (List Int)) (v_2 : Int) (k96 : Option (Bool × Int)) (sf109 : (List Int) → Int → Option (Bool × Int)) (group_1 : List Int) (v_3 : Int) : Option (Bool × Int) :=
 bif (decide (v_3 < 8)) then
  ck ((0 : Int) ≤ v_3) <|
  bif (decide ((Go.bits .and .i64 (v_2 / 2 ^ min v_3.toNat (IntKind.bits .i64)) 1) = 0)) then
   sf109 group_1 (IntKind.wrap .i64 (v_3 + 1))
  else
   (m43_slices_Containsint_int_ r_.owners v_3).bind fun contains_1 =>
   bif (!contains_1) then
    k96
   else
    ck ((group_1.length + [v_3].length) * 8 ≤ 140737488355328) <|
    sf109 (group_1 ++ [v_3]) (IntKind.wrap .i64 (v_3 + 1))
 else
  bif (decide ((group_1.length : Int) = 0)) then
   k96
  else
   (m40_coalition_blocks r_ costs_1 group_1).bind fun blocks_1 =>
   bif blocks_1.2 then
    some (false, 0)
   else
    k96

def m19_coalition_Stable_B0 (r_ : XRound) (costs_1 : (List Int)) (sf84 : Int → Option (Bool × Int)) (v_2 : Int) : Option (Bool × Int) :=
 bif (decide (v_2 < 256)) then
  jn (  sf84 (IntKind.wrap .i64 (v_2 + 1)))
  (fun k96 =>
   loop2 (m19_coalition_Stable_B1 r_ costs_1 v_2 k96) (((8 : Int) - 0).toNat + 1) ([] : List Int) 0)
 else
  some (true, 0)

def m19_coalition_Stable (r_ : XRound) (slots : List Int) : Option (Bool × Int) :=
 (m23_coalition_Worse r_ slots).bind fun worse_1 =>
 jn (fun (v_1 : Bool) =>
  bif v_1 then
   some (false, worse_1.2)
  else
   (m42_coalition_own r_).bind fun own_1 =>
   (m41_coalition_costs r_ own_1 slots).bind fun costs_1 =>
   loop1 (m19_coalition_Stable_B0 r_ costs_1) (((256 : Int) - 0).toNat + 1) 0)
 (fun k21 =>
  bif (decide (worse_1.2 ≠ 0)) then
   k21 true
  else
   k21 (decide (0 < (worse_1.1.length : Int))))

theorem c19_coalition_Stable {w : World} {O : List Nat} {r_ : XRound} {slots : List Int} {a_r__owners : Option Addr} {c_r__owners : Nat} {a_r__costs : Option Addr} {c_r__costs : Nat} {a_slots : Option Addr} {c_slots : Nat} (hO : ∀ k ∈ O, k < w.heap.size) (r_r__slots : InK .i64 r_.slots) (f_r__owners : SlR (rInt .i64) w O a_r__owners c_r__owners r_.owners) (f_r__costs : SlR (rSl (rInt .i64)) w O a_r__costs c_r__costs r_.costs) (f_slots : SlR (rInt .i64) w O a_slots c_slots slots) {x : Bool × Int} (hm : m19_coalition_Stable r_ slots = some x) :
  Ok Try.prog 19 [(Value.agg [(Value.int .i64 r_.slots), (Value.slice a_r__owners r_.owners.length c_r__owners), (Value.slice a_r__costs r_.costs.length c_r__costs)].toArray), (Value.slice a_slots slots.length c_slots)] w O (vT2 vB (vI .i64)) x := by
 unfold m19_coalition_Stable at hm
 refine Fn_of_Wp (n := 65) (xs := [.tmp 4, .tmp 5]) Try.func19 rfl Try.ntmps19 Try.results19 rfl ?_
 have hs := St.start hO
 refine Wp_seq ?_
 refine Wp_region ?_
 refine Rg_op rfl (op_box (cs := [(Value.int .i64 r_.slots), (Value.slice a_r__owners r_.owners.length c_r__owners), (Value.slice a_r__costs r_.costs.length c_r__costs)]) hs rfl rfl ?_)
 intro b1 w2 _ p3 hs4
 replace f_r__owners := f_r__owners.step p3; replace f_r__costs := f_r__costs.step p3; replace f_slots := f_slots.step p3; clear p3
 refine Rg_op rfl (op_assign (v := (Value.bool false)) rfl ?_)
 refine Rg_op rfl (op_assign (v := (Value.int .i64 0)) rfl ?_)
 refine Rg_nil ?_
 refine Wp_scope ?_
 refine Wp_seq ?_
 refine Wp_region ?_
 refine Rg_op rfl (op_loadA (cs := [(Value.int .i64 r_.slots), (Value.slice a_r__owners r_.owners.length c_r__owners), (Value.slice a_r__costs r_.costs.length c_r__costs)]) (vs := [(Value.int .i64 r_.slots), (Value.slice a_r__owners r_.owners.length c_r__owners), (Value.slice a_r__costs r_.costs.length c_r__costs)]) (i := 0) ty25 hs4 rfl rfl rfl rfl ?_)
 refine Rg_op rfl (op_move (v := (Value.slice a_slots slots.length c_slots)) rfl ?_)
 replace hm := bd hm; obtain ⟨worse_1, hv6, hm⟩ := hm
 refine Rg_op rfl (op_call Try.call23 (c23_coalition_Worse (r_ := r_) (slots := slots) hs4.ltw r_r__slots f_r__owners f_r__costs f_slots hv6) rfl ?_)
 rintro v7 w8 ⟨hx9, h10⟩
 have hs11 := hs4.call hx9
 have p12 := Step.ext (O := ks [(some b1, Obj.cells [(Value.int .i64 r_.slots), (Value.slice a_r__owners r_.owners.length c_r__owners), (Value.slice a_r__costs r_.costs.length c_r__costs)].toArray 25)] O) hx9
 clear hx9
 replace f_r__owners := f_r__owners.step p12; replace f_r__costs := f_r__costs.step p12; replace f_slots := f_slots.step p12; clear p12 hs4
 obtain ⟨v13, v14, rfl, h15, h16⟩ := h10
 obtain ⟨a_y17, c_y17, rfl, f_y17⟩ := un_sl h15
 obtain ⟨rfl, r_y18⟩ := h16
 refine Rg_op rfl (op_move (v := (Value.tuple [(Value.slice a_y17 worse_1.1.length c_y17), (Value.int .i64 worse_1.2)].toArray)) rfl ?_)
 refine Rg_op rfl (op_extract (v := (Value.slice a_y17 worse_1.1.length c_y17)) rfl rfl ?_)
 refine Rg_op rfl (op_extract (v := (Value.int .i64 worse_1.2)) rfl rfl ?_)
 refine Rg_op rfl (op_assign (v := (Value.slice a_y17 worse_1.1.length c_y17)) rfl ?_)
 refine Rg_op rfl (op_assign (v := (Value.int .i64 worse_1.2)) rfl ?_)
 refine Rg_nil ?_
 refine Wp_seq ?_
 refine Wp_reset [] [(1, (Value.slice a_slots slots.length c_slots)), (2, (Value.pointer (some ⟨b1, 0, none⟩))), (5, (Value.int .i64 worse_1.2)), (6, (Value.slice a_y17 worse_1.1.length c_y17))] rfl ⟨rfl, rfl, rfl, rfl, trivial⟩ fun ξ19 => ?_
 replace hm := jn_elim hm; obtain ⟨k21, hk22, hm⟩ := hm
 refine Wp_seqJ [19, 20, 21, 22, 23, 24, 25] (fun fr w' => ∃ (v_1 : Bool) (Ebs : Ents), Ebs = [(some b1, Obj.cells [(Value.int .i64 r_.slots), (Value.slice a_r__owners r_.owners.length c_r__owners), (Value.slice a_r__costs r_.costs.length c_r__costs)].toArray 25)] ∧ fr [] [(25, (Value.bool v_1))] ∧ Step (ks [(some b1, Obj.cells [(Value.int .i64 r_.slots), (Value.slice a_r__owners r_.owners.length c_r__owners), (Value.slice a_r__costs r_.costs.length c_r__costs)].toArray 25)] O) w8 (ks Ebs O) w' ∧ St ⟨w, [], []⟩ O w' Ebs ∧ k21 v_1 = some x) ?_ ?_
 ·
  rintro ρ28 w24 ⟨v_1, Ebs, hEbs, hfr27, hst26, hs25, hm⟩
  replace hm := jnE1 hk22 hm
  subst hEbs; rw [hfr27.eq]; clear hfr27
  replace f_r__owners := f_r__owners.step hst26; replace f_r__costs := f_r__costs.step hst26; replace f_slots := f_slots.step hst26; replace f_y17 := f_y17.step hst26; clear hst26 hs11
  refine Wp_cond rfl (fun hc29 => ?_) (fun hc29 => ?_)
  ·
   replace hm := bif_t hm hc29
   refine Wp_seq ?_
   obtain ⟨hs30, p31⟩ := hs25.sub (bs' := []) (.cons _ List.Sublist.slnil)
   clear f_r__owners f_r__costs f_slots f_y17
   clear p31 hs25
   refine Wp_region ?_
   refine Rg_op rfl (op_move (v := (Value.int .i64 worse_1.2)) rfl ?_)
   refine Rg_op rfl (op_assign (v := (Value.bool false)) rfl ?_)
   refine Rg_op rfl (op_assign (v := (Value.int .i64 worse_1.2)) rfl ?_)
   refine Rg_nil ?_
   refine Wp_ret ?_
   have hz := step_all hs30
   refine ⟨_, (show Closes [] _ _ from rfl), [(Value.bool false), (Value.int .i64 worse_1.2)], ⟨rfl, rfl, trivial⟩, hs30.ext, ?_⟩
   exact Vr.eq (a := (vT2 vB (vI .i64))) (x := (false, worse_1.2)) (mkT2 rfl ⟨rfl, r_y18⟩) (Option.some.inj hm)
  ·
   replace hm := bif_f hm hc29
   refine Wp_skip ?_
   refine Wp_seq ?_
   clear f_y17
   refine Wp_drawR (g0 := []) (m := 4) (fl := []) (TS_inv hs25) rfl (.inl rfl) rfl (by decide +kernel) ?_  -- 4
   refine Dw_eq (Value.agg [(Value.int .i64 r_.slots), (Value.slice a_r__owners r_.owners.length c_r__owners), (Value.slice a_r__costs r_.costs.length c_r__costs)].toArray) (fun ρ32 w33 g hle hi ht => ?_) ?_
   ·
    obtain ⟨-, hst, -⟩ := hle
    have hsn := (Step.nx hi).1
    refine StepOp_plain (op_loadA (cs := [(Value.int .i64 r_.slots), (Value.slice a_r__owners r_.owners.length c_r__owners), (Value.slice a_r__costs r_.costs.length c_r__costs)]) (vs := [(Value.int .i64 r_.slots), (Value.slice a_r__owners r_.owners.length c_r__owners), (Value.slice a_r__costs r_.costs.length c_r__costs)]) (i := 0) ty25 hsn (ht 2 rfl) rfl rfl rfl ?_)
    exact Goes.same hi rfl
   refine Dw_eq (Value.agg [(Value.int .i64 r_.slots), (Value.slice a_r__owners r_.owners.length c_r__owners), (Value.slice a_r__costs r_.costs.length c_r__costs)].toArray) (fun ρ35 w36 g hle hi ht => ?_) ?_
   ·
    obtain ⟨-, hst, -⟩ := hle
    have hsn := (Step.nx hi).1
    refine StepOp_plain (op_loadA (cs := [(Value.int .i64 r_.slots), (Value.slice a_r__owners r_.owners.length c_r__owners), (Value.slice a_r__costs r_.costs.length c_r__costs)]) (vs := [(Value.int .i64 r_.slots), (Value.slice a_r__owners r_.owners.length c_r__owners), (Value.slice a_r__costs r_.costs.length c_r__costs)]) (i := 0) ty25 hsn (ht 2 rfl) rfl rfl rfl ?_)
    exact Goes.same hi rfl
   replace hm := bd hm; obtain ⟨own_1, hv41, hm⟩ := hm
   refine Dw_op (VD O [(some b1, Obj.cells [(Value.int .i64 r_.slots), (Value.slice a_r__owners r_.owners.length c_r__owners), (Value.slice a_r__costs r_.costs.length c_r__costs)].toArray 25)] (vC (rSl (rInt .i64))) own_1) (VD.stab _ _) (fun ρ38 w39 g hle hi ht => ?_) ?_
   ·
    obtain ⟨-, hst, -⟩ := hle
    replace f_r__owners := f_r__owners.step hst; replace f_r__costs := f_r__costs.step hst
    refine StepOp_plain (op_call Try.call42 (c42_coalition_own (O := ks (ents g ++ [(some b1, Obj.cells [(Value.int .i64 r_.slots), (Value.slice a_r__owners r_.owners.length c_r__owners), (Value.slice a_r__costs r_.costs.length c_r__costs)].toArray 25)]) O) (r_ := r_) hi.ltw r_r__slots f_r__owners f_r__costs hv41) (by simp only [List.map, Array.toList, (show ev _ (.tmp 28) = _ from (ht 28 rfl))] <;> rfl) ?_)
    rintro v42 w43 ⟨hx44, h45⟩
    exact Goes.call hi hx44 h45
   refine Dw_eq (Value.slice a_slots slots.length c_slots) (fun ρ47 w48 g hle hi ht => ?_) ?_
   ·
    obtain ⟨-, hst, -⟩ := hle
    refine StepOp_plain (op_move (v := (Value.slice a_slots slots.length c_slots)) (ht 1 rfl) ?_)
    exact Goes.same hi rfl
   refine Dw_nil fun w54 g55 hl56 hi57 => ?_
   obtain ⟨-, hst58, -⟩ := hl56
   obtain ⟨hs60, p59⟩ := Step.nx hi57
   rintro _ rfl
   rintro v61 h62
   replace h62 : Vr.vd (vC (rSl (rInt .i64))) _ _ _ _ := h62
   obtain ⟨a_y63, c_y63, rfl, f_y63⟩ := un_sl h62
   rintro _ rfl
   rintro _ rfl
   have p64 : Step (ks [(some b1, Obj.cells [(Value.int .i64 r_.slots), (Value.slice a_r__owners r_.owners.length c_r__owners), (Value.slice a_r__costs r_.costs.length c_r__costs)].toArray 25)] O) w24 (ks [(some b1, Obj.cells [(Value.int .i64 r_.slots), (Value.slice a_r__owners r_.owners.length c_r__owners), (Value.slice a_r__costs r_.costs.length c_r__costs)].toArray 25)] O) w54 := hst58.trans p59
   replace f_y63 := f_y63.step p59; replace f_r__owners := f_r__owners.step p64; replace f_r__costs := f_r__costs.step p64; replace f_slots := f_slots.step p64; clear p64 hs25
   replace hm := bd hm; obtain ⟨costs_1, hv65, hm⟩ := hm
   refine Rg_op rfl (op_call Try.call41 (g41_coalition_costs (r_ := r_) (flights := own_1) (slots := slots) hs60.ltw r_r__slots f_r__owners f_r__costs f_y63 f_slots hv65) rfl ?_)
   rintro _ w67 ⟨hx68, a71, c72, k73, o74, rfl, hk75, f76⟩
   obtain ⟨hs70, p77⟩ := hs60.callG (o := o74) hx68 hk75
   rw [← ks_cons (o := o74)] at f76
   replace f_r__owners := f_r__owners.step p77; replace f_r__costs := f_r__costs.step p77; replace f_slots := f_slots.step p77; replace f_y63 := f_y63.step p77; clear p77 hs60
   refine Rg_op rfl (op_assign (v := (Value.slice a71 costs_1.length c72)) rfl ?_)
   refine Rg_nil ?_
   refine Wp_seq ?_
   refine Wp_label ?_
   refine Wp_seq ?_
   refine Wp_seq ?_
   clear f_slots f_y63
   refine Wp_region ?_
   refine Rg_op rfl (op_move (v := (Value.int .i64 0)) rfl ?_)
   refine Rg_nil ?_
   refine Wp_block ?_
   obtain ⟨hs80, p81, f79⟩ := Gs.publish (i := 0) hs70 rfl f76
   replace f_r__owners := f_r__owners.step p81; replace f_r__costs := f_r__costs.step p81; clear p81 hs70
   refine Wp_reset [] [(2, (Value.pointer (some ⟨b1, 0, none⟩))), (7, (Value.slice a71 costs_1.length c72)), (32, (Value.int .i64 0))] rfl ⟨rfl, rfl, rfl, trivial⟩ fun ξ83 => ?_
   refine Wp_loopM [4, 5, 8, 9, 10, 11, 12, 32, 33, 34, 35, 36, 37, 38, 39, 40, 41, 42, 43, 44, 45, 46, 47, 48, 49, 50, 51, 52, 53, 54, 55, 56, 57, 58, 59, 60, 61, 62, 63, 64] (fun m fr w' => ∃ (v_2 : Int) (Ebs : Ents), Ebs = [(some b1, Obj.cells [(Value.int .i64 r_.slots), (Value.slice a_r__owners r_.owners.length c_r__owners), (Value.slice a_r__costs r_.costs.length c_r__costs)].toArray 25)] ∧ fr [] [(32, (Value.int .i64 v_2))] ∧ Step (ks [(some b1, Obj.cells [(Value.int .i64 r_.slots), (Value.slice a_r__owners r_.owners.length c_r__owners), (Value.slice a_r__costs r_.costs.length c_r__costs)].toArray 25)] O) w67 (ks Ebs O) w' ∧ St ⟨w, [], []⟩ O w' Ebs ∧ InK .i64 v_2 ∧ loop1 (m19_coalition_Stable_B0 r_ costs_1) m v_2 = some x) (((256 : Int) - 0).toNat + 1) ⟨0, _, rfl, ⟨Out.refl _ _, rfl, rfl, trivial⟩, Step.refl _ _, hs80, (show InK .i64 0 from by decide), hm⟩ ?_ ?_
   · rintro _ _ ⟨_, _, _, _, _, _, _, hm⟩; exact loop1_z hm
   ·
    rintro m87 K86 hK86 ρ92 w88 ⟨v_2, Ebs, hEbs, hfr91, hst90, hs89, r_y82, hm⟩
    obtain ⟨sf84, hsf85, hm⟩ := loop1_s hm; unfold m19_coalition_Stable_B0 at hm
    subst hEbs; rw [hfr91.eq]; clear hfr91
    replace f_r__owners := f_r__owners.step hst90; replace f_r__costs := f_r__costs.step hst90; replace f79 := f79.step hst90
    have ch93 := hst90
    refine Wp_seq ?_
    refine Wp_region ?_
    refine Rg_op rfl (op_lss rfl rfl ?_)
    refine Rg_nil ?_
    refine Wp_seq ?_
    refine Wp_cond rfl (fun hc94 => ?_) (fun hc94 => ?_)
    ·
     replace hm := bif_t hm hc94
     refine Wp_skip ?_
     refine Wp_reset2 [4, 5, 8, 9, 10, 11, 12, 32, 33, 34, 35, 36, 37, 38, 39, 40, 41, 42, 43, 44, 45, 46, 47, 48, 49, 50, 51, 52, 53, 54, 55, 56, 57, 58, 59, 60, 61, 62, 63, 64] [] (updL ⟨ξ83, []⟩ [(2, (Value.pointer (some ⟨b1, 0, none⟩))), (7, (Value.slice a71 costs_1.length c72)), (32, (Value.int .i64 0))]) [(32, (Value.int .i64 v_2))] (by repeat (first | with_reducible exact Out.refl _ _ | refine Out.upd ?_ rfl | refine Out.updL ?_ rfl | refine Out.mix' ?_ rfl | exact Out.refl _ _)) rfl ⟨rfl, trivial⟩ fun ξ95 => ?_
     replace hm := jn_elim hm; obtain ⟨k96, hk97, hm⟩ := hm
     refine Wp_seqJ [4, 5, 8, 9, 10, 11, 12, 34, 35, 36, 37, 38, 39, 40, 41, 42, 43, 44, 45, 46, 47, 48, 49, 50, 51, 52, 53, 54, 55, 56, 57, 58, 59, 60, 61, 62, 63] (fun fr w' => ∃ (Ebs : Ents), Ebs = [(some b1, Obj.cells [(Value.int .i64 r_.slots), (Value.slice a_r__owners r_.owners.length c_r__owners), (Value.slice a_r__costs r_.costs.length c_r__costs)].toArray 25)] ∧ fr [] [] ∧ Step (ks [(some b1, Obj.cells [(Value.int .i64 r_.slots), (Value.slice a_r__owners r_.owners.length c_r__owners), (Value.slice a_r__costs r_.costs.length c_r__costs)].toArray 25)] O) w88 (ks Ebs O) w' ∧ St ⟨w, [], []⟩ O w' Ebs ∧ k96 = some x) ?_ ?_
     ·
      rintro ρ103 w99 ⟨Ebs, hEbs, hfr102, hst101, hs100, hm⟩
      replace hm := jnE0 hk97 hm
      subst hEbs; rw [hfr102.eq]; clear hfr102
      replace f_r__owners := f_r__owners.step hst101; replace f_r__costs := f_r__costs.step hst101; replace f79 := f79.step hst101; replace ch93 := ch93.trans hst101; clear hst101 hs89
      refine Wp_region ?_
      refine Rg_op rfl (op_addw rfl rfl ?_)
      refine Rg_op rfl (op_move (v := (Value.int .i64 (IntKind.wrap .i64 (v_2 + 1)))) rfl ?_)
      refine Rg_nil ?_
      exact hK86 _ _ ⟨(IntKind.wrap .i64 (v_2 + 1)), _, rfl, ⟨(by repeat (first | with_reducible exact Out.refl _ _ | refine Out.upd ?_ rfl | refine Out.updL ?_ rfl | refine Out.mix' ?_ rfl | exact Out.refl _ _)), rfl, rfl, trivial⟩, ch93, hs100, (inK_wrap .i64 _), jnE1 hsf85 hm⟩
     ·
      intro K98 hK98
      have ch104 := Step.refl (ks [(some b1, Obj.cells [(Value.int .i64 r_.slots), (Value.slice a_r__owners r_.owners.length c_r__owners), (Value.slice a_r__costs r_.costs.length c_r__costs)].toArray 25)] O) w88
      refine Wp_block ?_
      refine Wp_seq ?_
      refine Wp_region ?_
      refine Rg_op rfl (op_move (v := (Value.int .i64 v_2)) rfl ?_)
      refine Rg_op rfl (op_assign (v := (Value.int .i64 v_2)) rfl ?_)
      refine Rg_nil ?_
      refine Wp_seq ?_
      refine Wp_region ?_
      refine Rg_op rfl (op_assign (v := (Value.slice none 0 0)) rfl ?_)
      refine Rg_nil ?_
      refine Wp_seq ?_
      refine Wp_seq ?_
      refine Wp_region ?_
      refine Rg_op rfl (op_move (v := (Value.int .i64 0)) rfl ?_)
      refine Rg_nil ?_
      refine Wp_block ?_
      refine Wp_reset2 [4, 5, 8, 9, 10, 11, 12, 34, 35, 36, 37, 38, 39, 40, 41, 42, 43, 44, 45, 46, 47, 48, 49, 50, 51, 52, 53, 54, 55, 56, 57, 58, 59, 60, 61, 62, 63] [] (updL (mix [4, 5, 8, 9, 10, 11, 12, 32, 33, 34, 35, 36, 37, 38, 39, 40, 41, 42, 43, 44, 45, 46, 47, 48, 49, 50, 51, 52, 53, 54, 55, 56, 57, 58, 59, 60, 61, 62, 63, 64] [] ξ95 (updL ⟨ξ83, []⟩ [(2, (Value.pointer (some ⟨b1, 0, none⟩))), (7, (Value.slice a71 costs_1.length c72)), (32, (Value.int .i64 0))])) [(32, (Value.int .i64 v_2))]) [(8, (Value.int .i64 v_2)), (9, (Value.slice none 0 0)), (35, (Value.int .i64 0))] (by repeat (first | with_reducible exact Out.refl _ _ | refine Out.upd ?_ rfl | refine Out.updL ?_ rfl | refine Out.mix' ?_ rfl | exact Out.refl _ _)) rfl ⟨rfl, rfl, rfl, trivial⟩ fun ξ108 => ?_
      have hs113 := hs89.ghost (Obj.cells #[] 3)
      refine Wp_loopM [9, 10, 35, 36, 37, 38, 39, 40, 41, 42, 43, 44, 45, 46, 47, 48, 49, 50, 51, 52] (fun m fr w' => ∃ (group_1 : List Int) (v_3 : Int) (a_g106 : Option Addr) (c_g106 : Nat) (k_g106 : Option Nat) (o_g106 : Obj) (Ebs : Ents), Ebs = [(k_g106, o_g106), (some b1, Obj.cells [(Value.int .i64 r_.slots), (Value.slice a_r__owners r_.owners.length c_r__owners), (Value.slice a_r__costs r_.costs.length c_r__costs)].toArray 25)] ∧ fr [] [(9, (Value.slice a_g106 group_1.length c_g106)), (35, (Value.int .i64 v_3))] ∧ Step (ks [(none, (Obj.cells #[] 3)), (some b1, Obj.cells [(Value.int .i64 r_.slots), (Value.slice a_r__owners r_.owners.length c_r__owners), (Value.slice a_r__costs r_.costs.length c_r__costs)].toArray 25)] O) w88 (ks Ebs O) w' ∧ St ⟨w, [], []⟩ O w' Ebs ∧ Gs (rInt .i64) 3 w' (ks Ebs O) a_g106 c_g106 group_1 k_g106 o_g106 ∧ InK .i64 v_3 ∧ loop2 (m19_coalition_Stable_B1 r_ costs_1 v_2 k96) m group_1 v_3 = some x) (((8 : Int) - 0).toNat + 1) ⟨([] : List Int), 0, none, 0, none, (Obj.cells #[] 3), _, rfl, ⟨Out.refl _ _, rfl, rfl, rfl, trivial⟩, Step.refl _ _, hs113, Gs.nil_, (show InK .i64 0 from by decide), hm⟩ ?_ ?_
      · rintro _ _ ⟨_, _, _, _, _, _, _, _, _, _, _, _, _, hm⟩; exact loop2_z hm
      ·
       rintro m112 K111 hK111 ρ119 w115 ⟨group_1, v_3, a_g106, c_g106, k_g106, o_g106, Ebs, hEbs, hfr118, hst117, hs116, f_g106, r_y107, hm⟩
       obtain ⟨sf109, hsf110, hm⟩ := loop2_s hm; unfold m19_coalition_Stable_B1 at hm
       subst hEbs; rw [hfr118.eq]; clear hfr118
       replace f_r__owners := f_r__owners.step hst117; replace f_r__costs := f_r__costs.step hst117; replace f79 := f79.step hst117; replace ch93 := ch93.trans hst117; replace ch104 := ch104.trans hst117
       have ch120 := hst117
       refine Wp_seq ?_
       refine Wp_region ?_
       refine Rg_op rfl (op_lss rfl rfl ?_)
       refine Rg_nil ?_
       refine Wp_seq ?_
       refine Wp_cond rfl (fun hc121 => ?_) (fun hc121 => ?_)
       ·
        replace hm := bif_t hm hc121
        refine Wp_skip ?_
        refine Wp_seq ?_
        refine Wp_block ?_
        refine Wp_seq ?_
        refine Wp_region ?_
        refine Rg_op rfl (op_move (v := (Value.int .i64 v_3)) rfl ?_)
        refine Rg_op rfl (op_assign (v := (Value.int .i64 v_3)) rfl ?_)
        refine Rg_nil ?_
        refine Wp_seq ?_
        refine Wp_seq ?_
        refine Wp_region ?_
        refine Rg_op rfl (op_move (v := (Value.int .i64 v_2)) rfl ?_)
        refine Rg_op rfl (op_move (v := (Value.int .i64 v_3)) rfl ?_)
        replace hm := ck_some hm; obtain ⟨hc122, hm⟩ := hm
        refine Rg_op rfl (op_shr rfl rfl hc122 ?_)
        refine Rg_op rfl (op_and rfl rfl ?_)
        refine Rg_op rfl (op_eql rfl rfl ?_)
        refine Rg_nil ?_
        refine Wp_cond rfl (fun hc123 => ?_) (fun hc123 => ?_)
        ·
         replace hm := bif_t hm hc123
         refine Wp_exit ?_
         refine Wp_region ?_
         refine Rg_op rfl (op_addw rfl rfl ?_)
         refine Rg_op rfl (op_move (v := (Value.int .i64 (IntKind.wrap .i64 (v_3 + 1)))) rfl ?_)
         refine Rg_nil ?_
         exact hK111 _ _ ⟨group_1, (IntKind.wrap .i64 (v_3 + 1)), a_g106, c_g106, k_g106, o_g106, _, rfl, ⟨(by repeat (first | with_reducible exact Out.refl _ _ | refine Out.upd ?_ rfl | refine Out.updL ?_ rfl | refine Out.mix' ?_ rfl | exact Out.refl _ _)), rfl, rfl, rfl, trivial⟩, ch120, hs116, f_g106, (inK_wrap .i64 _), jnE2 hsf110 hm⟩
        ·
         replace hm := bif_f hm hc123
         refine Wp_skip ?_
         refine Wp_seq ?_
         refine Wp_seq ?_
         refine Wp_region ?_
         refine Rg_op rfl (op_fieldAddr ty25 rfl ty22 (by decide) rfl (rfl : _ = (⟨_, 1, none⟩ : Addr)) ?_)
         refine Rg_op rfl (op_load (cs := [(Value.int .i64 r_.slots), (Value.slice a_r__owners r_.owners.length c_r__owners), (Value.slice a_r__costs r_.costs.length c_r__costs)]) (i := 1) ty22 hs116 rfl rfl rfl ?_)
         refine Rg_op rfl (op_move (v := (Value.int .i64 v_3)) rfl ?_)
         replace hm := bd hm; obtain ⟨contains_1, hv124, hm⟩ := hm
         refine Rg_op rfl (op_call Try.call43 (c43_slices_Containsint_int_ (s := r_.owners) (v := v_3) hs116.ltw f_r__owners r_y107 hv124) rfl ?_)
         rintro v125 w126 ⟨hx127, h128⟩
         have hs129 := hs116.call hx127
         have p130 := Step.ext (O := ks [(k_g106, o_g106), (some b1, Obj.cells [(Value.int .i64 r_.slots), (Value.slice a_r__owners r_.owners.length c_r__owners), (Value.slice a_r__costs r_.costs.length c_r__costs)].toArray 25)] O) hx127
         clear hx127
         replace f_r__owners := f_r__owners.step p130; replace f_r__costs := f_r__costs.step p130; replace f79 := f79.step p130; replace f_g106 := f_g106.step p130; replace ch93 := ch93.trans p130; replace ch104 := ch104.trans p130; replace ch120 := ch120.trans p130; clear p130 hs116
         obtain rfl := h128
         refine Rg_op rfl (op_not rfl ?_)
         refine Rg_nil ?_
         refine Wp_cond rfl (fun hc132 => ?_) (fun hc132 => ?_)
         ·
          replace hm := bif_t hm hc132
          refine Wp_exit ?_
          have hs133 := hs129.drop 0
          replace f_r__owners := f_r__owners.step (hs129.dropS 0)
          replace f_r__costs := f_r__costs.step (hs129.dropS 0)
          replace f79 := f79.step (hs129.dropS 0)
          replace f_g106 := f_g106.step (hs129.dropS 0)
          replace ch93 := ch93.trans (hs129.dropS 0)
          replace ch104 := ch104.trans (hs129.dropS 0)
          replace ch120 := ch120.trans (hs129.dropS 0); clear hs129
          exact hK98 _ _ ⟨_, rfl, ⟨(by repeat (first | with_reducible exact Out.refl _ _ | refine Out.upd ?_ rfl | refine Out.updL ?_ rfl | refine Out.mix' ?_ rfl | exact Out.refl _ _)), rfl, trivial⟩, ch104, hs133, hm⟩
         ·
          replace hm := bif_f hm hc132
          refine Wp_skip ?_
          refine Wp_region ?_
          refine Rg_op rfl (op_move (v := (Value.slice a_g106 group_1.length c_g106)) rfl ?_)
          refine Rg_op rfl (op_move (v := (Value.int .i64 v_3)) rfl ?_)
          refine Rg_op rfl (op_buildSlice (cs := [(Value.int .i64 v_3)]) (parts := [(0, .tmp 49)]) ty22 ty3 hs129 (by decide) rfl ?_)
          intro b134 w135 hx138 p136 hs137
          replace f_r__owners := f_r__owners.step p136; replace f_r__costs := f_r__costs.step p136; replace f79 := f79.step p136; replace f_g106 := f_g106.step p136; replace ch93 := ch93.trans p136; replace ch104 := ch104.trans p136; replace ch120 := ch120.trans p136; clear p136 hs129
          replace hm := ck_some hm; obtain ⟨hc140, hm⟩ := hm
          refine Rg_op rfl (op_append (q := (rInt .i64)) (i := 1) (xs := group_1) (ys := [v_3]) (news := [(Value.int .i64 v_3)]) ty22 ty3 rfl (by decide) hs137 rfl rfl f_g106 rfl (Src.owned' (len := 1) (hs137.get (i := 0) rfl) rfl) (show Els (rInt .i64) _ _ [(Value.int .i64 v_3)] [v_3] from ⟨_, _, rfl, (mk_int r_y107), Els.nil⟩) hc140 (by have := hc140; simp only [maxLen]; omega) ?_)
          intro a144 c145 k146 o147 w141 p142 hs143 f148
          replace f_r__owners := f_r__owners.step p142; replace f_r__costs := f_r__costs.step p142; replace f79 := f79.step p142; replace ch93 := ch93.trans p142; replace ch104 := ch104.trans p142; replace ch120 := ch120.trans p142; clear p142 hs137
          have hs149 := hs143.drop 0
          replace f_r__owners := f_r__owners.step (hs143.dropS 0)
          replace f_r__costs := f_r__costs.step (hs143.dropS 0)
          replace f79 := f79.step (hs143.dropS 0)
          replace f148 := f148.step (hs143.dropS 0)
          replace ch93 := ch93.trans (hs143.dropS 0)
          replace ch104 := ch104.trans (hs143.dropS 0)
          replace ch120 := ch120.trans (hs143.dropS 0); clear hs143
          refine Rg_op rfl (op_assign (v := (Value.slice a144 (group_1 ++ [v_3]).length c145)) rfl ?_)
          refine Rg_nil ?_
          refine Wp_region ?_
          refine Rg_op rfl (op_addw rfl rfl ?_)
          refine Rg_op rfl (op_move (v := (Value.int .i64 (IntKind.wrap .i64 (v_3 + 1)))) rfl ?_)
          refine Rg_nil ?_
          exact hK111 _ _ ⟨(group_1 ++ [v_3]), (IntKind.wrap .i64 (v_3 + 1)), a144, c145, k146, o147, _, rfl, ⟨(by repeat (first | with_reducible exact Out.refl _ _ | refine Out.upd ?_ rfl | refine Out.updL ?_ rfl | refine Out.mix' ?_ rfl | exact Out.refl _ _)), rfl, rfl, rfl, trivial⟩, ch120, hs149, f148, (inK_wrap .i64 _), jnE2 hsf110 hm⟩
       ·
        replace hm := bif_f hm hc121
        refine Wp_exit ?_
        refine Wp_seq ?_
        refine Wp_seq ?_
        refine Wp_region ?_
        refine Rg_op rfl (op_move (v := (Value.slice a_g106 group_1.length c_g106)) rfl ?_)
        refine Rg_op rfl (op_len Try.underlying22 rfl ?_)
        have rl150 := inK_lenG f_g106
        refine Rg_op rfl (op_eql rfl rfl ?_)
        refine Rg_nil ?_
        refine Wp_cond rfl (fun hc151 => ?_) (fun hc151 => ?_)
        ·
         replace hm := bif_t hm hc151
         refine Wp_exit ?_
         have hs152 := hs116.drop 0
         replace f_r__owners := f_r__owners.step (hs116.dropS 0)
         replace f_r__costs := f_r__costs.step (hs116.dropS 0)
         replace f79 := f79.step (hs116.dropS 0)
         replace f_g106 := f_g106.step (hs116.dropS 0)
         replace ch93 := ch93.trans (hs116.dropS 0)
         replace ch104 := ch104.trans (hs116.dropS 0)
         replace ch120 := ch120.trans (hs116.dropS 0); clear hs116
         exact hK98 _ _ ⟨_, rfl, ⟨(by repeat (first | with_reducible exact Out.refl _ _ | refine Out.upd ?_ rfl | refine Out.updL ?_ rfl | refine Out.mix' ?_ rfl | exact Out.refl _ _)), rfl, trivial⟩, ch104, hs152, hm⟩
        ·
         replace hm := bif_f hm hc151
         refine Wp_skip ?_
         refine Wp_seq ?_
         refine Wp_region ?_
         refine Rg_op rfl (op_loadA (cs := [(Value.int .i64 r_.slots), (Value.slice a_r__owners r_.owners.length c_r__owners), (Value.slice a_r__costs r_.costs.length c_r__costs)]) (vs := [(Value.int .i64 r_.slots), (Value.slice a_r__owners r_.owners.length c_r__owners), (Value.slice a_r__costs r_.costs.length c_r__costs)]) (i := 1) ty25 hs116 rfl rfl rfl rfl ?_)
         refine Rg_op rfl (op_move (v := (Value.slice a71 costs_1.length c72)) rfl ?_)
         refine Rg_op rfl (op_move (v := (Value.slice a_g106 group_1.length c_g106)) rfl ?_)
         obtain ⟨hs154, p155, f153⟩ := Gs.publish (i := 0) hs116 rfl f_g106
         replace f_r__owners := f_r__owners.step p155; replace f_r__costs := f_r__costs.step p155; replace f79 := f79.step p155; replace ch93 := ch93.trans p155; replace ch104 := ch104.trans p155; replace ch120 := ch120.trans p155; clear p155 hs116
         replace hm := bd hm; obtain ⟨blocks_1, hv156, hm⟩ := hm
         refine Rg_op rfl (op_call Try.call40 (c40_coalition_blocks (r_ := r_) (than := costs_1) (group := group_1) hs154.ltw r_r__slots f_r__owners f_r__costs f79 f153 hv156) rfl ?_)
         rintro v157 w158 ⟨hx159, h160⟩
         have hs161 := hs154.call hx159
         have p162 := Step.ext (O := ks [(some b1, Obj.cells [(Value.int .i64 r_.slots), (Value.slice a_r__owners r_.owners.length c_r__owners), (Value.slice a_r__costs r_.costs.length c_r__costs)].toArray 25)] O) hx159
         clear hx159
         replace f_r__owners := f_r__owners.step p162; replace f_r__costs := f_r__costs.step p162; replace f79 := f79.step p162; replace f153 := f153.step p162; replace ch93 := ch93.trans p162; replace ch104 := ch104.trans p162; replace ch120 := ch120.trans p162; clear p162 hs154
         obtain ⟨v163, v164, rfl, h165, h166⟩ := h160
         obtain ⟨a_y167, c_y167, rfl, f_y167⟩ := un_sl h165
         obtain rfl := h166
         refine Rg_op rfl (op_move (v := (Value.tuple [(Value.slice a_y167 blocks_1.1.length c_y167), (Value.bool blocks_1.2)].toArray)) rfl ?_)
         refine Rg_op rfl (op_extract (v := (Value.slice a_y167 blocks_1.1.length c_y167)) rfl rfl ?_)
         refine Rg_op rfl (op_extract (v := (Value.bool blocks_1.2)) rfl rfl ?_)
         refine Rg_op rfl (op_assign (v := (Value.slice a_y167 blocks_1.1.length c_y167)) rfl ?_)
         refine Rg_op rfl (op_assign (v := (Value.bool blocks_1.2)) rfl ?_)
         refine Rg_nil ?_
         refine Wp_seq ?_
         clear f153 f_y167
         refine Wp_region ?_
         refine Rg_op rfl (op_move (v := (Value.bool blocks_1.2)) rfl ?_)
         refine Rg_nil ?_
         refine Wp_cond rfl (fun hc169 => ?_) (fun hc169 => ?_)
         ·
          replace hm := bif_t hm hc169
          refine Wp_seq ?_
          clear f79
          refine Wp_region ?_
          refine Rg_op rfl (op_assign (v := (Value.bool false)) rfl ?_)
          refine Rg_op rfl (op_assign (v := (Value.int .i64 0)) rfl ?_)
          refine Rg_nil ?_
          refine Wp_ret ?_
          have hz := step_all hs161
          replace f_r__owners := f_r__owners.step hz; replace f_r__costs := f_r__costs.step hz
          refine ⟨_, (show Closes [] _ _ from rfl), [(Value.bool false), (Value.int .i64 0)], ⟨rfl, rfl, trivial⟩, hs161.ext, ?_⟩
          exact Vr.eq (a := (vT2 vB (vI .i64))) (x := (false, 0)) (mkT2 rfl ⟨rfl, (show InK .i64 0 from by decide)⟩) (Option.some.inj hm)
         ·
          replace hm := bif_f hm hc169
          refine Wp_skip ?_
          exact hK98 _ _ ⟨_, rfl, ⟨(by repeat (first | with_reducible exact Out.refl _ _ | refine Out.upd ?_ rfl | refine Out.updL ?_ rfl | refine Out.mix' ?_ rfl | exact Out.refl _ _)), rfl, trivial⟩, ch104, hs161, hm⟩
    ·
     replace hm := bif_f hm hc94
     refine Wp_exit ?_
     refine Wp_seq ?_
     obtain ⟨hs170, p171⟩ := hs89.sub (bs' := []) (.cons _ List.Sublist.slnil)
     clear f_r__owners f_r__costs f79
     replace ch93 := ch93.trans p171; clear p171 hs89
     refine Wp_region ?_
     refine Rg_op rfl (op_assign (v := (Value.bool true)) rfl ?_)
     refine Rg_op rfl (op_assign (v := (Value.int .i64 0)) rfl ?_)
     refine Rg_nil ?_
     refine Wp_ret ?_
     have hz := step_all hs170
     refine ⟨_, (show Closes [] _ _ from rfl), [(Value.bool true), (Value.int .i64 0)], ⟨rfl, rfl, trivial⟩, hs170.ext, ?_⟩
     exact Vr.eq (a := (vT2 vB (vI .i64))) (x := (true, 0)) (mkT2 rfl ⟨rfl, (show InK .i64 0 from by decide)⟩) (Option.some.inj hm)
 ·
  intro K23 hK23
  have ch172 := Step.refl (ks [(some b1, Obj.cells [(Value.int .i64 r_.slots), (Value.slice a_r__owners r_.owners.length c_r__owners), (Value.slice a_r__costs r_.costs.length c_r__costs)].toArray 25)] O) w8
  refine Wp_region ?_
  refine Rg_op rfl (op_move (v := (Value.int .i64 worse_1.2)) rfl ?_)
  refine Rg_op rfl (op_neq rfl rfl ?_)
  refine Rg_op rfl (op_move (v := (Value.bool (decide (worse_1.2 ≠ 0)))) rfl ?_)
  refine Rg_case (fun hg173 => ?_) (fun hg173 => ?_)
  ·
   replace hm := bif_t hm hg173
   iterate 3 refine Rg_opx rfl (asB_ne rfl rfl) rfl ?_
   refine Rg_op rfl (op_pick_t (v := (Value.bool true)) rfl rfl ?_)
   refine Rg_nil ?_
   exact hK23 _ _ ⟨true, _, rfl, ⟨(by repeat (first | with_reducible exact Out.refl _ _ | refine Out.upd ?_ rfl | refine Out.updL ?_ rfl | refine Out.mix' ?_ rfl | exact Out.refl _ _)), rfl, rfl, trivial⟩, ch172, hs11, hm⟩
  ·
   replace hm := bif_f hm hg173
   refine Rg_opg rfl rfl rfl (op_move (v := (Value.slice a_y17 worse_1.1.length c_y17)) rfl ?_)
   refine Rg_opg rfl rfl rfl (op_len Try.underlying22 rfl ?_)
   have rl174 := inK_len f_y17
   refine Rg_opg rfl rfl rfl (op_gtr rfl rfl ?_)
   refine Rg_op rfl (op_pick_f (v := (Value.bool (decide (0 < (worse_1.1.length : Int))))) rfl rfl ?_)
   refine Rg_nil ?_
   exact hK23 _ _ ⟨(decide (0 < (worse_1.1.length : Int))), _, rfl, ⟨(by repeat (first | with_reducible exact Out.refl _ _ | refine Out.upd ?_ rfl | refine Out.updL ?_ rfl | refine Out.mix' ?_ rfl | exact Out.refl _ _)), rfl, rfl, trivial⟩, ch172, hs11, hm⟩

end Go.Fx



set_option linter.unusedVariables false
set_option linter.unusedSimpArgs false
set_option maxRecDepth 100000
set_option maxHeartbeats 0
namespace Go.Fx
open Go Go.RowKit Go.Proofs
def m25_overflightref37_SameInts_B0 (a : List Int) (b : List Int) (sf6 : Int → Option Bool) (i_1 : Int) : Option Bool :=
 bif (decide (i_1 < (a.length : Int))) then
  ck ((0 : Int) ≤ i_1 ∧ i_1 < (a.length : Int)) <|
  ck ((0 : Int) ≤ i_1 ∧ i_1 < (b.length : Int)) <|
  bif (decide ((a.getD i_1.toNat default) ≠ (b.getD i_1.toNat default))) then
   some false
  else
   sf6 (IntKind.wrap .i64 (i_1 + 1))
 else
  some true

def m25_overflightref37_SameInts (a : List Int) (b : List Int) : Option Bool :=
 bif (decide ((a.length : Int) ≠ (b.length : Int))) then
  some false
 else
  loop1 (m25_overflightref37_SameInts_B0 a b) (((a.length : Int) - 0).toNat + 1) 0

theorem c25_overflightref37_SameInts {w : World} {O : List Nat} {a : List Int} {b : List Int} {a_a : Option Addr} {c_a : Nat} {a_b : Option Addr} {c_b : Nat} (hO : ∀ k ∈ O, k < w.heap.size) (f_a : SlR (rInt .i64) w O a_a c_a a) (f_b : SlR (rInt .i64) w O a_b c_b b) {x : Bool} (hm : m25_overflightref37_SameInts a b = some x) :
  Ok Try.prog 25 [(Value.slice a_a a.length c_a), (Value.slice a_b b.length c_b)] w O vB x := by
 unfold m25_overflightref37_SameInts at hm
 refine Fn_of_Wp (n := 26) (xs := [.tmp 4]) Try.func25 rfl Try.ntmps25 Try.results25 rfl ?_
 have hs := St.start hO
 refine Wp_seq ?_
 refine Wp_region ?_
 refine Rg_op rfl (op_assign (v := (Value.bool false)) rfl ?_)
 refine Rg_nil ?_
 refine Wp_seq ?_
 refine Wp_seq ?_
 refine Wp_region ?_
 refine Rg_op rfl (op_move (v := (Value.slice a_a a.length c_a)) rfl ?_)
 refine Rg_op rfl (op_len Try.underlying22 rfl ?_)
 have rl1 := inK_len f_a
 refine Rg_op rfl (op_move (v := (Value.slice a_b b.length c_b)) rfl ?_)
 refine Rg_op rfl (op_len Try.underlying22 rfl ?_)
 have rl2 := inK_len f_b
 refine Rg_op rfl (op_neq rfl rfl ?_)
 refine Rg_nil ?_
 refine Wp_cond rfl (fun hc3 => ?_) (fun hc3 => ?_)
 ·
  replace hm := bif_t hm hc3
  refine Wp_seq ?_
  clear f_a f_b
  refine Wp_region ?_
  refine Rg_op rfl (op_assign (v := (Value.bool false)) rfl ?_)
  refine Rg_nil ?_
  refine Wp_ret ?_
  have hz := step_all hs
  refine ⟨_, (show Closes [] _ _ from rfl), [(Value.bool false)], ⟨rfl, trivial⟩, hs.ext, ?_⟩
  exact Vr.eq (a := vB) (x := false) rfl (Option.some.inj hm)
 ·
  replace hm := bif_f hm hc3
  refine Wp_skip ?_
  refine Wp_seq ?_
  refine Wp_seq ?_
  refine Wp_region ?_
  refine Rg_op rfl (op_assign (v := (Value.int .i64 0)) rfl ?_)
  refine Rg_nil ?_
  refine Wp_block ?_
  refine Wp_reset [] [(0, (Value.slice a_a a.length c_a)), (1, (Value.slice a_b b.length c_b)), (5, (Value.int .i64 0))] rfl ⟨rfl, rfl, rfl, trivial⟩ fun ξ5 => ?_
  refine Wp_loopM [4, 5, 11, 12, 13, 14, 15, 16, 17, 18, 19, 20, 21, 22, 23, 24, 25] (fun m fr w' => ∃ (i_1 : Int) (Ebs : Ents), Ebs = [] ∧ fr [] [(5, (Value.int .i64 i_1))] ∧ Step (ks [] O) w (ks Ebs O) w' ∧ St ⟨w, [], []⟩ O w' Ebs ∧ InK .i64 i_1 ∧ loop1 (m25_overflightref37_SameInts_B0 a b) m i_1 = some x) (((a.length : Int) - 0).toNat + 1) ⟨0, _, rfl, ⟨Out.refl _ _, rfl, rfl, trivial⟩, Step.refl _ _, hs, (show InK .i64 0 from by decide), hm⟩ ?_ ?_
  · rintro _ _ ⟨_, _, _, _, _, _, _, hm⟩; exact loop1_z hm
  ·
   rintro m9 K8 hK8 ρ14 w10 ⟨i_1, Ebs, hEbs, hfr13, hst12, hs11, r_y4, hm⟩
   obtain ⟨sf6, hsf7, hm⟩ := loop1_s hm; unfold m25_overflightref37_SameInts_B0 at hm
   subst hEbs; rw [hfr13.eq]; clear hfr13
   replace f_a := f_a.step hst12; replace f_b := f_b.step hst12
   have ch15 := hst12
   refine Wp_seq ?_
   refine Wp_seq ?_
   refine Wp_region ?_
   refine Rg_op rfl (op_move (v := (Value.int .i64 i_1)) rfl ?_)
   refine Rg_op rfl (op_move (v := (Value.slice a_a a.length c_a)) rfl ?_)
   refine Rg_op rfl (op_len Try.underlying22 rfl ?_)
   have rl16 := inK_len f_a
   refine Rg_op rfl (op_lss rfl rfl ?_)
   refine Rg_nil ?_
   refine Wp_cond rfl (fun hc17 => ?_) (fun hc17 => ?_)
   ·
    replace hm := bif_t hm hc17
    refine Wp_skip ?_
    refine Wp_seq ?_
    refine Wp_block ?_
    refine Wp_seq ?_
    refine Wp_drawR (g0 := []) (m := 8) (fl := []) (TS_inv hs11) rfl (.inl rfl) rfl (by decide +kernel) ?_  -- 6
    refine Dw_eq (Value.slice a_a a.length c_a) (fun ρ18 w19 g hle hi ht => ?_) ?_
    ·
     obtain ⟨-, hst, -⟩ := hle
     refine StepOp_plain (op_move (v := (Value.slice a_a a.length c_a)) (ht 0 rfl) ?_)
     exact Goes.same hi rfl
    refine Dw_eq (Value.int .i64 i_1) (fun ρ21 w22 g hle hi ht => ?_) ?_
    ·
     obtain ⟨-, hst, -⟩ := hle
     refine StepOp_plain (op_move (v := (Value.int .i64 i_1)) (ht 5 rfl) ?_)
     exact Goes.same hi rfl
    replace hm := ck_some hm; obtain ⟨hc27, hm⟩ := hm
    refine Dw_op (VP O [] (rInt .i64) (a.getD i_1.toNat default)) (VP.stab _ _) (fun ρ24 w25 g hle hi ht => ?_) ?_
    ·
     obtain ⟨-, hst, -⟩ := hle
     replace f_a := f_a.step hst
     refine StepOp_plain (op_indexAddr (q := (rInt .i64)) ty22 ty3 (ht 17 rfl) (ht 18 rfl) f_a rfl hc27.1 hc27.2 ?_)
     intro p28 f29
     exact Goes.same hi ⟨_, rfl, f29⟩
    refine Dw_op (VD O [] (vI .i64) (a.getD i_1.toNat default)) (VD.stab _ _) (fun ρ30 w31 g hle hi ht => ?_) ?_
    ·
     obtain ⟨-, hst, -⟩ := hle
     obtain ⟨p33, q34, f35⟩ := ht 19 rfl
     refine StepOp_plain (op_loadP ty3 q34 f35 rfl ?_)
     intro v36 h37
     obtain ⟨rfl, r_y38⟩ := un_int h37
     exact Goes.same hi (show Vr.vd (vI .i64) _ _ _ _ from ⟨rfl, r_y38⟩)
    refine Dw_eq (Value.slice a_b b.length c_b) (fun ρ39 w40 g hle hi ht => ?_) ?_
    ·
     obtain ⟨-, hst, -⟩ := hle
     refine StepOp_plain (op_move (v := (Value.slice a_b b.length c_b)) (ht 1 rfl) ?_)
     exact Goes.same hi rfl
    refine Dw_eq (Value.int .i64 i_1) (fun ρ42 w43 g hle hi ht => ?_) ?_
    ·
     obtain ⟨-, hst, -⟩ := hle
     refine StepOp_plain (op_move (v := (Value.int .i64 i_1)) (ht 5 rfl) ?_)
     exact Goes.same hi rfl
    replace hm := ck_some hm; obtain ⟨hc48, hm⟩ := hm
    refine Dw_op (VP O [] (rInt .i64) (b.getD i_1.toNat default)) (VP.stab _ _) (fun ρ45 w46 g hle hi ht => ?_) ?_
    ·
     obtain ⟨-, hst, -⟩ := hle
     replace f_b := f_b.step hst
     refine StepOp_plain (op_indexAddr (q := (rInt .i64)) ty22 ty3 (ht 21 rfl) (ht 22 rfl) f_b rfl hc48.1 hc48.2 ?_)
     intro p49 f50
     exact Goes.same hi ⟨_, rfl, f50⟩
    refine Dw_op (VD O [] (vI .i64) (b.getD i_1.toNat default)) (VD.stab _ _) (fun ρ51 w52 g hle hi ht => ?_) ?_
    ·
     obtain ⟨-, hst, -⟩ := hle
     obtain ⟨p54, q55, f56⟩ := ht 23 rfl
     refine StepOp_plain (op_loadP ty3 q55 f56 rfl ?_)
     intro v57 h58
     obtain ⟨rfl, r_y59⟩ := un_int h58
     exact Goes.same hi (show Vr.vd (vI .i64) _ _ _ _ from ⟨rfl, r_y59⟩)
    refine Dw_nil fun w64 g65 hl66 hi67 => ?_
    obtain ⟨-, hst68, -⟩ := hl66
    obtain ⟨hs70, p69⟩ := Step.nx hi67
    rintro v71 h72
    replace h72 : Vr.vd (vI .i64) _ _ _ _ := h72
    obtain ⟨rfl, r_y73⟩ := h72
    rintro _ ⟨p74, rfl, f75⟩
    rintro _ rfl
    rintro _ rfl
    rintro v76 h77
    replace h77 : Vr.vd (vI .i64) _ _ _ _ := h77
    obtain ⟨rfl, r_y78⟩ := h77
    rintro _ ⟨p79, rfl, f80⟩
    rintro _ rfl
    rintro _ rfl
    have p81 : Step (ks [] O) w10 (ks [] O) w64 := hst68.trans p69
    replace f75 := f75.step p69; replace f80 := f80.step p69; replace f_a := f_a.step p81; replace f_b := f_b.step p81; replace ch15 := ch15.trans p81; clear p81 hs11
    refine Rg_op rfl (op_neq rfl rfl ?_)
    refine Rg_nil ?_
    refine Wp_cond rfl (fun hc82 => ?_) (fun hc82 => ?_)
    ·
     replace hm := bif_t hm hc82
     refine Wp_seq ?_
     clear f_a f_b f75 f80
     refine Wp_region ?_
     refine Rg_op rfl (op_assign (v := (Value.bool false)) rfl ?_)
     refine Rg_nil ?_
     refine Wp_ret ?_
     have hz := step_all hs70
     refine ⟨_, (show Closes [] _ _ from rfl), [(Value.bool false)], ⟨rfl, trivial⟩, hs70.ext, ?_⟩
     exact Vr.eq (a := vB) (x := false) rfl (Option.some.inj hm)
    ·
     replace hm := bif_f hm hc82
     refine Wp_skip ?_
     clear f75 f80
     refine Wp_region ?_
     refine Rg_op rfl (op_move (v := (Value.int .i64 i_1)) rfl ?_)
     refine Rg_op rfl (op_addw rfl rfl ?_)
     refine Rg_op rfl (op_assign (v := (Value.int .i64 (IntKind.wrap .i64 (i_1 + 1)))) rfl ?_)
     refine Rg_nil ?_
     exact hK8 _ _ ⟨(IntKind.wrap .i64 (i_1 + 1)), _, rfl, ⟨(by repeat (first | with_reducible exact Out.refl _ _ | refine Out.upd ?_ rfl | refine Out.updL ?_ rfl | refine Out.mix' ?_ rfl | exact Out.refl _ _)), rfl, rfl, trivial⟩, ch15, hs70, (inK_wrap .i64 _), jnE1 hsf7 hm⟩
   ·
    replace hm := bif_f hm hc17
    refine Wp_exit ?_
    refine Wp_seq ?_
    clear f_a f_b
    refine Wp_region ?_
    refine Rg_op rfl (op_assign (v := (Value.bool true)) rfl ?_)
    refine Rg_nil ?_
    refine Wp_ret ?_
    have hz := step_all hs11
    refine ⟨_, (show Closes [] _ _ from rfl), [(Value.bool true)], ⟨rfl, trivial⟩, hs11.ext, ?_⟩
    exact Vr.eq (a := vB) (x := true) rfl (Option.some.inj hm)

end Go.Fx



set_option linter.unusedVariables false
set_option linter.unusedSimpArgs false
set_option maxRecDepth 100000
set_option maxHeartbeats 0
namespace Go.Fx
open Go Go.RowKit Go.Proofs
def m15_overflightlaw37_sane : Option Bool :=
 (m18_coalition_Costs (⟨3, [2, 5], [[9, 1, (-1)], [0, 4, 2]]⟩ : XRound) [0, 1]).bind fun costs_1 =>
 (m18_coalition_Costs (⟨3, [2, 5], [[9, 1, (-1)], [0, 4, 2]]⟩ : XRound) [1, 0]).bind fun costs_2 =>
 (m23_coalition_Worse (⟨3, [2, 5], [[9, 1, (-1)], [0, 4, 2]]⟩ : XRound) [1, 2]).bind fun worse_1 =>
 (m17_coalition_Blocks (⟨3, [2, 5], [[9, 1, (-1)], [0, 4, 2]]⟩ : XRound) [0, 1] [2, 5]).bind fun blocks_1 =>
 (m17_coalition_Blocks (⟨3, [2, 5], [[9, 1, (-1)], [0, 4, 2]]⟩ : XRound) [0, 1] [2]).bind fun blocks_2 =>
 (m19_coalition_Stable (⟨3, [2, 5], [[9, 1, (-1)], [0, 4, 2]]⟩ : XRound) [0, 1]).bind fun stable_1 =>
 (m19_coalition_Stable (⟨3, [2, 5], [[9, 1, (-1)], [0, 4, 2]]⟩ : XRound) [1, 0]).bind fun stable_2 =>
 (m19_coalition_Stable (⟨1, ([] : List Int), ([] : List (List Int))⟩ : XRound) ([] : List Int)).bind fun stable_3 =>
 (m17_coalition_Blocks (⟨3, [2, 5], [[9, 1, (-1)], [0, 4, 2]]⟩ : XRound) [0, 1] ([] : List Int)).bind fun blocks_3 =>
 (m18_coalition_Costs (⟨3, [2, 5], [[9, 1, (-1)], [0, 4, 2]]⟩ : XRound) ([] : List Int)).bind fun costs_3 =>
 (m24_coalition_Allowed (⟨3, [2, 5], [[9, 1, (-1)], [0, 4, 2]]⟩ : XRound) [2, 1]).bind fun allowed_1 =>
 (m24_coalition_Allowed (⟨3, [2, 5], [[9, 1, (-1)], [0, 4, 2]]⟩ : XRound) [0, 1]).bind fun allowed_2 =>
 (m23_coalition_Worse (⟨3, [2, 5], [[9, 1, (-1)], [0, 4, 2]]⟩ : XRound) [0, 1]).bind fun worse_2 =>
 jn (fun (v_1 : Bool) =>
  bif v_1 then
   some false
  else
   jn (fun (v_2 : Bool) =>
    some v_2)
   (fun k298 =>
    (m25_overflightref37_SameInts costs_1.1 [0, 0, 9, 0, 0, 4, 0, 0]).bind fun sameints_1 =>
    bif sameints_1 then
     (m25_overflightref37_SameInts costs_2.1 [0, 0, 1, 0, 0, 0, 0, 0]).bind fun sameints_2 =>
     bif sameints_2 then
      bif (decide ((worse_1.1.length : Int) = 0)) then
       (m25_overflightref37_SameInts blocks_1.1 [1, 0]).bind fun sameints_3 =>
       bif sameints_3 then
        bif blocks_1.2.1 then
         bif (!blocks_2.2.1) then
          bif (!stable_1.1) then
           bif stable_2.1 then
            bif stable_3.1 then
             bif (!allowed_1.1) then
              bif allowed_2.1 then
               bif (decide ((worse_2.1.length : Int) = 0)) then
                (m22_coalition_Check (⟨0, ([] : List Int), ([] : List (List Int))⟩ : XRound)).bind fun check_1 =>
                bif (decide (check_1 = 370)) then
                 (m22_coalition_Check (⟨3, [2, 5], [[9, 1, (-1)], [0, 4, 2]]⟩ : XRound)).bind fun check_2 =>
                 k298 (decide (check_2 = 0))
                else
                 k298 false
               else
                k298 false
              else
               k298 false
             else
              k298 false
            else
             k298 false
           else
            k298 false
          else
           k298 false
         else
          k298 false
        else
         k298 false
       else
        k298 false
      else
       k298 false
     else
      k298 false
    else
     k298 false))
 (fun k284 =>
  bif (decide (costs_1.2 ≠ 0)) then
   k284 true
  else
   bif (decide (costs_2.2 ≠ 0)) then
    k284 true
   else
    bif (decide (worse_1.2 ≠ 0)) then
     k284 true
    else
     bif (decide (blocks_1.2.2 ≠ 0)) then
      k284 true
     else
      bif (decide (blocks_2.2.2 ≠ 0)) then
       k284 true
      else
       bif (decide (stable_1.2 ≠ 0)) then
        k284 true
       else
        bif (decide (stable_2.2 ≠ 0)) then
         k284 true
        else
         bif (decide (stable_3.2 ≠ 0)) then
          k284 true
         else
          bif (decide (blocks_3.2.2 ≠ 1)) then
           k284 true
          else
           bif (decide (costs_3.2 ≠ 370)) then
            k284 true
           else
            bif (decide (allowed_1.2 ≠ 0)) then
             k284 true
            else
             bif (decide (allowed_2.2 ≠ 0)) then
              k284 true
             else
              k284 (decide (worse_2.2 ≠ 0)))

theorem c15_overflightlaw37_sane {w : World} {O : List Nat} (hO : ∀ k ∈ O, k < w.heap.size) {x : Bool} (hm : m15_overflightlaw37_sane = some x) :
  Ok Try.prog 15 [] w O vB x := by
 unfold m15_overflightlaw37_sane at hm
 refine Fn_of_Wp (n := 228) (xs := [.tmp 0]) Try.func15 rfl Try.ntmps15 Try.results15 rfl ?_
 have hs := St.start hO
 refine Wp_seq ?_
 refine Wp_region ?_
 refine Rg_op rfl (op_assign (v := (Value.bool false)) rfl ?_)
 refine Rg_nil ?_
 refine Wp_seq ?_
 refine Wp_region ?_
 refine Rg_op rfl (op_buildSlice (cs := [(Value.int .i64 2), (Value.int .i64 5)]) (parts := [(0, .const (.int .i64 2)), (1, .const (.int .i64 5))]) ty22 ty3 hs (by decide) rfl ?_)
 intro b1 w2 hx5 p3 hs4
 clear p3
 refine Rg_op rfl (op_buildSlice (cs := [(Value.int .i64 9), (Value.int .i64 1), (Value.int .i64 (-1))]) (parts := [(0, .const (.int .i64 9)), (1, .const (.int .i64 1)), (2, .const (.int .i64 (-1)))]) ty22 ty3 hs4 (by decide) rfl ?_)
 intro b7 w8 hx11 p9 hs10
 clear p9 hs4
 refine Rg_op rfl (op_buildSlice (cs := [(Value.int .i64 0), (Value.int .i64 4), (Value.int .i64 2)]) (parts := [(0, .const (.int .i64 0)), (1, .const (.int .i64 4)), (2, .const (.int .i64 2))]) ty22 ty3 hs10 (by decide) rfl ?_)
 intro b13 w14 hx17 p15 hs16
 clear p15 hs10
 obtain ⟨hs20, p21, f19⟩ := St.publish (i := 1) (o := 0) (c := 3) (xs := [9, 1, (-1)]) hs16 rfl (show Els (rInt .i64) _ _ [(Value.int .i64 9), (Value.int .i64 1), (Value.int .i64 (-1))] [9, 1, (-1)] from ⟨_, _, rfl, (mk_int (show InK .i64 9 from by decide)), ⟨_, _, rfl, (mk_int (show InK .i64 1 from by decide)), ⟨_, _, rfl, (mk_int (show InK .i64 (-1) from by decide)), Els.nil⟩⟩⟩) (le_lit rfl) (le_lit rfl) (le_lit rfl)
 clear p21 hs16
 obtain ⟨hs23, p24, f22⟩ := St.publish (i := 0) (o := 0) (c := 3) (xs := [0, 4, 2]) hs20 rfl (show Els (rInt .i64) _ _ [(Value.int .i64 0), (Value.int .i64 4), (Value.int .i64 2)] [0, 4, 2] from ⟨_, _, rfl, (mk_int (show InK .i64 0 from by decide)), ⟨_, _, rfl, (mk_int (show InK .i64 4 from by decide)), ⟨_, _, rfl, (mk_int (show InK .i64 2 from by decide)), Els.nil⟩⟩⟩) (le_lit rfl) (le_lit rfl) (le_lit rfl)
 replace f19 := f19.step p24; clear p24 hs20
 refine Rg_op rfl (op_buildSlice (cs := [(Value.slice (some ⟨b7, 0, none⟩) [9, 1, (-1)].length 3), (Value.slice (some ⟨b13, 0, none⟩) [0, 4, 2].length 3)]) (parts := [(0, .tmp 34), (1, .tmp 35)]) ty23 ty22 hs23 (by decide) rfl ?_)
 intro b25 w26 hx29 p27 hs28
 replace f19 := f19.step p27; replace f22 := f22.step p27; clear p27 hs23
 have f31 := Gs.of_cells (p := (rInt .i64)) (e := 3) (bl := b1) (c := 2) (w := w26) (O := ks [(some b25, Obj.cells [(Value.slice (some ⟨b7, 0, none⟩) [9, 1, (-1)].length 3), (Value.slice (some ⟨b13, 0, none⟩) [0, 4, 2].length 3)].toArray 22), (some b1, Obj.cells [(Value.int .i64 2), (Value.int .i64 5)].toArray 3)] O) (show Els (rInt .i64) _ _ [(Value.int .i64 2), (Value.int .i64 5)] [2, 5] from ⟨_, _, rfl, (mk_int (show InK .i64 2 from by decide)), ⟨_, _, rfl, (mk_int (show InK .i64 5 from by decide)), Els.nil⟩⟩) rfl (le_lit rfl)
 have f32 := Gs.of_cells (p := (rSl (rInt .i64))) (e := 22) (bl := b25) (c := 2) (w := w26) (O := ks [(some b25, Obj.cells [(Value.slice (some ⟨b7, 0, none⟩) [9, 1, (-1)].length 3), (Value.slice (some ⟨b13, 0, none⟩) [0, 4, 2].length 3)].toArray 22), (some b1, (Obj.cells [(Value.int .i64 2), (Value.int .i64 5)].toArray 3))] O) (show Els (rSl (rInt .i64)) _ _ [(Value.slice (some ⟨b7, 0, none⟩) [9, 1, (-1)].length 3), (Value.slice (some ⟨b13, 0, none⟩) [0, 4, 2].length 3)] [[9, 1, (-1)], [0, 4, 2]] from ⟨_, _, rfl, (mk_sl f19), ⟨_, _, rfl, (mk_sl f22), Els.nil⟩⟩) rfl (le_lit rfl)
 refine Rg_op rfl (op_build (vs := [(Value.int .i64 3), (Value.slice (some ⟨b1, 0, none⟩) [2, 5].length 2), (Value.slice (some ⟨b25, 0, none⟩) [[9, 1, (-1)], [0, 4, 2]].length 2)]) (parts := [(0, .const (.int .i64 3)), (1, .tmp 33), (2, .tmp 36)]) ty25 pl25 rfl ?_)
 refine Rg_op rfl (op_alloc ty25 hs28 ?_)
 intro b33 w34 _ p35 hs36
 replace f19 := f19.step p35; replace f22 := f22.step p35; replace f31 := f31.step p35; replace f32 := f32.step p35; clear p35 hs28
 refine Rg_op_ (op_store (cs := [(Value.int .i64 0), (Value.slice none 0 0), (Value.slice none 0 0)]) (vs := [(Value.int .i64 3), (Value.slice (some ⟨b1, 0, none⟩) [2, 5].length 2), (Value.slice (some ⟨b25, 0, none⟩) [[9, 1, (-1)], [0, 4, 2]].length 2)]) (cs' := [(Value.int .i64 3), (Value.slice (some ⟨b1, 0, none⟩) [2, 5].length 2), (Value.slice (some ⟨b25, 0, none⟩) [[9, 1, (-1)], [0, 4, 2]].length 2)]) (bs' := [(some b33, Obj.cells [(Value.int .i64 3), (Value.slice (some ⟨b1, 0, none⟩) [2, 5].length 2), (Value.slice (some ⟨b25, 0, none⟩) [[9, 1, (-1)], [0, 4, 2]].length 2)].toArray 25), (some b25, (Obj.cells [(Value.slice (some ⟨b7, 0, none⟩) [9, 1, (-1)].length 3), (Value.slice (some ⟨b13, 0, none⟩) [0, 4, 2].length 3)].toArray 22)), (some b1, (Obj.cells [(Value.int .i64 2), (Value.int .i64 5)].toArray 3))]) (i := 0) ty25 hs36 rfl rfl rfl rfl rfl (le_lit rfl) rfl rfl rfl ?_)
 intro w38 p39 hs40
 replace f19 := f19.step p39; replace f22 := f22.step p39; replace f31 := f31.step p39; replace f32 := f32.step p39; clear p39 hs36
 refine Rg_nil ?_
 refine Wp_seq ?_
 clear f19 f22
 refine Wp_region ?_
 refine Rg_op rfl (op_buildSlice (cs := [(Value.int .i64 0), (Value.int .i64 1)]) (parts := [(0, .const (.int .i64 0)), (1, .const (.int .i64 1))]) ty22 ty3 hs40 (by decide) rfl ?_)
 intro b41 w42 hx45 p43 hs44
 replace f31 := f31.step p43; replace f32 := f32.step p43; clear p43 hs40
 refine Rg_op rfl (op_buildSlice (cs := [(Value.int .i64 1), (Value.int .i64 0)]) (parts := [(0, .const (.int .i64 1)), (1, .const (.int .i64 0))]) ty22 ty3 hs44 (by decide) rfl ?_)
 intro b47 w48 hx51 p49 hs50
 replace f31 := f31.step p49; replace f32 := f32.step p49; clear p49 hs44
 refine Rg_op rfl (op_assign (v := (Value.slice (some ⟨b41, 0, none⟩) 2 2)) rfl ?_)
 refine Rg_op rfl (op_assign (v := (Value.slice (some ⟨b47, 0, none⟩) 2 2)) rfl ?_)
 refine Rg_nil ?_
 refine Wp_seq ?_
 refine Wp_region ?_
 refine Rg_op rfl (op_loadA (cs := [(Value.int .i64 3), (Value.slice (some ⟨b1, 0, none⟩) [2, 5].length 2), (Value.slice (some ⟨b25, 0, none⟩) [[9, 1, (-1)], [0, 4, 2]].length 2)]) (vs := [(Value.int .i64 3), (Value.slice (some ⟨b1, 0, none⟩) [2, 5].length 2), (Value.slice (some ⟨b25, 0, none⟩) [[9, 1, (-1)], [0, 4, 2]].length 2)]) (i := 2) ty25 hs50 rfl rfl rfl rfl ?_)
 refine Rg_op rfl (op_move (v := (Value.slice (some ⟨b41, 0, none⟩) 2 2)) rfl ?_)
 obtain ⟨hs54, p55, f53⟩ := Gs.publish (i := 4) hs50 rfl f31
 replace f32 := f32.step p55; clear p55 hs50
 obtain ⟨hs57, p58, f56⟩ := Gs.publish (i := 3) hs54 rfl f32
 replace f53 := f53.step p58; clear p58 hs54
 obtain ⟨hs60, p61, f59⟩ := St.publish (i := 1) (o := 0) (c := 2) (xs := [0, 1]) hs57 rfl (show Els (rInt .i64) _ _ [(Value.int .i64 0), (Value.int .i64 1)] [0, 1] from ⟨_, _, rfl, (mk_int (show InK .i64 0 from by decide)), ⟨_, _, rfl, (mk_int (show InK .i64 1 from by decide)), Els.nil⟩⟩) (le_lit rfl) (le_lit rfl) (le_lit rfl)
 replace f53 := f53.step p61; replace f56 := f56.step p61; clear p61 hs57
 replace hm := bd hm; obtain ⟨costs_1, hv62, hm⟩ := hm
 refine Rg_op rfl (op_call Try.call18 (c18_coalition_Costs (r_ := (⟨3, [2, 5], [[9, 1, (-1)], [0, 4, 2]]⟩ : XRound)) (slots := [0, 1]) hs60.ltw (show InK .i64 3 from by decide) f53 f56 f59 hv62) rfl ?_)
 rintro v63 w64 ⟨hx65, h66⟩
 have hs67 := hs60.call hx65
 have p68 := Step.ext (O := ks [(some b47, Obj.cells [(Value.int .i64 1), (Value.int .i64 0)].toArray 3), (some b33, Obj.cells [(Value.int .i64 3), (Value.slice (some ⟨b1, 0, none⟩) [2, 5].length 2), (Value.slice (some ⟨b25, 0, none⟩) [[9, 1, (-1)], [0, 4, 2]].length 2)].toArray 25)] O) hx65
 clear hx65
 replace f53 := f53.step p68; replace f56 := f56.step p68; replace f59 := f59.step p68; clear p68 hs60
 obtain ⟨v69, v70, rfl, h71, h72⟩ := h66
 obtain ⟨a_y73, c_y73, rfl, f_y73⟩ := un_sl h71
 obtain ⟨rfl, r_y74⟩ := h72
 refine Rg_op rfl (op_move (v := (Value.tuple [(Value.slice a_y73 costs_1.1.length c_y73), (Value.int .i64 costs_1.2)].toArray)) rfl ?_)
 refine Rg_op rfl (op_extract (v := (Value.slice a_y73 costs_1.1.length c_y73)) rfl rfl ?_)
 refine Rg_op rfl (op_extract (v := (Value.int .i64 costs_1.2)) rfl rfl ?_)
 refine Rg_op rfl (op_assign (v := (Value.slice a_y73 costs_1.1.length c_y73)) rfl ?_)
 refine Rg_op rfl (op_assign (v := (Value.int .i64 costs_1.2)) rfl ?_)
 refine Rg_nil ?_
 refine Wp_seq ?_
 refine Wp_region ?_
 refine Rg_op rfl (op_loadA (cs := [(Value.int .i64 3), (Value.slice (some ⟨b1, 0, none⟩) [2, 5].length 2), (Value.slice (some ⟨b25, 0, none⟩) [[9, 1, (-1)], [0, 4, 2]].length 2)]) (vs := [(Value.int .i64 3), (Value.slice (some ⟨b1, 0, none⟩) [2, 5].length 2), (Value.slice (some ⟨b25, 0, none⟩) [[9, 1, (-1)], [0, 4, 2]].length 2)]) (i := 1) ty25 hs67 rfl rfl rfl rfl ?_)
 refine Rg_op rfl (op_move (v := (Value.slice (some ⟨b47, 0, none⟩) 2 2)) rfl ?_)
 obtain ⟨hs76, p77, f75⟩ := St.publish (i := 0) (o := 0) (c := 2) (xs := [1, 0]) hs67 rfl (show Els (rInt .i64) _ _ [(Value.int .i64 1), (Value.int .i64 0)] [1, 0] from ⟨_, _, rfl, (mk_int (show InK .i64 1 from by decide)), ⟨_, _, rfl, (mk_int (show InK .i64 0 from by decide)), Els.nil⟩⟩) (le_lit rfl) (le_lit rfl) (le_lit rfl)
 replace f53 := f53.step p77; replace f56 := f56.step p77; replace f59 := f59.step p77; replace f_y73 := f_y73.step p77; clear p77 hs67
 replace hm := bd hm; obtain ⟨costs_2, hv78, hm⟩ := hm
 refine Rg_op rfl (op_call Try.call18 (c18_coalition_Costs (r_ := (⟨3, [2, 5], [[9, 1, (-1)], [0, 4, 2]]⟩ : XRound)) (slots := [1, 0]) hs76.ltw (show InK .i64 3 from by decide) f53 f56 f75 hv78) rfl ?_)
 rintro v79 w80 ⟨hx81, h82⟩
 have hs83 := hs76.call hx81
 have p84 := Step.ext (O := ks [(some b33, Obj.cells [(Value.int .i64 3), (Value.slice (some ⟨b1, 0, none⟩) [2, 5].length 2), (Value.slice (some ⟨b25, 0, none⟩) [[9, 1, (-1)], [0, 4, 2]].length 2)].toArray 25)] O) hx81
 clear hx81
 replace f53 := f53.step p84; replace f56 := f56.step p84; replace f59 := f59.step p84; replace f_y73 := f_y73.step p84; replace f75 := f75.step p84; clear p84 hs76
 obtain ⟨v85, v86, rfl, h87, h88⟩ := h82
 obtain ⟨a_y89, c_y89, rfl, f_y89⟩ := un_sl h87
 obtain ⟨rfl, r_y90⟩ := h88
 refine Rg_op rfl (op_move (v := (Value.tuple [(Value.slice a_y89 costs_2.1.length c_y89), (Value.int .i64 costs_2.2)].toArray)) rfl ?_)
 refine Rg_op rfl (op_extract (v := (Value.slice a_y89 costs_2.1.length c_y89)) rfl rfl ?_)
 refine Rg_op rfl (op_extract (v := (Value.int .i64 costs_2.2)) rfl rfl ?_)
 refine Rg_op rfl (op_assign (v := (Value.slice a_y89 costs_2.1.length c_y89)) rfl ?_)
 refine Rg_op rfl (op_assign (v := (Value.int .i64 costs_2.2)) rfl ?_)
 refine Rg_nil ?_
 refine Wp_seq ?_
 refine Wp_reset [] [(1, (Value.pointer (some ⟨b33, 0, none⟩))), (2, (Value.slice (some ⟨b41, 0, none⟩) [0, 1].length 2)), (3, (Value.slice (some ⟨b47, 0, none⟩) [1, 0].length 2)), (4, (Value.slice a_y73 costs_1.1.length c_y73)), (5, (Value.int .i64 costs_1.2)), (6, (Value.slice a_y89 costs_2.1.length c_y89)), (7, (Value.int .i64 costs_2.2))] rfl ⟨rfl, rfl, rfl, rfl, rfl, rfl, rfl, trivial⟩ fun ξ91 => ?_
 refine Wp_region ?_
 refine Rg_op rfl (op_loadA (cs := [(Value.int .i64 3), (Value.slice (some ⟨b1, 0, none⟩) [2, 5].length 2), (Value.slice (some ⟨b25, 0, none⟩) [[9, 1, (-1)], [0, 4, 2]].length 2)]) (vs := [(Value.int .i64 3), (Value.slice (some ⟨b1, 0, none⟩) [2, 5].length 2), (Value.slice (some ⟨b25, 0, none⟩) [[9, 1, (-1)], [0, 4, 2]].length 2)]) (i := 0) ty25 hs83 rfl rfl rfl rfl ?_)
 refine Rg_op rfl (op_buildSlice (cs := [(Value.int .i64 1), (Value.int .i64 2)]) (parts := [(0, .const (.int .i64 1)), (1, .const (.int .i64 2))]) ty22 ty3 hs83 (by decide) rfl ?_)
 intro b92 w93 hx96 p94 hs95
 replace f53 := f53.step p94; replace f56 := f56.step p94; replace f59 := f59.step p94; replace f_y73 := f_y73.step p94; replace f75 := f75.step p94; replace f_y89 := f_y89.step p94; clear p94 hs83
 obtain ⟨hs99, p100, f98⟩ := St.publish (i := 0) (o := 0) (c := 2) (xs := [1, 2]) hs95 rfl (show Els (rInt .i64) _ _ [(Value.int .i64 1), (Value.int .i64 2)] [1, 2] from ⟨_, _, rfl, (mk_int (show InK .i64 1 from by decide)), ⟨_, _, rfl, (mk_int (show InK .i64 2 from by decide)), Els.nil⟩⟩) (le_lit rfl) (le_lit rfl) (le_lit rfl)
 replace f53 := f53.step p100; replace f56 := f56.step p100; replace f59 := f59.step p100; replace f_y73 := f_y73.step p100; replace f75 := f75.step p100; replace f_y89 := f_y89.step p100; clear p100 hs95
 replace hm := bd hm; obtain ⟨worse_1, hv101, hm⟩ := hm
 refine Rg_op rfl (op_call Try.call23 (c23_coalition_Worse (r_ := (⟨3, [2, 5], [[9, 1, (-1)], [0, 4, 2]]⟩ : XRound)) (slots := [1, 2]) hs99.ltw (show InK .i64 3 from by decide) f53 f56 f98 hv101) rfl ?_)
 rintro v102 w103 ⟨hx104, h105⟩
 have hs106 := hs99.call hx104
 have p107 := Step.ext (O := ks [(some b33, Obj.cells [(Value.int .i64 3), (Value.slice (some ⟨b1, 0, none⟩) [2, 5].length 2), (Value.slice (some ⟨b25, 0, none⟩) [[9, 1, (-1)], [0, 4, 2]].length 2)].toArray 25)] O) hx104
 clear hx104
 replace f53 := f53.step p107; replace f56 := f56.step p107; replace f59 := f59.step p107; replace f_y73 := f_y73.step p107; replace f75 := f75.step p107; replace f_y89 := f_y89.step p107; replace f98 := f98.step p107; clear p107 hs99
 obtain ⟨v108, v109, rfl, h110, h111⟩ := h105
 obtain ⟨a_y112, c_y112, rfl, f_y112⟩ := un_sl h110
 obtain ⟨rfl, r_y113⟩ := h111
 refine Rg_op rfl (op_move (v := (Value.tuple [(Value.slice a_y112 worse_1.1.length c_y112), (Value.int .i64 worse_1.2)].toArray)) rfl ?_)
 refine Rg_op rfl (op_extract (v := (Value.slice a_y112 worse_1.1.length c_y112)) rfl rfl ?_)
 refine Rg_op rfl (op_extract (v := (Value.int .i64 worse_1.2)) rfl rfl ?_)
 refine Rg_op rfl (op_assign (v := (Value.slice a_y112 worse_1.1.length c_y112)) rfl ?_)
 refine Rg_op rfl (op_assign (v := (Value.int .i64 worse_1.2)) rfl ?_)
 refine Rg_nil ?_
 refine Wp_seq ?_
 clear f98
 refine Wp_region ?_
 refine Rg_op rfl (op_loadA (cs := [(Value.int .i64 3), (Value.slice (some ⟨b1, 0, none⟩) [2, 5].length 2), (Value.slice (some ⟨b25, 0, none⟩) [[9, 1, (-1)], [0, 4, 2]].length 2)]) (vs := [(Value.int .i64 3), (Value.slice (some ⟨b1, 0, none⟩) [2, 5].length 2), (Value.slice (some ⟨b25, 0, none⟩) [[9, 1, (-1)], [0, 4, 2]].length 2)]) (i := 0) ty25 hs106 rfl rfl rfl rfl ?_)
 refine Rg_op rfl (op_move (v := (Value.slice (some ⟨b41, 0, none⟩) [0, 1].length 2)) rfl ?_)
 refine Rg_op rfl (op_buildSlice (cs := [(Value.int .i64 2), (Value.int .i64 5)]) (parts := [(0, .const (.int .i64 2)), (1, .const (.int .i64 5))]) ty22 ty3 hs106 (by decide) rfl ?_)
 intro b114 w115 hx118 p116 hs117
 replace f53 := f53.step p116; replace f56 := f56.step p116; replace f59 := f59.step p116; replace f_y73 := f_y73.step p116; replace f75 := f75.step p116; replace f_y89 := f_y89.step p116; replace f_y112 := f_y112.step p116; clear p116 hs106
 obtain ⟨hs121, p122, f120⟩ := St.publish (i := 0) (o := 0) (c := 2) (xs := [2, 5]) hs117 rfl (show Els (rInt .i64) _ _ [(Value.int .i64 2), (Value.int .i64 5)] [2, 5] from ⟨_, _, rfl, (mk_int (show InK .i64 2 from by decide)), ⟨_, _, rfl, (mk_int (show InK .i64 5 from by decide)), Els.nil⟩⟩) (le_lit rfl) (le_lit rfl) (le_lit rfl)
 replace f53 := f53.step p122; replace f56 := f56.step p122; replace f59 := f59.step p122; replace f_y73 := f_y73.step p122; replace f75 := f75.step p122; replace f_y89 := f_y89.step p122; replace f_y112 := f_y112.step p122; clear p122 hs117
 replace hm := bd hm; obtain ⟨blocks_1, hv123, hm⟩ := hm
 refine Rg_op rfl (op_call Try.call17 (c17_coalition_Blocks (r_ := (⟨3, [2, 5], [[9, 1, (-1)], [0, 4, 2]]⟩ : XRound)) (slots := [0, 1]) (group := [2, 5]) hs121.ltw (show InK .i64 3 from by decide) f53 f56 f59 f120 hv123) rfl ?_)
 rintro v124 w125 ⟨hx126, h127⟩
 have hs128 := hs121.call hx126
 have p129 := Step.ext (O := ks [(some b33, Obj.cells [(Value.int .i64 3), (Value.slice (some ⟨b1, 0, none⟩) [2, 5].length 2), (Value.slice (some ⟨b25, 0, none⟩) [[9, 1, (-1)], [0, 4, 2]].length 2)].toArray 25)] O) hx126
 clear hx126
 replace f53 := f53.step p129; replace f56 := f56.step p129; replace f59 := f59.step p129; replace f_y73 := f_y73.step p129; replace f75 := f75.step p129; replace f_y89 := f_y89.step p129; replace f_y112 := f_y112.step p129; replace f120 := f120.step p129; clear p129 hs121
 obtain ⟨v130, v131, v132, rfl, h133, h134, h135⟩ := h127
 obtain ⟨a_y136, c_y136, rfl, f_y136⟩ := un_sl h133
 obtain rfl := h134
 obtain ⟨rfl, r_y138⟩ := h135
 refine Rg_op rfl (op_move (v := (Value.tuple [(Value.slice a_y136 blocks_1.1.length c_y136), (Value.bool blocks_1.2.1), (Value.int .i64 blocks_1.2.2)].toArray)) rfl ?_)
 refine Rg_op rfl (op_extract (v := (Value.slice a_y136 blocks_1.1.length c_y136)) rfl rfl ?_)
 refine Rg_op rfl (op_extract (v := (Value.bool blocks_1.2.1)) rfl rfl ?_)
 refine Rg_op rfl (op_extract (v := (Value.int .i64 blocks_1.2.2)) rfl rfl ?_)
 refine Rg_op rfl (op_assign (v := (Value.slice a_y136 blocks_1.1.length c_y136)) rfl ?_)
 refine Rg_op rfl (op_assign (v := (Value.bool blocks_1.2.1)) rfl ?_)
 refine Rg_op rfl (op_assign (v := (Value.int .i64 blocks_1.2.2)) rfl ?_)
 refine Rg_nil ?_
 refine Wp_seq ?_
 clear f120
 refine Wp_region ?_
 refine Rg_op rfl (op_loadA (cs := [(Value.int .i64 3), (Value.slice (some ⟨b1, 0, none⟩) [2, 5].length 2), (Value.slice (some ⟨b25, 0, none⟩) [[9, 1, (-1)], [0, 4, 2]].length 2)]) (vs := [(Value.int .i64 3), (Value.slice (some ⟨b1, 0, none⟩) [2, 5].length 2), (Value.slice (some ⟨b25, 0, none⟩) [[9, 1, (-1)], [0, 4, 2]].length 2)]) (i := 0) ty25 hs128 rfl rfl rfl rfl ?_)
 refine Rg_op rfl (op_move (v := (Value.slice (some ⟨b41, 0, none⟩) [0, 1].length 2)) rfl ?_)
 refine Rg_op rfl (op_buildSlice (cs := [(Value.int .i64 2)]) (parts := [(0, .const (.int .i64 2))]) ty22 ty3 hs128 (by decide) rfl ?_)
 intro b139 w140 hx143 p141 hs142
 replace f53 := f53.step p141; replace f56 := f56.step p141; replace f59 := f59.step p141; replace f_y73 := f_y73.step p141; replace f75 := f75.step p141; replace f_y89 := f_y89.step p141; replace f_y112 := f_y112.step p141; replace f_y136 := f_y136.step p141; clear p141 hs128
 obtain ⟨hs146, p147, f145⟩ := St.publish (i := 0) (o := 0) (c := 1) (xs := [2]) hs142 rfl (show Els (rInt .i64) _ _ [(Value.int .i64 2)] [2] from ⟨_, _, rfl, (mk_int (show InK .i64 2 from by decide)), Els.nil⟩) (le_lit rfl) (le_lit rfl) (le_lit rfl)
 replace f53 := f53.step p147; replace f56 := f56.step p147; replace f59 := f59.step p147; replace f_y73 := f_y73.step p147; replace f75 := f75.step p147; replace f_y89 := f_y89.step p147; replace f_y112 := f_y112.step p147; replace f_y136 := f_y136.step p147; clear p147 hs142
 replace hm := bd hm; obtain ⟨blocks_2, hv148, hm⟩ := hm
 refine Rg_op rfl (op_call Try.call17 (c17_coalition_Blocks (r_ := (⟨3, [2, 5], [[9, 1, (-1)], [0, 4, 2]]⟩ : XRound)) (slots := [0, 1]) (group := [2]) hs146.ltw (show InK .i64 3 from by decide) f53 f56 f59 f145 hv148) rfl ?_)
 rintro v149 w150 ⟨hx151, h152⟩
 have hs153 := hs146.call hx151
 have p154 := Step.ext (O := ks [(some b33, Obj.cells [(Value.int .i64 3), (Value.slice (some ⟨b1, 0, none⟩) [2, 5].length 2), (Value.slice (some ⟨b25, 0, none⟩) [[9, 1, (-1)], [0, 4, 2]].length 2)].toArray 25)] O) hx151
 clear hx151
 replace f53 := f53.step p154; replace f56 := f56.step p154; replace f59 := f59.step p154; replace f_y73 := f_y73.step p154; replace f75 := f75.step p154; replace f_y89 := f_y89.step p154; replace f_y112 := f_y112.step p154; replace f_y136 := f_y136.step p154; replace f145 := f145.step p154; clear p154 hs146
 obtain ⟨v155, v156, v157, rfl, h158, h159, h160⟩ := h152
 obtain ⟨a_y161, c_y161, rfl, f_y161⟩ := un_sl h158
 obtain rfl := h159
 obtain ⟨rfl, r_y163⟩ := h160
 refine Rg_op rfl (op_move (v := (Value.tuple [(Value.slice a_y161 blocks_2.1.length c_y161), (Value.bool blocks_2.2.1), (Value.int .i64 blocks_2.2.2)].toArray)) rfl ?_)
 refine Rg_op rfl (op_extract (v := (Value.slice a_y161 blocks_2.1.length c_y161)) rfl rfl ?_)
 refine Rg_op rfl (op_extract (v := (Value.bool blocks_2.2.1)) rfl rfl ?_)
 refine Rg_op rfl (op_extract (v := (Value.int .i64 blocks_2.2.2)) rfl rfl ?_)
 refine Rg_op rfl (op_assign (v := (Value.slice a_y161 blocks_2.1.length c_y161)) rfl ?_)
 refine Rg_op rfl (op_assign (v := (Value.bool blocks_2.2.1)) rfl ?_)
 refine Rg_op rfl (op_assign (v := (Value.int .i64 blocks_2.2.2)) rfl ?_)
 refine Rg_nil ?_
 refine Wp_seq ?_
 clear f145 f_y161
 refine Wp_reset [] [(1, (Value.pointer (some ⟨b33, 0, none⟩))), (2, (Value.slice (some ⟨b41, 0, none⟩) [0, 1].length 2)), (3, (Value.slice (some ⟨b47, 0, none⟩) [1, 0].length 2)), (4, (Value.slice a_y73 costs_1.1.length c_y73)), (5, (Value.int .i64 costs_1.2)), (6, (Value.slice a_y89 costs_2.1.length c_y89)), (7, (Value.int .i64 costs_2.2)), (8, (Value.slice a_y112 worse_1.1.length c_y112)), (9, (Value.int .i64 worse_1.2)), (10, (Value.slice a_y136 blocks_1.1.length c_y136)), (11, (Value.bool blocks_1.2.1)), (12, (Value.int .i64 blocks_1.2.2)), (14, (Value.bool blocks_2.2.1)), (15, (Value.int .i64 blocks_2.2.2))] rfl ⟨rfl, rfl, rfl, rfl, rfl, rfl, rfl, rfl, rfl, rfl, rfl, rfl, rfl, rfl, trivial⟩ fun ξ164 => ?_
 refine Wp_region ?_
 refine Rg_op rfl (op_loadA (cs := [(Value.int .i64 3), (Value.slice (some ⟨b1, 0, none⟩) [2, 5].length 2), (Value.slice (some ⟨b25, 0, none⟩) [[9, 1, (-1)], [0, 4, 2]].length 2)]) (vs := [(Value.int .i64 3), (Value.slice (some ⟨b1, 0, none⟩) [2, 5].length 2), (Value.slice (some ⟨b25, 0, none⟩) [[9, 1, (-1)], [0, 4, 2]].length 2)]) (i := 0) ty25 hs153 rfl rfl rfl rfl ?_)
 refine Rg_op rfl (op_move (v := (Value.slice (some ⟨b41, 0, none⟩) [0, 1].length 2)) rfl ?_)
 replace hm := bd hm; obtain ⟨stable_1, hv165, hm⟩ := hm
 refine Rg_op rfl (op_call Try.call19 (c19_coalition_Stable (r_ := (⟨3, [2, 5], [[9, 1, (-1)], [0, 4, 2]]⟩ : XRound)) (slots := [0, 1]) hs153.ltw (show InK .i64 3 from by decide) f53 f56 f59 hv165) rfl ?_)
 rintro v166 w167 ⟨hx168, h169⟩
 have hs170 := hs153.call hx168
 have p171 := Step.ext (O := ks [(some b33, Obj.cells [(Value.int .i64 3), (Value.slice (some ⟨b1, 0, none⟩) [2, 5].length 2), (Value.slice (some ⟨b25, 0, none⟩) [[9, 1, (-1)], [0, 4, 2]].length 2)].toArray 25)] O) hx168
 clear hx168
 replace f53 := f53.step p171; replace f56 := f56.step p171; replace f59 := f59.step p171; replace f_y73 := f_y73.step p171; replace f75 := f75.step p171; replace f_y89 := f_y89.step p171; replace f_y112 := f_y112.step p171; replace f_y136 := f_y136.step p171; clear p171 hs153
 obtain ⟨v172, v173, rfl, h174, h175⟩ := h169
 obtain rfl := h174
 obtain ⟨rfl, r_y177⟩ := h175
 refine Rg_op rfl (op_move (v := (Value.tuple [(Value.bool stable_1.1), (Value.int .i64 stable_1.2)].toArray)) rfl ?_)
 refine Rg_op rfl (op_extract (v := (Value.bool stable_1.1)) rfl rfl ?_)
 refine Rg_op rfl (op_extract (v := (Value.int .i64 stable_1.2)) rfl rfl ?_)
 refine Rg_op rfl (op_assign (v := (Value.bool stable_1.1)) rfl ?_)
 refine Rg_op rfl (op_assign (v := (Value.int .i64 stable_1.2)) rfl ?_)
 refine Rg_nil ?_
 refine Wp_seq ?_
 refine Wp_region ?_
 refine Rg_op rfl (op_loadA (cs := [(Value.int .i64 3), (Value.slice (some ⟨b1, 0, none⟩) [2, 5].length 2), (Value.slice (some ⟨b25, 0, none⟩) [[9, 1, (-1)], [0, 4, 2]].length 2)]) (vs := [(Value.int .i64 3), (Value.slice (some ⟨b1, 0, none⟩) [2, 5].length 2), (Value.slice (some ⟨b25, 0, none⟩) [[9, 1, (-1)], [0, 4, 2]].length 2)]) (i := 0) ty25 hs170 rfl rfl rfl rfl ?_)
 refine Rg_op rfl (op_move (v := (Value.slice (some ⟨b47, 0, none⟩) [1, 0].length 2)) rfl ?_)
 replace hm := bd hm; obtain ⟨stable_2, hv178, hm⟩ := hm
 refine Rg_op rfl (op_call Try.call19 (c19_coalition_Stable (r_ := (⟨3, [2, 5], [[9, 1, (-1)], [0, 4, 2]]⟩ : XRound)) (slots := [1, 0]) hs170.ltw (show InK .i64 3 from by decide) f53 f56 f75 hv178) rfl ?_)
 rintro v179 w180 ⟨hx181, h182⟩
 have hs183 := hs170.call hx181
 have p184 := Step.ext (O := ks [(some b33, Obj.cells [(Value.int .i64 3), (Value.slice (some ⟨b1, 0, none⟩) [2, 5].length 2), (Value.slice (some ⟨b25, 0, none⟩) [[9, 1, (-1)], [0, 4, 2]].length 2)].toArray 25)] O) hx181
 clear hx181
 replace f53 := f53.step p184; replace f56 := f56.step p184; replace f59 := f59.step p184; replace f_y73 := f_y73.step p184; replace f75 := f75.step p184; replace f_y89 := f_y89.step p184; replace f_y112 := f_y112.step p184; replace f_y136 := f_y136.step p184; clear p184 hs170
 obtain ⟨v185, v186, rfl, h187, h188⟩ := h182
 obtain rfl := h187
 obtain ⟨rfl, r_y190⟩ := h188
 refine Rg_op rfl (op_move (v := (Value.tuple [(Value.bool stable_2.1), (Value.int .i64 stable_2.2)].toArray)) rfl ?_)
 refine Rg_op rfl (op_extract (v := (Value.bool stable_2.1)) rfl rfl ?_)
 refine Rg_op rfl (op_extract (v := (Value.int .i64 stable_2.2)) rfl rfl ?_)
 refine Rg_op rfl (op_assign (v := (Value.bool stable_2.1)) rfl ?_)
 refine Rg_op rfl (op_assign (v := (Value.int .i64 stable_2.2)) rfl ?_)
 refine Rg_nil ?_
 refine Wp_seq ?_
 refine Wp_region ?_
 refine Rg_op rfl (op_build (vs := [(Value.int .i64 1), (Value.slice none 0 0), (Value.slice none 0 0)]) (parts := [(0, .const (.int .i64 1))]) ty25 pl25 rfl ?_)
 replace hm := bd hm; obtain ⟨stable_3, hv191, hm⟩ := hm
 refine Rg_op rfl (op_call Try.call19 (c19_coalition_Stable (r_ := (⟨1, ([] : List Int), ([] : List (List Int))⟩ : XRound)) (slots := ([] : List Int)) hs183.ltw (show InK .i64 1 from by decide) SlR.nil_ SlR.nil_ SlR.nil_ hv191) rfl ?_)
 rintro v192 w193 ⟨hx194, h195⟩
 have hs196 := hs183.call hx194
 have p197 := Step.ext (O := ks [(some b33, Obj.cells [(Value.int .i64 3), (Value.slice (some ⟨b1, 0, none⟩) [2, 5].length 2), (Value.slice (some ⟨b25, 0, none⟩) [[9, 1, (-1)], [0, 4, 2]].length 2)].toArray 25)] O) hx194
 clear hx194
 replace f53 := f53.step p197; replace f56 := f56.step p197; replace f59 := f59.step p197; replace f_y73 := f_y73.step p197; replace f75 := f75.step p197; replace f_y89 := f_y89.step p197; replace f_y112 := f_y112.step p197; replace f_y136 := f_y136.step p197; clear p197 hs183
 obtain ⟨v198, v199, rfl, h200, h201⟩ := h195
 obtain rfl := h200
 obtain ⟨rfl, r_y203⟩ := h201
 refine Rg_op rfl (op_move (v := (Value.tuple [(Value.bool stable_3.1), (Value.int .i64 stable_3.2)].toArray)) rfl ?_)
 refine Rg_op rfl (op_extract (v := (Value.bool stable_3.1)) rfl rfl ?_)
 refine Rg_op rfl (op_extract (v := (Value.int .i64 stable_3.2)) rfl rfl ?_)
 refine Rg_op rfl (op_assign (v := (Value.bool stable_3.1)) rfl ?_)
 refine Rg_op rfl (op_assign (v := (Value.int .i64 stable_3.2)) rfl ?_)
 refine Rg_nil ?_
 refine Wp_seq ?_
 refine Wp_region ?_
 refine Rg_op rfl (op_loadA (cs := [(Value.int .i64 3), (Value.slice (some ⟨b1, 0, none⟩) [2, 5].length 2), (Value.slice (some ⟨b25, 0, none⟩) [[9, 1, (-1)], [0, 4, 2]].length 2)]) (vs := [(Value.int .i64 3), (Value.slice (some ⟨b1, 0, none⟩) [2, 5].length 2), (Value.slice (some ⟨b25, 0, none⟩) [[9, 1, (-1)], [0, 4, 2]].length 2)]) (i := 0) ty25 hs196 rfl rfl rfl rfl ?_)
 refine Rg_op rfl (op_move (v := (Value.slice (some ⟨b41, 0, none⟩) [0, 1].length 2)) rfl ?_)
 replace hm := bd hm; obtain ⟨blocks_3, hv204, hm⟩ := hm
 refine Rg_op rfl (op_call Try.call17 (c17_coalition_Blocks (r_ := (⟨3, [2, 5], [[9, 1, (-1)], [0, 4, 2]]⟩ : XRound)) (slots := [0, 1]) (group := ([] : List Int)) hs196.ltw (show InK .i64 3 from by decide) f53 f56 f59 SlR.nil_ hv204) rfl ?_)
 rintro v205 w206 ⟨hx207, h208⟩
 have hs209 := hs196.call hx207
 have p210 := Step.ext (O := ks [(some b33, Obj.cells [(Value.int .i64 3), (Value.slice (some ⟨b1, 0, none⟩) [2, 5].length 2), (Value.slice (some ⟨b25, 0, none⟩) [[9, 1, (-1)], [0, 4, 2]].length 2)].toArray 25)] O) hx207
 clear hx207
 replace f53 := f53.step p210; replace f56 := f56.step p210; replace f59 := f59.step p210; replace f_y73 := f_y73.step p210; replace f75 := f75.step p210; replace f_y89 := f_y89.step p210; replace f_y112 := f_y112.step p210; replace f_y136 := f_y136.step p210; clear p210 hs196
 obtain ⟨v211, v212, v213, rfl, h214, h215, h216⟩ := h208
 obtain ⟨a_y217, c_y217, rfl, f_y217⟩ := un_sl h214
 obtain rfl := h215
 obtain ⟨rfl, r_y219⟩ := h216
 refine Rg_op rfl (op_move (v := (Value.tuple [(Value.slice a_y217 blocks_3.1.length c_y217), (Value.bool blocks_3.2.1), (Value.int .i64 blocks_3.2.2)].toArray)) rfl ?_)
 refine Rg_op rfl (op_extract (v := (Value.slice a_y217 blocks_3.1.length c_y217)) rfl rfl ?_)
 refine Rg_op rfl (op_extract (v := (Value.bool blocks_3.2.1)) rfl rfl ?_)
 refine Rg_op rfl (op_extract (v := (Value.int .i64 blocks_3.2.2)) rfl rfl ?_)
 refine Rg_op rfl (op_assign (v := (Value.slice a_y217 blocks_3.1.length c_y217)) rfl ?_)
 refine Rg_op rfl (op_assign (v := (Value.bool blocks_3.2.1)) rfl ?_)
 refine Rg_op rfl (op_assign (v := (Value.int .i64 blocks_3.2.2)) rfl ?_)
 refine Rg_nil ?_
 refine Wp_seq ?_
 clear f_y217
 refine Wp_reset [] [(1, (Value.pointer (some ⟨b33, 0, none⟩))), (2, (Value.slice (some ⟨b41, 0, none⟩) [0, 1].length 2)), (3, (Value.slice (some ⟨b47, 0, none⟩) [1, 0].length 2)), (4, (Value.slice a_y73 costs_1.1.length c_y73)), (5, (Value.int .i64 costs_1.2)), (6, (Value.slice a_y89 costs_2.1.length c_y89)), (7, (Value.int .i64 costs_2.2)), (8, (Value.slice a_y112 worse_1.1.length c_y112)), (9, (Value.int .i64 worse_1.2)), (10, (Value.slice a_y136 blocks_1.1.length c_y136)), (11, (Value.bool blocks_1.2.1)), (12, (Value.int .i64 blocks_1.2.2)), (14, (Value.bool blocks_2.2.1)), (15, (Value.int .i64 blocks_2.2.2)), (16, (Value.bool stable_1.1)), (17, (Value.int .i64 stable_1.2)), (18, (Value.bool stable_2.1)), (19, (Value.int .i64 stable_2.2)), (20, (Value.bool stable_3.1)), (21, (Value.int .i64 stable_3.2)), (24, (Value.int .i64 blocks_3.2.2))] rfl ⟨rfl, rfl, rfl, rfl, rfl, rfl, rfl, rfl, rfl, rfl, rfl, rfl, rfl, rfl, rfl, rfl, rfl, rfl, rfl, rfl, rfl, trivial⟩ fun ξ220 => ?_
 refine Wp_region ?_
 refine Rg_op rfl (op_loadA (cs := [(Value.int .i64 3), (Value.slice (some ⟨b1, 0, none⟩) [2, 5].length 2), (Value.slice (some ⟨b25, 0, none⟩) [[9, 1, (-1)], [0, 4, 2]].length 2)]) (vs := [(Value.int .i64 3), (Value.slice (some ⟨b1, 0, none⟩) [2, 5].length 2), (Value.slice (some ⟨b25, 0, none⟩) [[9, 1, (-1)], [0, 4, 2]].length 2)]) (i := 0) ty25 hs209 rfl rfl rfl rfl ?_)
 replace hm := bd hm; obtain ⟨costs_3, hv221, hm⟩ := hm
 refine Rg_op rfl (op_call Try.call18 (c18_coalition_Costs (r_ := (⟨3, [2, 5], [[9, 1, (-1)], [0, 4, 2]]⟩ : XRound)) (slots := ([] : List Int)) hs209.ltw (show InK .i64 3 from by decide) f53 f56 SlR.nil_ hv221) rfl ?_)
 rintro v222 w223 ⟨hx224, h225⟩
 have hs226 := hs209.call hx224
 have p227 := Step.ext (O := ks [(some b33, Obj.cells [(Value.int .i64 3), (Value.slice (some ⟨b1, 0, none⟩) [2, 5].length 2), (Value.slice (some ⟨b25, 0, none⟩) [[9, 1, (-1)], [0, 4, 2]].length 2)].toArray 25)] O) hx224
 clear hx224
 replace f53 := f53.step p227; replace f56 := f56.step p227; replace f59 := f59.step p227; replace f_y73 := f_y73.step p227; replace f75 := f75.step p227; replace f_y89 := f_y89.step p227; replace f_y112 := f_y112.step p227; replace f_y136 := f_y136.step p227; clear p227 hs209
 obtain ⟨v228, v229, rfl, h230, h231⟩ := h225
 obtain ⟨a_y232, c_y232, rfl, f_y232⟩ := un_sl h230
 obtain ⟨rfl, r_y233⟩ := h231
 refine Rg_op rfl (op_move (v := (Value.tuple [(Value.slice a_y232 costs_3.1.length c_y232), (Value.int .i64 costs_3.2)].toArray)) rfl ?_)
 refine Rg_op rfl (op_extract (v := (Value.slice a_y232 costs_3.1.length c_y232)) rfl rfl ?_)
 refine Rg_op rfl (op_extract (v := (Value.int .i64 costs_3.2)) rfl rfl ?_)
 refine Rg_op rfl (op_assign (v := (Value.slice a_y232 costs_3.1.length c_y232)) rfl ?_)
 refine Rg_op rfl (op_assign (v := (Value.int .i64 costs_3.2)) rfl ?_)
 refine Rg_nil ?_
 refine Wp_seq ?_
 clear f_y232
 refine Wp_region ?_
 refine Rg_op rfl (op_loadA (cs := [(Value.int .i64 3), (Value.slice (some ⟨b1, 0, none⟩) [2, 5].length 2), (Value.slice (some ⟨b25, 0, none⟩) [[9, 1, (-1)], [0, 4, 2]].length 2)]) (vs := [(Value.int .i64 3), (Value.slice (some ⟨b1, 0, none⟩) [2, 5].length 2), (Value.slice (some ⟨b25, 0, none⟩) [[9, 1, (-1)], [0, 4, 2]].length 2)]) (i := 0) ty25 hs226 rfl rfl rfl rfl ?_)
 refine Rg_op rfl (op_buildSlice (cs := [(Value.int .i64 2), (Value.int .i64 1)]) (parts := [(0, .const (.int .i64 2)), (1, .const (.int .i64 1))]) ty22 ty3 hs226 (by decide) rfl ?_)
 intro b234 w235 hx238 p236 hs237
 replace f53 := f53.step p236; replace f56 := f56.step p236; replace f59 := f59.step p236; replace f_y73 := f_y73.step p236; replace f75 := f75.step p236; replace f_y89 := f_y89.step p236; replace f_y112 := f_y112.step p236; replace f_y136 := f_y136.step p236; clear p236 hs226
 obtain ⟨hs241, p242, f240⟩ := St.publish (i := 0) (o := 0) (c := 2) (xs := [2, 1]) hs237 rfl (show Els (rInt .i64) _ _ [(Value.int .i64 2), (Value.int .i64 1)] [2, 1] from ⟨_, _, rfl, (mk_int (show InK .i64 2 from by decide)), ⟨_, _, rfl, (mk_int (show InK .i64 1 from by decide)), Els.nil⟩⟩) (le_lit rfl) (le_lit rfl) (le_lit rfl)
 replace f53 := f53.step p242; replace f56 := f56.step p242; replace f59 := f59.step p242; replace f_y73 := f_y73.step p242; replace f75 := f75.step p242; replace f_y89 := f_y89.step p242; replace f_y112 := f_y112.step p242; replace f_y136 := f_y136.step p242; clear p242 hs237
 replace hm := bd hm; obtain ⟨allowed_1, hv243, hm⟩ := hm
 refine Rg_op rfl (op_call Try.call24 (c24_coalition_Allowed (r_ := (⟨3, [2, 5], [[9, 1, (-1)], [0, 4, 2]]⟩ : XRound)) (slots := [2, 1]) hs241.ltw (show InK .i64 3 from by decide) f53 f56 f240 hv243) rfl ?_)
 rintro v244 w245 ⟨hx246, h247⟩
 have hs248 := hs241.call hx246
 have p249 := Step.ext (O := ks [(some b33, Obj.cells [(Value.int .i64 3), (Value.slice (some ⟨b1, 0, none⟩) [2, 5].length 2), (Value.slice (some ⟨b25, 0, none⟩) [[9, 1, (-1)], [0, 4, 2]].length 2)].toArray 25)] O) hx246
 clear hx246
 replace f53 := f53.step p249; replace f56 := f56.step p249; replace f59 := f59.step p249; replace f_y73 := f_y73.step p249; replace f75 := f75.step p249; replace f_y89 := f_y89.step p249; replace f_y112 := f_y112.step p249; replace f_y136 := f_y136.step p249; replace f240 := f240.step p249; clear p249 hs241
 obtain ⟨v250, v251, rfl, h252, h253⟩ := h247
 obtain rfl := h252
 obtain ⟨rfl, r_y255⟩ := h253
 refine Rg_op rfl (op_move (v := (Value.tuple [(Value.bool allowed_1.1), (Value.int .i64 allowed_1.2)].toArray)) rfl ?_)
 refine Rg_op rfl (op_extract (v := (Value.bool allowed_1.1)) rfl rfl ?_)
 refine Rg_op rfl (op_extract (v := (Value.int .i64 allowed_1.2)) rfl rfl ?_)
 refine Rg_op rfl (op_assign (v := (Value.bool allowed_1.1)) rfl ?_)
 refine Rg_op rfl (op_assign (v := (Value.int .i64 allowed_1.2)) rfl ?_)
 refine Rg_nil ?_
 refine Wp_seq ?_
 clear f240
 refine Wp_region ?_
 refine Rg_op rfl (op_loadA (cs := [(Value.int .i64 3), (Value.slice (some ⟨b1, 0, none⟩) [2, 5].length 2), (Value.slice (some ⟨b25, 0, none⟩) [[9, 1, (-1)], [0, 4, 2]].length 2)]) (vs := [(Value.int .i64 3), (Value.slice (some ⟨b1, 0, none⟩) [2, 5].length 2), (Value.slice (some ⟨b25, 0, none⟩) [[9, 1, (-1)], [0, 4, 2]].length 2)]) (i := 0) ty25 hs248 rfl rfl rfl rfl ?_)
 refine Rg_op rfl (op_move (v := (Value.slice (some ⟨b41, 0, none⟩) [0, 1].length 2)) rfl ?_)
 replace hm := bd hm; obtain ⟨allowed_2, hv256, hm⟩ := hm
 refine Rg_op rfl (op_call Try.call24 (c24_coalition_Allowed (r_ := (⟨3, [2, 5], [[9, 1, (-1)], [0, 4, 2]]⟩ : XRound)) (slots := [0, 1]) hs248.ltw (show InK .i64 3 from by decide) f53 f56 f59 hv256) rfl ?_)
 rintro v257 w258 ⟨hx259, h260⟩
 have hs261 := hs248.call hx259
 have p262 := Step.ext (O := ks [(some b33, Obj.cells [(Value.int .i64 3), (Value.slice (some ⟨b1, 0, none⟩) [2, 5].length 2), (Value.slice (some ⟨b25, 0, none⟩) [[9, 1, (-1)], [0, 4, 2]].length 2)].toArray 25)] O) hx259
 clear hx259
 replace f53 := f53.step p262; replace f56 := f56.step p262; replace f59 := f59.step p262; replace f_y73 := f_y73.step p262; replace f75 := f75.step p262; replace f_y89 := f_y89.step p262; replace f_y112 := f_y112.step p262; replace f_y136 := f_y136.step p262; clear p262 hs248
 obtain ⟨v263, v264, rfl, h265, h266⟩ := h260
 obtain rfl := h265
 obtain ⟨rfl, r_y268⟩ := h266
 refine Rg_op rfl (op_move (v := (Value.tuple [(Value.bool allowed_2.1), (Value.int .i64 allowed_2.2)].toArray)) rfl ?_)
 refine Rg_op rfl (op_extract (v := (Value.bool allowed_2.1)) rfl rfl ?_)
 refine Rg_op rfl (op_extract (v := (Value.int .i64 allowed_2.2)) rfl rfl ?_)
 refine Rg_op rfl (op_assign (v := (Value.bool allowed_2.1)) rfl ?_)
 refine Rg_op rfl (op_assign (v := (Value.int .i64 allowed_2.2)) rfl ?_)
 refine Rg_nil ?_
 refine Wp_seq ?_
 refine Wp_region ?_
 refine Rg_op rfl (op_loadA (cs := [(Value.int .i64 3), (Value.slice (some ⟨b1, 0, none⟩) [2, 5].length 2), (Value.slice (some ⟨b25, 0, none⟩) [[9, 1, (-1)], [0, 4, 2]].length 2)]) (vs := [(Value.int .i64 3), (Value.slice (some ⟨b1, 0, none⟩) [2, 5].length 2), (Value.slice (some ⟨b25, 0, none⟩) [[9, 1, (-1)], [0, 4, 2]].length 2)]) (i := 0) ty25 hs261 rfl rfl rfl rfl ?_)
 refine Rg_op rfl (op_move (v := (Value.slice (some ⟨b41, 0, none⟩) [0, 1].length 2)) rfl ?_)
 replace hm := bd hm; obtain ⟨worse_2, hv269, hm⟩ := hm
 refine Rg_op rfl (op_call Try.call23 (c23_coalition_Worse (r_ := (⟨3, [2, 5], [[9, 1, (-1)], [0, 4, 2]]⟩ : XRound)) (slots := [0, 1]) hs261.ltw (show InK .i64 3 from by decide) f53 f56 f59 hv269) rfl ?_)
 rintro v270 w271 ⟨hx272, h273⟩
 have hs274 := hs261.call hx272
 have p275 := Step.ext (O := ks [(some b33, Obj.cells [(Value.int .i64 3), (Value.slice (some ⟨b1, 0, none⟩) [2, 5].length 2), (Value.slice (some ⟨b25, 0, none⟩) [[9, 1, (-1)], [0, 4, 2]].length 2)].toArray 25)] O) hx272
 clear hx272
 replace f53 := f53.step p275; replace f56 := f56.step p275; replace f59 := f59.step p275; replace f_y73 := f_y73.step p275; replace f75 := f75.step p275; replace f_y89 := f_y89.step p275; replace f_y112 := f_y112.step p275; replace f_y136 := f_y136.step p275; clear p275 hs261
 obtain ⟨v276, v277, rfl, h278, h279⟩ := h273
 obtain ⟨a_y280, c_y280, rfl, f_y280⟩ := un_sl h278
 obtain ⟨rfl, r_y281⟩ := h279
 refine Rg_op rfl (op_move (v := (Value.tuple [(Value.slice a_y280 worse_2.1.length c_y280), (Value.int .i64 worse_2.2)].toArray)) rfl ?_)
 refine Rg_op rfl (op_extract (v := (Value.slice a_y280 worse_2.1.length c_y280)) rfl rfl ?_)
 refine Rg_op rfl (op_extract (v := (Value.int .i64 worse_2.2)) rfl rfl ?_)
 refine Rg_op rfl (op_assign (v := (Value.slice a_y280 worse_2.1.length c_y280)) rfl ?_)
 refine Rg_op rfl (op_assign (v := (Value.int .i64 worse_2.2)) rfl ?_)
 refine Rg_nil ?_
 refine Wp_seq ?_
 refine Wp_reset [] [(1, (Value.pointer (some ⟨b33, 0, none⟩))), (3, (Value.slice (some ⟨b47, 0, none⟩) [1, 0].length 2)), (4, (Value.slice a_y73 costs_1.1.length c_y73)), (5, (Value.int .i64 costs_1.2)), (6, (Value.slice a_y89 costs_2.1.length c_y89)), (7, (Value.int .i64 costs_2.2)), (8, (Value.slice a_y112 worse_1.1.length c_y112)), (9, (Value.int .i64 worse_1.2)), (10, (Value.slice a_y136 blocks_1.1.length c_y136)), (11, (Value.bool blocks_1.2.1)), (12, (Value.int .i64 blocks_1.2.2)), (14, (Value.bool blocks_2.2.1)), (15, (Value.int .i64 blocks_2.2.2)), (16, (Value.bool stable_1.1)), (17, (Value.int .i64 stable_1.2)), (18, (Value.bool stable_2.1)), (19, (Value.int .i64 stable_2.2)), (20, (Value.bool stable_3.1)), (21, (Value.int .i64 stable_3.2)), (24, (Value.int .i64 blocks_3.2.2)), (26, (Value.int .i64 costs_3.2)), (27, (Value.bool allowed_1.1)), (28, (Value.int .i64 allowed_1.2)), (29, (Value.bool allowed_2.1)), (30, (Value.int .i64 allowed_2.2)), (31, (Value.slice a_y280 worse_2.1.length c_y280)), (32, (Value.int .i64 worse_2.2))] rfl ⟨rfl, rfl, rfl, rfl, rfl, rfl, rfl, rfl, rfl, rfl, rfl, rfl, rfl, rfl, rfl, rfl, rfl, rfl, rfl, rfl, rfl, rfl, rfl, rfl, rfl, rfl, rfl, trivial⟩ fun ξ282 => ?_
 replace hm := jn_elim hm; obtain ⟨k284, hk285, hm⟩ := hm
 refine Wp_seqJ [121, 122, 123, 124, 125, 126, 127, 128, 129, 130, 131, 132, 133, 134, 135, 136, 137, 138, 139, 140, 141, 142, 143, 144, 145, 146, 147, 148, 149, 150, 151, 152, 153, 154, 155, 156, 157, 158, 159, 160, 161, 162, 163, 164, 165, 166, 167, 168, 169, 170] (fun fr w' => ∃ (v_1 : Bool) (Ebs : Ents), Ebs = [(some b33, Obj.cells [(Value.int .i64 3), (Value.slice (some ⟨b1, 0, none⟩) [2, 5].length 2), (Value.slice (some ⟨b25, 0, none⟩) [[9, 1, (-1)], [0, 4, 2]].length 2)].toArray 25)] ∧ fr [] [(170, (Value.bool v_1))] ∧ Step (ks [(some b33, Obj.cells [(Value.int .i64 3), (Value.slice (some ⟨b1, 0, none⟩) [2, 5].length 2), (Value.slice (some ⟨b25, 0, none⟩) [[9, 1, (-1)], [0, 4, 2]].length 2)].toArray 25)] O) w271 (ks Ebs O) w' ∧ St ⟨w, [], []⟩ O w' Ebs ∧ k284 v_1 = some x) ?_ ?_
 ·
  rintro ρ291 w287 ⟨v_1, Ebs, hEbs, hfr290, hst289, hs288, hm⟩
  replace hm := jnE1 hk285 hm
  subst hEbs; rw [hfr290.eq]; clear hfr290
  replace f53 := f53.step hst289; replace f56 := f56.step hst289; replace f59 := f59.step hst289; replace f_y73 := f_y73.step hst289; replace f75 := f75.step hst289; replace f_y89 := f_y89.step hst289; replace f_y112 := f_y112.step hst289; replace f_y136 := f_y136.step hst289; replace f_y280 := f_y280.step hst289; clear hst289 hs274
  refine Wp_cond rfl (fun hc292 => ?_) (fun hc292 => ?_)
  ·
   replace hm := bif_t hm hc292
   refine Wp_seq ?_
   obtain ⟨hs293, p294⟩ := hs288.sub (bs' := []) (.cons _ List.Sublist.slnil)
   clear f53 f56 f59 f_y73 f75 f_y89 f_y112 f_y136 f_y280
   clear p294 hs288
   refine Wp_reset [] [] rfl trivial fun ξ295 => ?_
   refine Wp_region ?_
   refine Rg_op rfl (op_assign (v := (Value.bool false)) rfl ?_)
   refine Rg_nil ?_
   refine Wp_ret ?_
   have hz := step_all hs293
   refine ⟨_, (show Closes [] _ _ from rfl), [(Value.bool false)], ⟨rfl, trivial⟩, hs293.ext, ?_⟩
   exact Vr.eq (a := vB) (x := false) rfl (Option.some.inj hm)
  ·
   replace hm := bif_f hm hc292
   refine Wp_skip ?_
   refine Wp_reset [] [(1, (Value.pointer (some ⟨b33, 0, none⟩))), (3, (Value.slice (some ⟨b47, 0, none⟩) [1, 0].length 2)), (4, (Value.slice a_y73 costs_1.1.length c_y73)), (6, (Value.slice a_y89 costs_2.1.length c_y89)), (8, (Value.slice a_y112 worse_1.1.length c_y112)), (10, (Value.slice a_y136 blocks_1.1.length c_y136)), (11, (Value.bool blocks_1.2.1)), (14, (Value.bool blocks_2.2.1)), (16, (Value.bool stable_1.1)), (18, (Value.bool stable_2.1)), (20, (Value.bool stable_3.1)), (27, (Value.bool allowed_1.1)), (29, (Value.bool allowed_2.1)), (31, (Value.slice a_y280 worse_2.1.length c_y280))] rfl ⟨rfl, rfl, rfl, rfl, rfl, rfl, rfl, rfl, rfl, rfl, rfl, rfl, rfl, rfl, trivial⟩ fun ξ296 => ?_
   replace hm := jn_elim hm; obtain ⟨k298, hk299, hm⟩ := hm
   refine Wp_seqJ [0, 171, 172, 173, 174, 175, 176, 177, 178, 179, 180, 181, 182, 183, 184, 185, 186, 187, 188, 189, 190, 191, 192, 193, 194, 195, 196, 197, 198, 199, 200, 201, 202, 203, 204, 205, 206, 207, 208, 209, 210, 211, 212, 213, 214, 215, 216, 217, 218, 219, 220, 221, 222, 223, 224, 225, 226, 227] (fun fr w' => ∃ (v_2 : Bool) (Ebs : Ents), Ebs = [(some b33, Obj.cells [(Value.int .i64 3), (Value.slice (some ⟨b1, 0, none⟩) [2, 5].length 2), (Value.slice (some ⟨b25, 0, none⟩) [[9, 1, (-1)], [0, 4, 2]].length 2)].toArray 25)] ∧ fr [] [(0, (Value.bool v_2))] ∧ Step (ks [(some b33, Obj.cells [(Value.int .i64 3), (Value.slice (some ⟨b1, 0, none⟩) [2, 5].length 2), (Value.slice (some ⟨b25, 0, none⟩) [[9, 1, (-1)], [0, 4, 2]].length 2)].toArray 25)] O) w287 (ks Ebs O) w' ∧ St ⟨w, [], []⟩ O w' Ebs ∧ k298 v_2 = some x) ?_ ?_
   ·
    rintro ρ305 w301 ⟨v_2, Ebs, hEbs, hfr304, hst303, hs302, hm⟩
    replace hm := jnE1 hk299 hm
    subst hEbs; rw [hfr304.eq]; clear hfr304
    replace f53 := f53.step hst303; replace f56 := f56.step hst303; replace f59 := f59.step hst303; replace f_y73 := f_y73.step hst303; replace f75 := f75.step hst303; replace f_y89 := f_y89.step hst303; replace f_y112 := f_y112.step hst303; replace f_y136 := f_y136.step hst303; replace f_y280 := f_y280.step hst303; clear hst303 hs288
    refine Wp_ret ?_
    have hz := step_all hs302
    replace f53 := f53.step hz; replace f56 := f56.step hz; replace f59 := f59.step hz; replace f_y73 := f_y73.step hz; replace f75 := f75.step hz; replace f_y89 := f_y89.step hz; replace f_y112 := f_y112.step hz; replace f_y136 := f_y136.step hz; replace f_y280 := f_y280.step hz
    refine ⟨_, (show Closes [] _ _ from rfl), [(Value.bool v_2)], ⟨rfl, trivial⟩, hs302.ext, ?_⟩
    exact Vr.eq (a := vB) (x := v_2) rfl (Option.some.inj hm)
   ·
    intro K300 hK300
    have ch306 := Step.refl (ks [(some b33, Obj.cells [(Value.int .i64 3), (Value.slice (some ⟨b1, 0, none⟩) [2, 5].length 2), (Value.slice (some ⟨b25, 0, none⟩) [[9, 1, (-1)], [0, 4, 2]].length 2)].toArray 25)] O) w287
    clear f59
    refine Wp_region ?_
    refine Rg_op rfl (op_move (v := (Value.slice a_y73 costs_1.1.length c_y73)) rfl ?_)
    refine Rg_op rfl (op_buildSlice (cs := [(Value.int .i64 0), (Value.int .i64 0), (Value.int .i64 9), (Value.int .i64 0), (Value.int .i64 0), (Value.int .i64 4), (Value.int .i64 0), (Value.int .i64 0)]) (parts := [(0, .const (.int .i64 0)), (1, .const (.int .i64 0)), (2, .const (.int .i64 9)), (3, .const (.int .i64 0)), (4, .const (.int .i64 0)), (5, .const (.int .i64 4)), (6, .const (.int .i64 0)), (7, .const (.int .i64 0))]) ty22 ty3 hs288 (by decide) rfl ?_)
    intro b307 w308 hx311 p309 hs310
    replace f53 := f53.step p309; replace f56 := f56.step p309; replace f_y73 := f_y73.step p309; replace f75 := f75.step p309; replace f_y89 := f_y89.step p309; replace f_y112 := f_y112.step p309; replace f_y136 := f_y136.step p309; replace f_y280 := f_y280.step p309; replace ch306 := ch306.trans p309; clear p309 hs288
    obtain ⟨hs314, p315, f313⟩ := St.publish (i := 0) (o := 0) (c := 8) (xs := [0, 0, 9, 0, 0, 4, 0, 0]) hs310 rfl (show Els (rInt .i64) _ _ [(Value.int .i64 0), (Value.int .i64 0), (Value.int .i64 9), (Value.int .i64 0), (Value.int .i64 0), (Value.int .i64 4), (Value.int .i64 0), (Value.int .i64 0)] [0, 0, 9, 0, 0, 4, 0, 0] from ⟨_, _, rfl, (mk_int (show InK .i64 0 from by decide)), ⟨_, _, rfl, (mk_int (show InK .i64 0 from by decide)), ⟨_, _, rfl, (mk_int (show InK .i64 9 from by decide)), ⟨_, _, rfl, (mk_int (show InK .i64 0 from by decide)), ⟨_, _, rfl, (mk_int (show InK .i64 0 from by decide)), ⟨_, _, rfl, (mk_int (show InK .i64 4 from by decide)), ⟨_, _, rfl, (mk_int (show InK .i64 0 from by decide)), ⟨_, _, rfl, (mk_int (show InK .i64 0 from by decide)), Els.nil⟩⟩⟩⟩⟩⟩⟩⟩) (le_lit rfl) (le_lit rfl) (le_lit rfl)
    replace f53 := f53.step p315; replace f56 := f56.step p315; replace f_y73 := f_y73.step p315; replace f75 := f75.step p315; replace f_y89 := f_y89.step p315; replace f_y112 := f_y112.step p315; replace f_y136 := f_y136.step p315; replace f_y280 := f_y280.step p315; replace ch306 := ch306.trans p315; clear p315 hs310
    replace hm := bd hm; obtain ⟨sameints_1, hv316, hm⟩ := hm
    refine Rg_op rfl (op_call Try.call25 (c25_overflightref37_SameInts (a := costs_1.1) (b := [0, 0, 9, 0, 0, 4, 0, 0]) hs314.ltw f_y73 f313 hv316) rfl ?_)
    rintro v317 w318 ⟨hx319, h320⟩
    have hs321 := hs314.call hx319
    have p322 := Step.ext (O := ks [(some b33, Obj.cells [(Value.int .i64 3), (Value.slice (some ⟨b1, 0, none⟩) [2, 5].length 2), (Value.slice (some ⟨b25, 0, none⟩) [[9, 1, (-1)], [0, 4, 2]].length 2)].toArray 25)] O) hx319
    clear hx319
    replace f53 := f53.step p322; replace f56 := f56.step p322; replace f_y73 := f_y73.step p322; replace f75 := f75.step p322; replace f_y89 := f_y89.step p322; replace f_y112 := f_y112.step p322; replace f_y136 := f_y136.step p322; replace f_y280 := f_y280.step p322; replace f313 := f313.step p322; replace ch306 := ch306.trans p322; clear p322 hs314
    obtain rfl := h320
    refine Rg_op rfl (op_move (v := (Value.bool sameints_1)) rfl ?_)
    refine Rg_case (fun hg324 => ?_) (fun hg324 => ?_)
    ·
     replace hm := bif_t hm hg324
     refine Rg_opg rfl rfl rfl (op_move (v := (Value.slice a_y89 costs_2.1.length c_y89)) rfl ?_)
     refine Rg_opg rfl rfl rfl (op_buildSlice (cs := [(Value.int .i64 0), (Value.int .i64 0), (Value.int .i64 1), (Value.int .i64 0), (Value.int .i64 0), (Value.int .i64 0), (Value.int .i64 0), (Value.int .i64 0)]) (parts := [(0, .const (.int .i64 0)), (1, .const (.int .i64 0)), (2, .const (.int .i64 1)), (3, .const (.int .i64 0)), (4, .const (.int .i64 0)), (5, .const (.int .i64 0)), (6, .const (.int .i64 0)), (7, .const (.int .i64 0))]) ty22 ty3 hs321 (by decide) rfl ?_)
     intro b325 w326 hx329 p327 hs328
     replace f53 := f53.step p327; replace f56 := f56.step p327; replace f_y73 := f_y73.step p327; replace f75 := f75.step p327; replace f_y89 := f_y89.step p327; replace f_y112 := f_y112.step p327; replace f_y136 := f_y136.step p327; replace f_y280 := f_y280.step p327; replace f313 := f313.step p327; replace ch306 := ch306.trans p327; clear p327 hs321
     obtain ⟨hs332, p333, f331⟩ := St.publish (i := 0) (o := 0) (c := 8) (xs := [0, 0, 1, 0, 0, 0, 0, 0]) hs328 rfl (show Els (rInt .i64) _ _ [(Value.int .i64 0), (Value.int .i64 0), (Value.int .i64 1), (Value.int .i64 0), (Value.int .i64 0), (Value.int .i64 0), (Value.int .i64 0), (Value.int .i64 0)] [0, 0, 1, 0, 0, 0, 0, 0] from ⟨_, _, rfl, (mk_int (show InK .i64 0 from by decide)), ⟨_, _, rfl, (mk_int (show InK .i64 0 from by decide)), ⟨_, _, rfl, (mk_int (show InK .i64 1 from by decide)), ⟨_, _, rfl, (mk_int (show InK .i64 0 from by decide)), ⟨_, _, rfl, (mk_int (show InK .i64 0 from by decide)), ⟨_, _, rfl, (mk_int (show InK .i64 0 from by decide)), ⟨_, _, rfl, (mk_int (show InK .i64 0 from by decide)), ⟨_, _, rfl, (mk_int (show InK .i64 0 from by decide)), Els.nil⟩⟩⟩⟩⟩⟩⟩⟩) (le_lit rfl) (le_lit rfl) (le_lit rfl)
     replace f53 := f53.step p333; replace f56 := f56.step p333; replace f_y73 := f_y73.step p333; replace f75 := f75.step p333; replace f_y89 := f_y89.step p333; replace f_y112 := f_y112.step p333; replace f_y136 := f_y136.step p333; replace f_y280 := f_y280.step p333; replace f313 := f313.step p333; replace ch306 := ch306.trans p333; clear p333 hs328
     replace hm := bd hm; obtain ⟨sameints_2, hv334, hm⟩ := hm
     refine Rg_opg rfl rfl rfl (op_call Try.call25 (c25_overflightref37_SameInts (a := costs_2.1) (b := [0, 0, 1, 0, 0, 0, 0, 0]) hs332.ltw f_y89 f331 hv334) rfl ?_)
     rintro v335 w336 ⟨hx337, h338⟩
     have hs339 := hs332.call hx337
     have p340 := Step.ext (O := ks [(some b33, Obj.cells [(Value.int .i64 3), (Value.slice (some ⟨b1, 0, none⟩) [2, 5].length 2), (Value.slice (some ⟨b25, 0, none⟩) [[9, 1, (-1)], [0, 4, 2]].length 2)].toArray 25)] O) hx337
     clear hx337
     replace f53 := f53.step p340; replace f56 := f56.step p340; replace f_y73 := f_y73.step p340; replace f75 := f75.step p340; replace f_y89 := f_y89.step p340; replace f_y112 := f_y112.step p340; replace f_y136 := f_y136.step p340; replace f_y280 := f_y280.step p340; replace f313 := f313.step p340; replace f331 := f331.step p340; replace ch306 := ch306.trans p340; clear p340 hs332
     obtain rfl := h338
     refine Rg_op rfl (op_pick_t (v := (Value.bool sameints_2)) rfl rfl ?_)
     refine Rg_op rfl (op_move (v := (Value.bool sameints_2)) rfl ?_)
     refine Rg_case (fun hg342 => ?_) (fun hg342 => ?_)
     ·
      replace hm := bif_t hm hg342
      refine Rg_opg rfl rfl rfl (op_move (v := (Value.slice a_y112 worse_1.1.length c_y112)) rfl ?_)
      refine Rg_opg rfl rfl rfl (op_len Try.underlying22 rfl ?_)
      have rl343 := inK_len f_y112
      refine Rg_opg rfl rfl rfl (op_eql rfl rfl ?_)
      refine Rg_op rfl (op_pick_t (v := (Value.bool (decide ((worse_1.1.length : Int) = 0)))) rfl rfl ?_)
      refine Rg_op rfl (op_move (v := (Value.bool (decide ((worse_1.1.length : Int) = 0)))) rfl ?_)
      refine Rg_case (fun hg344 => ?_) (fun hg344 => ?_)
      ·
       replace hm := bif_t hm hg344
       refine Rg_opg rfl rfl rfl (op_move (v := (Value.slice a_y136 blocks_1.1.length c_y136)) rfl ?_)
       refine Rg_opg rfl rfl rfl (op_move (v := (Value.slice (some ⟨b47, 0, none⟩) [1, 0].length 2)) rfl ?_)
       replace hm := bd hm; obtain ⟨sameints_3, hv345, hm⟩ := hm
       refine Rg_opg rfl rfl rfl (op_call Try.call25 (c25_overflightref37_SameInts (a := blocks_1.1) (b := [1, 0]) hs339.ltw f_y136 f75 hv345) rfl ?_)
       rintro v346 w347 ⟨hx348, h349⟩
       have hs350 := hs339.call hx348
       have p351 := Step.ext (O := ks [(some b33, Obj.cells [(Value.int .i64 3), (Value.slice (some ⟨b1, 0, none⟩) [2, 5].length 2), (Value.slice (some ⟨b25, 0, none⟩) [[9, 1, (-1)], [0, 4, 2]].length 2)].toArray 25)] O) hx348
       clear hx348
       replace f53 := f53.step p351; replace f56 := f56.step p351; replace f_y73 := f_y73.step p351; replace f75 := f75.step p351; replace f_y89 := f_y89.step p351; replace f_y112 := f_y112.step p351; replace f_y136 := f_y136.step p351; replace f_y280 := f_y280.step p351; replace f313 := f313.step p351; replace f331 := f331.step p351; replace ch306 := ch306.trans p351; clear p351 hs339
       obtain rfl := h349
       refine Rg_op rfl (op_pick_t (v := (Value.bool sameints_3)) rfl rfl ?_)
       refine Rg_op rfl (op_move (v := (Value.bool sameints_3)) rfl ?_)
       refine Rg_case (fun hg353 => ?_) (fun hg353 => ?_)
       ·
        replace hm := bif_t hm hg353
        refine Rg_opg rfl rfl rfl (op_move (v := (Value.bool blocks_1.2.1)) rfl ?_)
        refine Rg_op rfl (op_pick_t (v := (Value.bool blocks_1.2.1)) rfl rfl ?_)
        refine Rg_op rfl (op_move (v := (Value.bool blocks_1.2.1)) rfl ?_)
        refine Rg_case (fun hg354 => ?_) (fun hg354 => ?_)
        ·
         replace hm := bif_t hm hg354
         refine Rg_opg rfl rfl rfl (op_move (v := (Value.bool blocks_2.2.1)) rfl ?_)
         refine Rg_opg rfl rfl rfl (op_not rfl ?_)
         refine Rg_op rfl (op_pick_t (v := (Value.bool (!blocks_2.2.1))) rfl rfl ?_)
         refine Rg_op rfl (op_move (v := (Value.bool (!blocks_2.2.1))) rfl ?_)
         refine Rg_case (fun hg355 => ?_) (fun hg355 => ?_)
         ·
          replace hm := bif_t hm hg355
          refine Rg_opg rfl rfl rfl (op_move (v := (Value.bool stable_1.1)) rfl ?_)
          refine Rg_opg rfl rfl rfl (op_not rfl ?_)
          refine Rg_op rfl (op_pick_t (v := (Value.bool (!stable_1.1))) rfl rfl ?_)
          refine Rg_op rfl (op_move (v := (Value.bool (!stable_1.1))) rfl ?_)
          refine Rg_case (fun hg356 => ?_) (fun hg356 => ?_)
          ·
           replace hm := bif_t hm hg356
           refine Rg_opg rfl rfl rfl (op_move (v := (Value.bool stable_2.1)) rfl ?_)
           refine Rg_op rfl (op_pick_t (v := (Value.bool stable_2.1)) rfl rfl ?_)
           refine Rg_op rfl (op_move (v := (Value.bool stable_2.1)) rfl ?_)
           refine Rg_case (fun hg357 => ?_) (fun hg357 => ?_)
           ·
            replace hm := bif_t hm hg357
            refine Rg_opg rfl rfl rfl (op_move (v := (Value.bool stable_3.1)) rfl ?_)
            refine Rg_op rfl (op_pick_t (v := (Value.bool stable_3.1)) rfl rfl ?_)
            refine Rg_op rfl (op_move (v := (Value.bool stable_3.1)) rfl ?_)
            refine Rg_case (fun hg358 => ?_) (fun hg358 => ?_)
            ·
             replace hm := bif_t hm hg358
             refine Rg_opg rfl rfl rfl (op_move (v := (Value.bool allowed_1.1)) rfl ?_)
             refine Rg_opg rfl rfl rfl (op_not rfl ?_)
             refine Rg_op rfl (op_pick_t (v := (Value.bool (!allowed_1.1))) rfl rfl ?_)
             refine Rg_op rfl (op_move (v := (Value.bool (!allowed_1.1))) rfl ?_)
             refine Rg_case (fun hg359 => ?_) (fun hg359 => ?_)
             ·
              replace hm := bif_t hm hg359
              refine Rg_opg rfl rfl rfl (op_move (v := (Value.bool allowed_2.1)) rfl ?_)
              refine Rg_op rfl (op_pick_t (v := (Value.bool allowed_2.1)) rfl rfl ?_)
              refine Rg_op rfl (op_move (v := (Value.bool allowed_2.1)) rfl ?_)
              refine Rg_case (fun hg360 => ?_) (fun hg360 => ?_)
              ·
               replace hm := bif_t hm hg360
               refine Rg_opg rfl rfl rfl (op_move (v := (Value.slice a_y280 worse_2.1.length c_y280)) rfl ?_)
               refine Rg_opg rfl rfl rfl (op_len Try.underlying22 rfl ?_)
               have rl361 := inK_len f_y280
               refine Rg_opg rfl rfl rfl (op_eql rfl rfl ?_)
               refine Rg_op rfl (op_pick_t (v := (Value.bool (decide ((worse_2.1.length : Int) = 0)))) rfl rfl ?_)
               refine Rg_op rfl (op_move (v := (Value.bool (decide ((worse_2.1.length : Int) = 0)))) rfl ?_)
               refine Rg_case (fun hg362 => ?_) (fun hg362 => ?_)
               ·
                replace hm := bif_t hm hg362
                refine Rg_opg rfl rfl rfl (op_build (vs := [(Value.int .i64 0), (Value.slice none 0 0), (Value.slice none 0 0)]) (parts := []) ty25 pl25 rfl ?_)
                replace hm := bd hm; obtain ⟨check_1, hv363, hm⟩ := hm
                refine Rg_opg rfl rfl rfl (op_call Try.call22 (c22_coalition_Check (r_ := (⟨0, ([] : List Int), ([] : List (List Int))⟩ : XRound)) hs350.ltw (show InK .i64 0 from by decide) SlR.nil_ SlR.nil_ hv363) rfl ?_)
                rintro v364 w365 ⟨hx366, h367⟩
                have hs368 := hs350.call hx366
                have p369 := Step.ext (O := ks [(some b33, Obj.cells [(Value.int .i64 3), (Value.slice (some ⟨b1, 0, none⟩) [2, 5].length 2), (Value.slice (some ⟨b25, 0, none⟩) [[9, 1, (-1)], [0, 4, 2]].length 2)].toArray 25)] O) hx366
                clear hx366
                replace f53 := f53.step p369; replace f56 := f56.step p369; replace f_y73 := f_y73.step p369; replace f75 := f75.step p369; replace f_y89 := f_y89.step p369; replace f_y112 := f_y112.step p369; replace f_y136 := f_y136.step p369; replace f_y280 := f_y280.step p369; replace f313 := f313.step p369; replace f331 := f331.step p369; replace ch306 := ch306.trans p369; clear p369 hs350
                obtain ⟨rfl, r_y370⟩ := h367
                refine Rg_opg rfl rfl rfl (op_eql rfl rfl ?_)
                refine Rg_op rfl (op_pick_t (v := (Value.bool (decide (check_1 = 370)))) rfl rfl ?_)
                refine Rg_op rfl (op_move (v := (Value.bool (decide (check_1 = 370)))) rfl ?_)
                refine Rg_case (fun hg371 => ?_) (fun hg371 => ?_)
                ·
                 replace hm := bif_t hm hg371
                 refine Rg_opg rfl rfl rfl (op_loadA (cs := [(Value.int .i64 3), (Value.slice (some ⟨b1, 0, none⟩) [2, 5].length 2), (Value.slice (some ⟨b25, 0, none⟩) [[9, 1, (-1)], [0, 4, 2]].length 2)]) (vs := [(Value.int .i64 3), (Value.slice (some ⟨b1, 0, none⟩) [2, 5].length 2), (Value.slice (some ⟨b25, 0, none⟩) [[9, 1, (-1)], [0, 4, 2]].length 2)]) (i := 0) ty25 hs368 rfl rfl rfl rfl ?_)
                 replace hm := bd hm; obtain ⟨check_2, hv372, hm⟩ := hm
                 refine Rg_opg rfl rfl rfl (op_call Try.call22 (c22_coalition_Check (r_ := (⟨3, [2, 5], [[9, 1, (-1)], [0, 4, 2]]⟩ : XRound)) hs368.ltw (show InK .i64 3 from by decide) f53 f56 hv372) rfl ?_)
                 rintro v373 w374 ⟨hx375, h376⟩
                 have hs377 := hs368.call hx375
                 have p378 := Step.ext (O := ks [(some b33, Obj.cells [(Value.int .i64 3), (Value.slice (some ⟨b1, 0, none⟩) [2, 5].length 2), (Value.slice (some ⟨b25, 0, none⟩) [[9, 1, (-1)], [0, 4, 2]].length 2)].toArray 25)] O) hx375
                 clear hx375
                 replace f53 := f53.step p378; replace f56 := f56.step p378; replace f_y73 := f_y73.step p378; replace f75 := f75.step p378; replace f_y89 := f_y89.step p378; replace f_y112 := f_y112.step p378; replace f_y136 := f_y136.step p378; replace f_y280 := f_y280.step p378; replace f313 := f313.step p378; replace f331 := f331.step p378; replace ch306 := ch306.trans p378; clear p378 hs368
                 obtain ⟨rfl, r_y379⟩ := h376
                 refine Rg_opg rfl rfl rfl (op_eql rfl rfl ?_)
                 refine Rg_op rfl (op_pick_t (v := (Value.bool (decide (check_2 = 0)))) rfl rfl ?_)
                 refine Rg_op rfl (op_assign (v := (Value.bool (decide (check_2 = 0)))) rfl ?_)
                 refine Rg_nil ?_
                 exact hK300 _ _ ⟨(decide (check_2 = 0)), _, rfl, ⟨(by repeat (first | with_reducible exact Out.refl _ _ | refine Out.upd ?_ rfl | refine Out.updL ?_ rfl | refine Out.mix' ?_ rfl | exact Out.refl _ _)), rfl, rfl, trivial⟩, ch306, hs377, hm⟩
                ·
                 replace hm := bif_f hm hg371
                 iterate 3 refine Rg_opx rfl (asB_ne rfl rfl) rfl ?_
                 refine Rg_op rfl (op_pick_f (v := (Value.bool false)) rfl rfl ?_)
                 refine Rg_op rfl (op_assign (v := (Value.bool false)) rfl ?_)
                 refine Rg_nil ?_
                 exact hK300 _ _ ⟨false, _, rfl, ⟨(by repeat (first | with_reducible exact Out.refl _ _ | refine Out.upd ?_ rfl | refine Out.updL ?_ rfl | refine Out.mix' ?_ rfl | exact Out.refl _ _)), rfl, rfl, trivial⟩, ch306, hs368, hm⟩
               ·
                replace hm := bif_f hm hg362
                iterate 3 refine Rg_opx rfl (asB_ne rfl rfl) rfl ?_
                refine Rg_op rfl (op_pick_f (v := (Value.bool false)) rfl rfl ?_)
                refine Rg_op rfl (op_move (v := (Value.bool false)) rfl ?_)
                iterate 3 refine Rg_opx rfl (asB_ne rfl rfl) rfl ?_
                refine Rg_op rfl (op_pick_f (v := (Value.bool false)) rfl rfl ?_)
                refine Rg_op rfl (op_assign (v := (Value.bool false)) rfl ?_)
                refine Rg_nil ?_
                exact hK300 _ _ ⟨false, _, rfl, ⟨(by repeat (first | with_reducible exact Out.refl _ _ | refine Out.upd ?_ rfl | refine Out.updL ?_ rfl | refine Out.mix' ?_ rfl | exact Out.refl _ _)), rfl, rfl, trivial⟩, ch306, hs350, hm⟩
              ·
               replace hm := bif_f hm hg360
               iterate 3 refine Rg_opx rfl (asB_ne rfl rfl) rfl ?_
               refine Rg_op rfl (op_pick_f (v := (Value.bool false)) rfl rfl ?_)
               refine Rg_op rfl (op_move (v := (Value.bool false)) rfl ?_)
               iterate 3 refine Rg_opx rfl (asB_ne rfl rfl) rfl ?_
               refine Rg_op rfl (op_pick_f (v := (Value.bool false)) rfl rfl ?_)
               refine Rg_op rfl (op_move (v := (Value.bool false)) rfl ?_)
               iterate 3 refine Rg_opx rfl (asB_ne rfl rfl) rfl ?_
               refine Rg_op rfl (op_pick_f (v := (Value.bool false)) rfl rfl ?_)
               refine Rg_op rfl (op_assign (v := (Value.bool false)) rfl ?_)
               refine Rg_nil ?_
               exact hK300 _ _ ⟨false, _, rfl, ⟨(by repeat (first | with_reducible exact Out.refl _ _ | refine Out.upd ?_ rfl | refine Out.updL ?_ rfl | refine Out.mix' ?_ rfl | exact Out.refl _ _)), rfl, rfl, trivial⟩, ch306, hs350, hm⟩
             ·
              replace hm := bif_f hm hg359
              refine Rg_opx rfl (asB_ne rfl rfl) rfl ?_
              refine Rg_op rfl (op_pick_f (v := (Value.bool false)) rfl rfl ?_)
              refine Rg_op rfl (op_move (v := (Value.bool false)) rfl ?_)
              iterate 3 refine Rg_opx rfl (asB_ne rfl rfl) rfl ?_
              refine Rg_op rfl (op_pick_f (v := (Value.bool false)) rfl rfl ?_)
              refine Rg_op rfl (op_move (v := (Value.bool false)) rfl ?_)
              iterate 3 refine Rg_opx rfl (asB_ne rfl rfl) rfl ?_
              refine Rg_op rfl (op_pick_f (v := (Value.bool false)) rfl rfl ?_)
              refine Rg_op rfl (op_move (v := (Value.bool false)) rfl ?_)
              iterate 3 refine Rg_opx rfl (asB_ne rfl rfl) rfl ?_
              refine Rg_op rfl (op_pick_f (v := (Value.bool false)) rfl rfl ?_)
              refine Rg_op rfl (op_assign (v := (Value.bool false)) rfl ?_)
              refine Rg_nil ?_
              exact hK300 _ _ ⟨false, _, rfl, ⟨(by repeat (first | with_reducible exact Out.refl _ _ | refine Out.upd ?_ rfl | refine Out.updL ?_ rfl | refine Out.mix' ?_ rfl | exact Out.refl _ _)), rfl, rfl, trivial⟩, ch306, hs350, hm⟩
            ·
             replace hm := bif_f hm hg358
             iterate 2 refine Rg_opx rfl (asB_ne rfl rfl) rfl ?_
             refine Rg_op rfl (op_pick_f (v := (Value.bool false)) rfl rfl ?_)
             refine Rg_op rfl (op_move (v := (Value.bool false)) rfl ?_)
             refine Rg_opx rfl (asB_ne rfl rfl) rfl ?_
             refine Rg_op rfl (op_pick_f (v := (Value.bool false)) rfl rfl ?_)
             refine Rg_op rfl (op_move (v := (Value.bool false)) rfl ?_)
             iterate 3 refine Rg_opx rfl (asB_ne rfl rfl) rfl ?_
             refine Rg_op rfl (op_pick_f (v := (Value.bool false)) rfl rfl ?_)
             refine Rg_op rfl (op_move (v := (Value.bool false)) rfl ?_)
             iterate 3 refine Rg_opx rfl (asB_ne rfl rfl) rfl ?_
             refine Rg_op rfl (op_pick_f (v := (Value.bool false)) rfl rfl ?_)
             refine Rg_op rfl (op_move (v := (Value.bool false)) rfl ?_)
             iterate 3 refine Rg_opx rfl (asB_ne rfl rfl) rfl ?_
             refine Rg_op rfl (op_pick_f (v := (Value.bool false)) rfl rfl ?_)
             refine Rg_op rfl (op_assign (v := (Value.bool false)) rfl ?_)
             refine Rg_nil ?_
             exact hK300 _ _ ⟨false, _, rfl, ⟨(by repeat (first | with_reducible exact Out.refl _ _ | refine Out.upd ?_ rfl | refine Out.updL ?_ rfl | refine Out.mix' ?_ rfl | exact Out.refl _ _)), rfl, rfl, trivial⟩, ch306, hs350, hm⟩
           ·
            replace hm := bif_f hm hg357
            refine Rg_opx rfl (asB_ne rfl rfl) rfl ?_
            refine Rg_op rfl (op_pick_f (v := (Value.bool false)) rfl rfl ?_)
            refine Rg_op rfl (op_move (v := (Value.bool false)) rfl ?_)
            iterate 2 refine Rg_opx rfl (asB_ne rfl rfl) rfl ?_
            refine Rg_op rfl (op_pick_f (v := (Value.bool false)) rfl rfl ?_)
            refine Rg_op rfl (op_move (v := (Value.bool false)) rfl ?_)
            refine Rg_opx rfl (asB_ne rfl rfl) rfl ?_
            refine Rg_op rfl (op_pick_f (v := (Value.bool false)) rfl rfl ?_)
            refine Rg_op rfl (op_move (v := (Value.bool false)) rfl ?_)
            iterate 3 refine Rg_opx rfl (asB_ne rfl rfl) rfl ?_
            refine Rg_op rfl (op_pick_f (v := (Value.bool false)) rfl rfl ?_)
            refine Rg_op rfl (op_move (v := (Value.bool false)) rfl ?_)
            iterate 3 refine Rg_opx rfl (asB_ne rfl rfl) rfl ?_
            refine Rg_op rfl (op_pick_f (v := (Value.bool false)) rfl rfl ?_)
            refine Rg_op rfl (op_move (v := (Value.bool false)) rfl ?_)
            iterate 3 refine Rg_opx rfl (asB_ne rfl rfl) rfl ?_
            refine Rg_op rfl (op_pick_f (v := (Value.bool false)) rfl rfl ?_)
            refine Rg_op rfl (op_assign (v := (Value.bool false)) rfl ?_)
            refine Rg_nil ?_
            exact hK300 _ _ ⟨false, _, rfl, ⟨(by repeat (first | with_reducible exact Out.refl _ _ | refine Out.upd ?_ rfl | refine Out.updL ?_ rfl | refine Out.mix' ?_ rfl | exact Out.refl _ _)), rfl, rfl, trivial⟩, ch306, hs350, hm⟩
          ·
           replace hm := bif_f hm hg356
           refine Rg_opx rfl (asB_ne rfl rfl) rfl ?_
           refine Rg_op rfl (op_pick_f (v := (Value.bool false)) rfl rfl ?_)
           refine Rg_op rfl (op_move (v := (Value.bool false)) rfl ?_)
           refine Rg_opx rfl (asB_ne rfl rfl) rfl ?_
           refine Rg_op rfl (op_pick_f (v := (Value.bool false)) rfl rfl ?_)
           refine Rg_op rfl (op_move (v := (Value.bool false)) rfl ?_)
           iterate 2 refine Rg_opx rfl (asB_ne rfl rfl) rfl ?_
           refine Rg_op rfl (op_pick_f (v := (Value.bool false)) rfl rfl ?_)
           refine Rg_op rfl (op_move (v := (Value.bool false)) rfl ?_)
           refine Rg_opx rfl (asB_ne rfl rfl) rfl ?_
           refine Rg_op rfl (op_pick_f (v := (Value.bool false)) rfl rfl ?_)
           refine Rg_op rfl (op_move (v := (Value.bool false)) rfl ?_)
           iterate 3 refine Rg_opx rfl (asB_ne rfl rfl) rfl ?_
           refine Rg_op rfl (op_pick_f (v := (Value.bool false)) rfl rfl ?_)
           refine Rg_op rfl (op_move (v := (Value.bool false)) rfl ?_)
           iterate 3 refine Rg_opx rfl (asB_ne rfl rfl) rfl ?_
           refine Rg_op rfl (op_pick_f (v := (Value.bool false)) rfl rfl ?_)
           refine Rg_op rfl (op_move (v := (Value.bool false)) rfl ?_)
           iterate 3 refine Rg_opx rfl (asB_ne rfl rfl) rfl ?_
           refine Rg_op rfl (op_pick_f (v := (Value.bool false)) rfl rfl ?_)
           refine Rg_op rfl (op_assign (v := (Value.bool false)) rfl ?_)
           refine Rg_nil ?_
           exact hK300 _ _ ⟨false, _, rfl, ⟨(by repeat (first | with_reducible exact Out.refl _ _ | refine Out.upd ?_ rfl | refine Out.updL ?_ rfl | refine Out.mix' ?_ rfl | exact Out.refl _ _)), rfl, rfl, trivial⟩, ch306, hs350, hm⟩
         ·
          replace hm := bif_f hm hg355
          iterate 2 refine Rg_opx rfl (asB_ne rfl rfl) rfl ?_
          refine Rg_op rfl (op_pick_f (v := (Value.bool false)) rfl rfl ?_)
          refine Rg_op rfl (op_move (v := (Value.bool false)) rfl ?_)
          refine Rg_opx rfl (asB_ne rfl rfl) rfl ?_
          refine Rg_op rfl (op_pick_f (v := (Value.bool false)) rfl rfl ?_)
          refine Rg_op rfl (op_move (v := (Value.bool false)) rfl ?_)
          refine Rg_opx rfl (asB_ne rfl rfl) rfl ?_
          refine Rg_op rfl (op_pick_f (v := (Value.bool false)) rfl rfl ?_)
          refine Rg_op rfl (op_move (v := (Value.bool false)) rfl ?_)
          iterate 2 refine Rg_opx rfl (asB_ne rfl rfl) rfl ?_
          refine Rg_op rfl (op_pick_f (v := (Value.bool false)) rfl rfl ?_)
          refine Rg_op rfl (op_move (v := (Value.bool false)) rfl ?_)
          refine Rg_opx rfl (asB_ne rfl rfl) rfl ?_
          refine Rg_op rfl (op_pick_f (v := (Value.bool false)) rfl rfl ?_)
          refine Rg_op rfl (op_move (v := (Value.bool false)) rfl ?_)
          iterate 3 refine Rg_opx rfl (asB_ne rfl rfl) rfl ?_
          refine Rg_op rfl (op_pick_f (v := (Value.bool false)) rfl rfl ?_)
          refine Rg_op rfl (op_move (v := (Value.bool false)) rfl ?_)
          iterate 3 refine Rg_opx rfl (asB_ne rfl rfl) rfl ?_
          refine Rg_op rfl (op_pick_f (v := (Value.bool false)) rfl rfl ?_)
          refine Rg_op rfl (op_move (v := (Value.bool false)) rfl ?_)
          iterate 3 refine Rg_opx rfl (asB_ne rfl rfl) rfl ?_
          refine Rg_op rfl (op_pick_f (v := (Value.bool false)) rfl rfl ?_)
          refine Rg_op rfl (op_assign (v := (Value.bool false)) rfl ?_)
          refine Rg_nil ?_
          exact hK300 _ _ ⟨false, _, rfl, ⟨(by repeat (first | with_reducible exact Out.refl _ _ | refine Out.upd ?_ rfl | refine Out.updL ?_ rfl | refine Out.mix' ?_ rfl | exact Out.refl _ _)), rfl, rfl, trivial⟩, ch306, hs350, hm⟩
        ·
         replace hm := bif_f hm hg354
         iterate 2 refine Rg_opx rfl (asB_ne rfl rfl) rfl ?_
         refine Rg_op rfl (op_pick_f (v := (Value.bool false)) rfl rfl ?_)
         refine Rg_op rfl (op_move (v := (Value.bool false)) rfl ?_)
         iterate 2 refine Rg_opx rfl (asB_ne rfl rfl) rfl ?_
         refine Rg_op rfl (op_pick_f (v := (Value.bool false)) rfl rfl ?_)
         refine Rg_op rfl (op_move (v := (Value.bool false)) rfl ?_)
         refine Rg_opx rfl (asB_ne rfl rfl) rfl ?_
         refine Rg_op rfl (op_pick_f (v := (Value.bool false)) rfl rfl ?_)
         refine Rg_op rfl (op_move (v := (Value.bool false)) rfl ?_)
         refine Rg_opx rfl (asB_ne rfl rfl) rfl ?_
         refine Rg_op rfl (op_pick_f (v := (Value.bool false)) rfl rfl ?_)
         refine Rg_op rfl (op_move (v := (Value.bool false)) rfl ?_)
         iterate 2 refine Rg_opx rfl (asB_ne rfl rfl) rfl ?_
         refine Rg_op rfl (op_pick_f (v := (Value.bool false)) rfl rfl ?_)
         refine Rg_op rfl (op_move (v := (Value.bool false)) rfl ?_)
         refine Rg_opx rfl (asB_ne rfl rfl) rfl ?_
         refine Rg_op rfl (op_pick_f (v := (Value.bool false)) rfl rfl ?_)
         refine Rg_op rfl (op_move (v := (Value.bool false)) rfl ?_)
         iterate 3 refine Rg_opx rfl (asB_ne rfl rfl) rfl ?_
         refine Rg_op rfl (op_pick_f (v := (Value.bool false)) rfl rfl ?_)
         refine Rg_op rfl (op_move (v := (Value.bool false)) rfl ?_)
         iterate 3 refine Rg_opx rfl (asB_ne rfl rfl) rfl ?_
         refine Rg_op rfl (op_pick_f (v := (Value.bool false)) rfl rfl ?_)
         refine Rg_op rfl (op_move (v := (Value.bool false)) rfl ?_)
         iterate 3 refine Rg_opx rfl (asB_ne rfl rfl) rfl ?_
         refine Rg_op rfl (op_pick_f (v := (Value.bool false)) rfl rfl ?_)
         refine Rg_op rfl (op_assign (v := (Value.bool false)) rfl ?_)
         refine Rg_nil ?_
         exact hK300 _ _ ⟨false, _, rfl, ⟨(by repeat (first | with_reducible exact Out.refl _ _ | refine Out.upd ?_ rfl | refine Out.updL ?_ rfl | refine Out.mix' ?_ rfl | exact Out.refl _ _)), rfl, rfl, trivial⟩, ch306, hs350, hm⟩
       ·
        replace hm := bif_f hm hg353
        refine Rg_opx rfl (asB_ne rfl rfl) rfl ?_
        refine Rg_op rfl (op_pick_f (v := (Value.bool false)) rfl rfl ?_)
        refine Rg_op rfl (op_move (v := (Value.bool false)) rfl ?_)
        iterate 2 refine Rg_opx rfl (asB_ne rfl rfl) rfl ?_
        refine Rg_op rfl (op_pick_f (v := (Value.bool false)) rfl rfl ?_)
        refine Rg_op rfl (op_move (v := (Value.bool false)) rfl ?_)
        iterate 2 refine Rg_opx rfl (asB_ne rfl rfl) rfl ?_
        refine Rg_op rfl (op_pick_f (v := (Value.bool false)) rfl rfl ?_)
        refine Rg_op rfl (op_move (v := (Value.bool false)) rfl ?_)
        refine Rg_opx rfl (asB_ne rfl rfl) rfl ?_
        refine Rg_op rfl (op_pick_f (v := (Value.bool false)) rfl rfl ?_)
        refine Rg_op rfl (op_move (v := (Value.bool false)) rfl ?_)
        refine Rg_opx rfl (asB_ne rfl rfl) rfl ?_
        refine Rg_op rfl (op_pick_f (v := (Value.bool false)) rfl rfl ?_)
        refine Rg_op rfl (op_move (v := (Value.bool false)) rfl ?_)
        iterate 2 refine Rg_opx rfl (asB_ne rfl rfl) rfl ?_
        refine Rg_op rfl (op_pick_f (v := (Value.bool false)) rfl rfl ?_)
        refine Rg_op rfl (op_move (v := (Value.bool false)) rfl ?_)
        refine Rg_opx rfl (asB_ne rfl rfl) rfl ?_
        refine Rg_op rfl (op_pick_f (v := (Value.bool false)) rfl rfl ?_)
        refine Rg_op rfl (op_move (v := (Value.bool false)) rfl ?_)
        iterate 3 refine Rg_opx rfl (asB_ne rfl rfl) rfl ?_
        refine Rg_op rfl (op_pick_f (v := (Value.bool false)) rfl rfl ?_)
        refine Rg_op rfl (op_move (v := (Value.bool false)) rfl ?_)
        iterate 3 refine Rg_opx rfl (asB_ne rfl rfl) rfl ?_
        refine Rg_op rfl (op_pick_f (v := (Value.bool false)) rfl rfl ?_)
        refine Rg_op rfl (op_move (v := (Value.bool false)) rfl ?_)
        iterate 3 refine Rg_opx rfl (asB_ne rfl rfl) rfl ?_
        refine Rg_op rfl (op_pick_f (v := (Value.bool false)) rfl rfl ?_)
        refine Rg_op rfl (op_assign (v := (Value.bool false)) rfl ?_)
        refine Rg_nil ?_
        exact hK300 _ _ ⟨false, _, rfl, ⟨(by repeat (first | with_reducible exact Out.refl _ _ | refine Out.upd ?_ rfl | refine Out.updL ?_ rfl | refine Out.mix' ?_ rfl | exact Out.refl _ _)), rfl, rfl, trivial⟩, ch306, hs350, hm⟩
      ·
       replace hm := bif_f hm hg344
       iterate 3 refine Rg_opx rfl (asB_ne rfl rfl) rfl ?_
       refine Rg_op rfl (op_pick_f (v := (Value.bool false)) rfl rfl ?_)
       refine Rg_op rfl (op_move (v := (Value.bool false)) rfl ?_)
       refine Rg_opx rfl (asB_ne rfl rfl) rfl ?_
       refine Rg_op rfl (op_pick_f (v := (Value.bool false)) rfl rfl ?_)
       refine Rg_op rfl (op_move (v := (Value.bool false)) rfl ?_)
       iterate 2 refine Rg_opx rfl (asB_ne rfl rfl) rfl ?_
       refine Rg_op rfl (op_pick_f (v := (Value.bool false)) rfl rfl ?_)
       refine Rg_op rfl (op_move (v := (Value.bool false)) rfl ?_)
       iterate 2 refine Rg_opx rfl (asB_ne rfl rfl) rfl ?_
       refine Rg_op rfl (op_pick_f (v := (Value.bool false)) rfl rfl ?_)
       refine Rg_op rfl (op_move (v := (Value.bool false)) rfl ?_)
       refine Rg_opx rfl (asB_ne rfl rfl) rfl ?_
       refine Rg_op rfl (op_pick_f (v := (Value.bool false)) rfl rfl ?_)
       refine Rg_op rfl (op_move (v := (Value.bool false)) rfl ?_)
       refine Rg_opx rfl (asB_ne rfl rfl) rfl ?_
       refine Rg_op rfl (op_pick_f (v := (Value.bool false)) rfl rfl ?_)
       refine Rg_op rfl (op_move (v := (Value.bool false)) rfl ?_)
       iterate 2 refine Rg_opx rfl (asB_ne rfl rfl) rfl ?_
       refine Rg_op rfl (op_pick_f (v := (Value.bool false)) rfl rfl ?_)
       refine Rg_op rfl (op_move (v := (Value.bool false)) rfl ?_)
       refine Rg_opx rfl (asB_ne rfl rfl) rfl ?_
       refine Rg_op rfl (op_pick_f (v := (Value.bool false)) rfl rfl ?_)
       refine Rg_op rfl (op_move (v := (Value.bool false)) rfl ?_)
       iterate 3 refine Rg_opx rfl (asB_ne rfl rfl) rfl ?_
       refine Rg_op rfl (op_pick_f (v := (Value.bool false)) rfl rfl ?_)
       refine Rg_op rfl (op_move (v := (Value.bool false)) rfl ?_)
       iterate 3 refine Rg_opx rfl (asB_ne rfl rfl) rfl ?_
       refine Rg_op rfl (op_pick_f (v := (Value.bool false)) rfl rfl ?_)
       refine Rg_op rfl (op_move (v := (Value.bool false)) rfl ?_)
       iterate 3 refine Rg_opx rfl (asB_ne rfl rfl) rfl ?_
       refine Rg_op rfl (op_pick_f (v := (Value.bool false)) rfl rfl ?_)
       refine Rg_op rfl (op_assign (v := (Value.bool false)) rfl ?_)
       refine Rg_nil ?_
       exact hK300 _ _ ⟨false, _, rfl, ⟨(by repeat (first | with_reducible exact Out.refl _ _ | refine Out.upd ?_ rfl | refine Out.updL ?_ rfl | refine Out.mix' ?_ rfl | exact Out.refl _ _)), rfl, rfl, trivial⟩, ch306, hs339, hm⟩
     ·
      replace hm := bif_f hm hg342
      iterate 3 refine Rg_opx rfl (asB_ne rfl rfl) rfl ?_
      refine Rg_op rfl (op_pick_f (v := (Value.bool false)) rfl rfl ?_)
      refine Rg_op rfl (op_move (v := (Value.bool false)) rfl ?_)
      iterate 3 refine Rg_opx rfl (asB_ne rfl rfl) rfl ?_
      refine Rg_op rfl (op_pick_f (v := (Value.bool false)) rfl rfl ?_)
      refine Rg_op rfl (op_move (v := (Value.bool false)) rfl ?_)
      refine Rg_opx rfl (asB_ne rfl rfl) rfl ?_
      refine Rg_op rfl (op_pick_f (v := (Value.bool false)) rfl rfl ?_)
      refine Rg_op rfl (op_move (v := (Value.bool false)) rfl ?_)
      iterate 2 refine Rg_opx rfl (asB_ne rfl rfl) rfl ?_
      refine Rg_op rfl (op_pick_f (v := (Value.bool false)) rfl rfl ?_)
      refine Rg_op rfl (op_move (v := (Value.bool false)) rfl ?_)
      iterate 2 refine Rg_opx rfl (asB_ne rfl rfl) rfl ?_
      refine Rg_op rfl (op_pick_f (v := (Value.bool false)) rfl rfl ?_)
      refine Rg_op rfl (op_move (v := (Value.bool false)) rfl ?_)
      refine Rg_opx rfl (asB_ne rfl rfl) rfl ?_
      refine Rg_op rfl (op_pick_f (v := (Value.bool false)) rfl rfl ?_)
      refine Rg_op rfl (op_move (v := (Value.bool false)) rfl ?_)
      refine Rg_opx rfl (asB_ne rfl rfl) rfl ?_
      refine Rg_op rfl (op_pick_f (v := (Value.bool false)) rfl rfl ?_)
      refine Rg_op rfl (op_move (v := (Value.bool false)) rfl ?_)
      iterate 2 refine Rg_opx rfl (asB_ne rfl rfl) rfl ?_
      refine Rg_op rfl (op_pick_f (v := (Value.bool false)) rfl rfl ?_)
      refine Rg_op rfl (op_move (v := (Value.bool false)) rfl ?_)
      refine Rg_opx rfl (asB_ne rfl rfl) rfl ?_
      refine Rg_op rfl (op_pick_f (v := (Value.bool false)) rfl rfl ?_)
      refine Rg_op rfl (op_move (v := (Value.bool false)) rfl ?_)
      iterate 3 refine Rg_opx rfl (asB_ne rfl rfl) rfl ?_
      refine Rg_op rfl (op_pick_f (v := (Value.bool false)) rfl rfl ?_)
      refine Rg_op rfl (op_move (v := (Value.bool false)) rfl ?_)
      iterate 3 refine Rg_opx rfl (asB_ne rfl rfl) rfl ?_
      refine Rg_op rfl (op_pick_f (v := (Value.bool false)) rfl rfl ?_)
      refine Rg_op rfl (op_move (v := (Value.bool false)) rfl ?_)
      iterate 3 refine Rg_opx rfl (asB_ne rfl rfl) rfl ?_
      refine Rg_op rfl (op_pick_f (v := (Value.bool false)) rfl rfl ?_)
      refine Rg_op rfl (op_assign (v := (Value.bool false)) rfl ?_)
      refine Rg_nil ?_
      exact hK300 _ _ ⟨false, _, rfl, ⟨(by repeat (first | with_reducible exact Out.refl _ _ | refine Out.upd ?_ rfl | refine Out.updL ?_ rfl | refine Out.mix' ?_ rfl | exact Out.refl _ _)), rfl, rfl, trivial⟩, ch306, hs339, hm⟩
    ·
     replace hm := bif_f hm hg324
     iterate 3 refine Rg_opx rfl (asB_ne rfl rfl) rfl ?_
     refine Rg_op rfl (op_pick_f (v := (Value.bool false)) rfl rfl ?_)
     refine Rg_op rfl (op_move (v := (Value.bool false)) rfl ?_)
     iterate 3 refine Rg_opx rfl (asB_ne rfl rfl) rfl ?_
     refine Rg_op rfl (op_pick_f (v := (Value.bool false)) rfl rfl ?_)
     refine Rg_op rfl (op_move (v := (Value.bool false)) rfl ?_)
     iterate 3 refine Rg_opx rfl (asB_ne rfl rfl) rfl ?_
     refine Rg_op rfl (op_pick_f (v := (Value.bool false)) rfl rfl ?_)
     refine Rg_op rfl (op_move (v := (Value.bool false)) rfl ?_)
     refine Rg_opx rfl (asB_ne rfl rfl) rfl ?_
     refine Rg_op rfl (op_pick_f (v := (Value.bool false)) rfl rfl ?_)
     refine Rg_op rfl (op_move (v := (Value.bool false)) rfl ?_)
     iterate 2 refine Rg_opx rfl (asB_ne rfl rfl) rfl ?_
     refine Rg_op rfl (op_pick_f (v := (Value.bool false)) rfl rfl ?_)
     refine Rg_op rfl (op_move (v := (Value.bool false)) rfl ?_)
     iterate 2 refine Rg_opx rfl (asB_ne rfl rfl) rfl ?_
     refine Rg_op rfl (op_pick_f (v := (Value.bool false)) rfl rfl ?_)
     refine Rg_op rfl (op_move (v := (Value.bool false)) rfl ?_)
     refine Rg_opx rfl (asB_ne rfl rfl) rfl ?_
     refine Rg_op rfl (op_pick_f (v := (Value.bool false)) rfl rfl ?_)
     refine Rg_op rfl (op_move (v := (Value.bool false)) rfl ?_)
     refine Rg_opx rfl (asB_ne rfl rfl) rfl ?_
     refine Rg_op rfl (op_pick_f (v := (Value.bool false)) rfl rfl ?_)
     refine Rg_op rfl (op_move (v := (Value.bool false)) rfl ?_)
     iterate 2 refine Rg_opx rfl (asB_ne rfl rfl) rfl ?_
     refine Rg_op rfl (op_pick_f (v := (Value.bool false)) rfl rfl ?_)
     refine Rg_op rfl (op_move (v := (Value.bool false)) rfl ?_)
     refine Rg_opx rfl (asB_ne rfl rfl) rfl ?_
     refine Rg_op rfl (op_pick_f (v := (Value.bool false)) rfl rfl ?_)
     refine Rg_op rfl (op_move (v := (Value.bool false)) rfl ?_)
     iterate 3 refine Rg_opx rfl (asB_ne rfl rfl) rfl ?_
     refine Rg_op rfl (op_pick_f (v := (Value.bool false)) rfl rfl ?_)
     refine Rg_op rfl (op_move (v := (Value.bool false)) rfl ?_)
     iterate 3 refine Rg_opx rfl (asB_ne rfl rfl) rfl ?_
     refine Rg_op rfl (op_pick_f (v := (Value.bool false)) rfl rfl ?_)
     refine Rg_op rfl (op_move (v := (Value.bool false)) rfl ?_)
     iterate 3 refine Rg_opx rfl (asB_ne rfl rfl) rfl ?_
     refine Rg_op rfl (op_pick_f (v := (Value.bool false)) rfl rfl ?_)
     refine Rg_op rfl (op_assign (v := (Value.bool false)) rfl ?_)
     refine Rg_nil ?_
     exact hK300 _ _ ⟨false, _, rfl, ⟨(by repeat (first | with_reducible exact Out.refl _ _ | refine Out.upd ?_ rfl | refine Out.updL ?_ rfl | refine Out.mix' ?_ rfl | exact Out.refl _ _)), rfl, rfl, trivial⟩, ch306, hs321, hm⟩
 ·
  intro K286 hK286
  have ch380 := Step.refl (ks [(some b33, Obj.cells [(Value.int .i64 3), (Value.slice (some ⟨b1, 0, none⟩) [2, 5].length 2), (Value.slice (some ⟨b25, 0, none⟩) [[9, 1, (-1)], [0, 4, 2]].length 2)].toArray 25)] O) w271
  clear f59
  refine Wp_region ?_
  refine Rg_op rfl (op_move (v := (Value.int .i64 costs_1.2)) rfl ?_)
  refine Rg_op rfl (op_neq rfl rfl ?_)
  refine Rg_op rfl (op_move (v := (Value.bool (decide (costs_1.2 ≠ 0)))) rfl ?_)
  refine Rg_case (fun hg381 => ?_) (fun hg381 => ?_)
  ·
   replace hm := bif_t hm hg381
   iterate 2 refine Rg_opx rfl (asB_ne rfl rfl) rfl ?_
   refine Rg_op rfl (op_pick_t (v := (Value.bool true)) rfl rfl ?_)
   refine Rg_op rfl (op_move (v := (Value.bool true)) rfl ?_)
   iterate 2 refine Rg_opx rfl (asB_ne rfl rfl) rfl ?_
   refine Rg_op rfl (op_pick_t (v := (Value.bool true)) rfl rfl ?_)
   refine Rg_op rfl (op_move (v := (Value.bool true)) rfl ?_)
   iterate 2 refine Rg_opx rfl (asB_ne rfl rfl) rfl ?_
   refine Rg_op rfl (op_pick_t (v := (Value.bool true)) rfl rfl ?_)
   refine Rg_op rfl (op_move (v := (Value.bool true)) rfl ?_)
   iterate 2 refine Rg_opx rfl (asB_ne rfl rfl) rfl ?_
   refine Rg_op rfl (op_pick_t (v := (Value.bool true)) rfl rfl ?_)
   refine Rg_op rfl (op_move (v := (Value.bool true)) rfl ?_)
   iterate 2 refine Rg_opx rfl (asB_ne rfl rfl) rfl ?_
   refine Rg_op rfl (op_pick_t (v := (Value.bool true)) rfl rfl ?_)
   refine Rg_op rfl (op_move (v := (Value.bool true)) rfl ?_)
   iterate 2 refine Rg_opx rfl (asB_ne rfl rfl) rfl ?_
   refine Rg_op rfl (op_pick_t (v := (Value.bool true)) rfl rfl ?_)
   refine Rg_op rfl (op_move (v := (Value.bool true)) rfl ?_)
   iterate 2 refine Rg_opx rfl (asB_ne rfl rfl) rfl ?_
   refine Rg_op rfl (op_pick_t (v := (Value.bool true)) rfl rfl ?_)
   refine Rg_op rfl (op_move (v := (Value.bool true)) rfl ?_)
   iterate 2 refine Rg_opx rfl (asB_ne rfl rfl) rfl ?_
   refine Rg_op rfl (op_pick_t (v := (Value.bool true)) rfl rfl ?_)
   refine Rg_op rfl (op_move (v := (Value.bool true)) rfl ?_)
   iterate 2 refine Rg_opx rfl (asB_ne rfl rfl) rfl ?_
   refine Rg_op rfl (op_pick_t (v := (Value.bool true)) rfl rfl ?_)
   refine Rg_op rfl (op_move (v := (Value.bool true)) rfl ?_)
   iterate 2 refine Rg_opx rfl (asB_ne rfl rfl) rfl ?_
   refine Rg_op rfl (op_pick_t (v := (Value.bool true)) rfl rfl ?_)
   refine Rg_op rfl (op_move (v := (Value.bool true)) rfl ?_)
   iterate 2 refine Rg_opx rfl (asB_ne rfl rfl) rfl ?_
   refine Rg_op rfl (op_pick_t (v := (Value.bool true)) rfl rfl ?_)
   refine Rg_op rfl (op_move (v := (Value.bool true)) rfl ?_)
   iterate 2 refine Rg_opx rfl (asB_ne rfl rfl) rfl ?_
   refine Rg_op rfl (op_pick_t (v := (Value.bool true)) rfl rfl ?_)
   refine Rg_nil ?_
   exact hK286 _ _ ⟨true, _, rfl, ⟨(by repeat (first | with_reducible exact Out.refl _ _ | refine Out.upd ?_ rfl | refine Out.updL ?_ rfl | refine Out.mix' ?_ rfl | exact Out.refl _ _)), rfl, rfl, trivial⟩, ch380, hs274, hm⟩
  ·
   replace hm := bif_f hm hg381
   refine Rg_opg rfl rfl rfl (op_move (v := (Value.int .i64 costs_2.2)) rfl ?_)
   refine Rg_opg rfl rfl rfl (op_neq rfl rfl ?_)
   refine Rg_op rfl (op_pick_f (v := (Value.bool (decide (costs_2.2 ≠ 0)))) rfl rfl ?_)
   refine Rg_op rfl (op_move (v := (Value.bool (decide (costs_2.2 ≠ 0)))) rfl ?_)
   refine Rg_case (fun hg382 => ?_) (fun hg382 => ?_)
   ·
    replace hm := bif_t hm hg382
    iterate 2 refine Rg_opx rfl (asB_ne rfl rfl) rfl ?_
    refine Rg_op rfl (op_pick_t (v := (Value.bool true)) rfl rfl ?_)
    refine Rg_op rfl (op_move (v := (Value.bool true)) rfl ?_)
    iterate 2 refine Rg_opx rfl (asB_ne rfl rfl) rfl ?_
    refine Rg_op rfl (op_pick_t (v := (Value.bool true)) rfl rfl ?_)
    refine Rg_op rfl (op_move (v := (Value.bool true)) rfl ?_)
    iterate 2 refine Rg_opx rfl (asB_ne rfl rfl) rfl ?_
    refine Rg_op rfl (op_pick_t (v := (Value.bool true)) rfl rfl ?_)
    refine Rg_op rfl (op_move (v := (Value.bool true)) rfl ?_)
    iterate 2 refine Rg_opx rfl (asB_ne rfl rfl) rfl ?_
    refine Rg_op rfl (op_pick_t (v := (Value.bool true)) rfl rfl ?_)
    refine Rg_op rfl (op_move (v := (Value.bool true)) rfl ?_)
    iterate 2 refine Rg_opx rfl (asB_ne rfl rfl) rfl ?_
    refine Rg_op rfl (op_pick_t (v := (Value.bool true)) rfl rfl ?_)
    refine Rg_op rfl (op_move (v := (Value.bool true)) rfl ?_)
    iterate 2 refine Rg_opx rfl (asB_ne rfl rfl) rfl ?_
    refine Rg_op rfl (op_pick_t (v := (Value.bool true)) rfl rfl ?_)
    refine Rg_op rfl (op_move (v := (Value.bool true)) rfl ?_)
    iterate 2 refine Rg_opx rfl (asB_ne rfl rfl) rfl ?_
    refine Rg_op rfl (op_pick_t (v := (Value.bool true)) rfl rfl ?_)
    refine Rg_op rfl (op_move (v := (Value.bool true)) rfl ?_)
    iterate 2 refine Rg_opx rfl (asB_ne rfl rfl) rfl ?_
    refine Rg_op rfl (op_pick_t (v := (Value.bool true)) rfl rfl ?_)
    refine Rg_op rfl (op_move (v := (Value.bool true)) rfl ?_)
    iterate 2 refine Rg_opx rfl (asB_ne rfl rfl) rfl ?_
    refine Rg_op rfl (op_pick_t (v := (Value.bool true)) rfl rfl ?_)
    refine Rg_op rfl (op_move (v := (Value.bool true)) rfl ?_)
    iterate 2 refine Rg_opx rfl (asB_ne rfl rfl) rfl ?_
    refine Rg_op rfl (op_pick_t (v := (Value.bool true)) rfl rfl ?_)
    refine Rg_op rfl (op_move (v := (Value.bool true)) rfl ?_)
    iterate 2 refine Rg_opx rfl (asB_ne rfl rfl) rfl ?_
    refine Rg_op rfl (op_pick_t (v := (Value.bool true)) rfl rfl ?_)
    refine Rg_nil ?_
    exact hK286 _ _ ⟨true, _, rfl, ⟨(by repeat (first | with_reducible exact Out.refl _ _ | refine Out.upd ?_ rfl | refine Out.updL ?_ rfl | refine Out.mix' ?_ rfl | exact Out.refl _ _)), rfl, rfl, trivial⟩, ch380, hs274, hm⟩
   ·
    replace hm := bif_f hm hg382
    refine Rg_opg rfl rfl rfl (op_move (v := (Value.int .i64 worse_1.2)) rfl ?_)
    refine Rg_opg rfl rfl rfl (op_neq rfl rfl ?_)
    refine Rg_op rfl (op_pick_f (v := (Value.bool (decide (worse_1.2 ≠ 0)))) rfl rfl ?_)
    refine Rg_op rfl (op_move (v := (Value.bool (decide (worse_1.2 ≠ 0)))) rfl ?_)
    refine Rg_case (fun hg383 => ?_) (fun hg383 => ?_)
    ·
     replace hm := bif_t hm hg383
     iterate 2 refine Rg_opx rfl (asB_ne rfl rfl) rfl ?_
     refine Rg_op rfl (op_pick_t (v := (Value.bool true)) rfl rfl ?_)
     refine Rg_op rfl (op_move (v := (Value.bool true)) rfl ?_)
     iterate 2 refine Rg_opx rfl (asB_ne rfl rfl) rfl ?_
     refine Rg_op rfl (op_pick_t (v := (Value.bool true)) rfl rfl ?_)
     refine Rg_op rfl (op_move (v := (Value.bool true)) rfl ?_)
     iterate 2 refine Rg_opx rfl (asB_ne rfl rfl) rfl ?_
     refine Rg_op rfl (op_pick_t (v := (Value.bool true)) rfl rfl ?_)
     refine Rg_op rfl (op_move (v := (Value.bool true)) rfl ?_)
     iterate 2 refine Rg_opx rfl (asB_ne rfl rfl) rfl ?_
     refine Rg_op rfl (op_pick_t (v := (Value.bool true)) rfl rfl ?_)
     refine Rg_op rfl (op_move (v := (Value.bool true)) rfl ?_)
     iterate 2 refine Rg_opx rfl (asB_ne rfl rfl) rfl ?_
     refine Rg_op rfl (op_pick_t (v := (Value.bool true)) rfl rfl ?_)
     refine Rg_op rfl (op_move (v := (Value.bool true)) rfl ?_)
     iterate 2 refine Rg_opx rfl (asB_ne rfl rfl) rfl ?_
     refine Rg_op rfl (op_pick_t (v := (Value.bool true)) rfl rfl ?_)
     refine Rg_op rfl (op_move (v := (Value.bool true)) rfl ?_)
     iterate 2 refine Rg_opx rfl (asB_ne rfl rfl) rfl ?_
     refine Rg_op rfl (op_pick_t (v := (Value.bool true)) rfl rfl ?_)
     refine Rg_op rfl (op_move (v := (Value.bool true)) rfl ?_)
     iterate 2 refine Rg_opx rfl (asB_ne rfl rfl) rfl ?_
     refine Rg_op rfl (op_pick_t (v := (Value.bool true)) rfl rfl ?_)
     refine Rg_op rfl (op_move (v := (Value.bool true)) rfl ?_)
     iterate 2 refine Rg_opx rfl (asB_ne rfl rfl) rfl ?_
     refine Rg_op rfl (op_pick_t (v := (Value.bool true)) rfl rfl ?_)
     refine Rg_op rfl (op_move (v := (Value.bool true)) rfl ?_)
     iterate 2 refine Rg_opx rfl (asB_ne rfl rfl) rfl ?_
     refine Rg_op rfl (op_pick_t (v := (Value.bool true)) rfl rfl ?_)
     refine Rg_nil ?_
     exact hK286 _ _ ⟨true, _, rfl, ⟨(by repeat (first | with_reducible exact Out.refl _ _ | refine Out.upd ?_ rfl | refine Out.updL ?_ rfl | refine Out.mix' ?_ rfl | exact Out.refl _ _)), rfl, rfl, trivial⟩, ch380, hs274, hm⟩
    ·
     replace hm := bif_f hm hg383
     refine Rg_opg rfl rfl rfl (op_move (v := (Value.int .i64 blocks_1.2.2)) rfl ?_)
     refine Rg_opg rfl rfl rfl (op_neq rfl rfl ?_)
     refine Rg_op rfl (op_pick_f (v := (Value.bool (decide (blocks_1.2.2 ≠ 0)))) rfl rfl ?_)
     refine Rg_op rfl (op_move (v := (Value.bool (decide (blocks_1.2.2 ≠ 0)))) rfl ?_)
     refine Rg_case (fun hg384 => ?_) (fun hg384 => ?_)
     ·
      replace hm := bif_t hm hg384
      iterate 2 refine Rg_opx rfl (asB_ne rfl rfl) rfl ?_
      refine Rg_op rfl (op_pick_t (v := (Value.bool true)) rfl rfl ?_)
      refine Rg_op rfl (op_move (v := (Value.bool true)) rfl ?_)
      iterate 2 refine Rg_opx rfl (asB_ne rfl rfl) rfl ?_
      refine Rg_op rfl (op_pick_t (v := (Value.bool true)) rfl rfl ?_)
      refine Rg_op rfl (op_move (v := (Value.bool true)) rfl ?_)
      iterate 2 refine Rg_opx rfl (asB_ne rfl rfl) rfl ?_
      refine Rg_op rfl (op_pick_t (v := (Value.bool true)) rfl rfl ?_)
      refine Rg_op rfl (op_move (v := (Value.bool true)) rfl ?_)
      iterate 2 refine Rg_opx rfl (asB_ne rfl rfl) rfl ?_
      refine Rg_op rfl (op_pick_t (v := (Value.bool true)) rfl rfl ?_)
      refine Rg_op rfl (op_move (v := (Value.bool true)) rfl ?_)
      iterate 2 refine Rg_opx rfl (asB_ne rfl rfl) rfl ?_
      refine Rg_op rfl (op_pick_t (v := (Value.bool true)) rfl rfl ?_)
      refine Rg_op rfl (op_move (v := (Value.bool true)) rfl ?_)
      iterate 2 refine Rg_opx rfl (asB_ne rfl rfl) rfl ?_
      refine Rg_op rfl (op_pick_t (v := (Value.bool true)) rfl rfl ?_)
      refine Rg_op rfl (op_move (v := (Value.bool true)) rfl ?_)
      iterate 2 refine Rg_opx rfl (asB_ne rfl rfl) rfl ?_
      refine Rg_op rfl (op_pick_t (v := (Value.bool true)) rfl rfl ?_)
      refine Rg_op rfl (op_move (v := (Value.bool true)) rfl ?_)
      iterate 2 refine Rg_opx rfl (asB_ne rfl rfl) rfl ?_
      refine Rg_op rfl (op_pick_t (v := (Value.bool true)) rfl rfl ?_)
      refine Rg_op rfl (op_move (v := (Value.bool true)) rfl ?_)
      iterate 2 refine Rg_opx rfl (asB_ne rfl rfl) rfl ?_
      refine Rg_op rfl (op_pick_t (v := (Value.bool true)) rfl rfl ?_)
      refine Rg_nil ?_
      exact hK286 _ _ ⟨true, _, rfl, ⟨(by repeat (first | with_reducible exact Out.refl _ _ | refine Out.upd ?_ rfl | refine Out.updL ?_ rfl | refine Out.mix' ?_ rfl | exact Out.refl _ _)), rfl, rfl, trivial⟩, ch380, hs274, hm⟩
     ·
      replace hm := bif_f hm hg384
      refine Rg_opg rfl rfl rfl (op_move (v := (Value.int .i64 blocks_2.2.2)) rfl ?_)
      refine Rg_opg rfl rfl rfl (op_neq rfl rfl ?_)
      refine Rg_op rfl (op_pick_f (v := (Value.bool (decide (blocks_2.2.2 ≠ 0)))) rfl rfl ?_)
      refine Rg_op rfl (op_move (v := (Value.bool (decide (blocks_2.2.2 ≠ 0)))) rfl ?_)
      refine Rg_case (fun hg385 => ?_) (fun hg385 => ?_)
      ·
       replace hm := bif_t hm hg385
       iterate 2 refine Rg_opx rfl (asB_ne rfl rfl) rfl ?_
       refine Rg_op rfl (op_pick_t (v := (Value.bool true)) rfl rfl ?_)
       refine Rg_op rfl (op_move (v := (Value.bool true)) rfl ?_)
       iterate 2 refine Rg_opx rfl (asB_ne rfl rfl) rfl ?_
       refine Rg_op rfl (op_pick_t (v := (Value.bool true)) rfl rfl ?_)
       refine Rg_op rfl (op_move (v := (Value.bool true)) rfl ?_)
       iterate 2 refine Rg_opx rfl (asB_ne rfl rfl) rfl ?_
       refine Rg_op rfl (op_pick_t (v := (Value.bool true)) rfl rfl ?_)
       refine Rg_op rfl (op_move (v := (Value.bool true)) rfl ?_)
       iterate 2 refine Rg_opx rfl (asB_ne rfl rfl) rfl ?_
       refine Rg_op rfl (op_pick_t (v := (Value.bool true)) rfl rfl ?_)
       refine Rg_op rfl (op_move (v := (Value.bool true)) rfl ?_)
       iterate 2 refine Rg_opx rfl (asB_ne rfl rfl) rfl ?_
       refine Rg_op rfl (op_pick_t (v := (Value.bool true)) rfl rfl ?_)
       refine Rg_op rfl (op_move (v := (Value.bool true)) rfl ?_)
       iterate 2 refine Rg_opx rfl (asB_ne rfl rfl) rfl ?_
       refine Rg_op rfl (op_pick_t (v := (Value.bool true)) rfl rfl ?_)
       refine Rg_op rfl (op_move (v := (Value.bool true)) rfl ?_)
       iterate 2 refine Rg_opx rfl (asB_ne rfl rfl) rfl ?_
       refine Rg_op rfl (op_pick_t (v := (Value.bool true)) rfl rfl ?_)
       refine Rg_op rfl (op_move (v := (Value.bool true)) rfl ?_)
       iterate 2 refine Rg_opx rfl (asB_ne rfl rfl) rfl ?_
       refine Rg_op rfl (op_pick_t (v := (Value.bool true)) rfl rfl ?_)
       refine Rg_nil ?_
       exact hK286 _ _ ⟨true, _, rfl, ⟨(by repeat (first | with_reducible exact Out.refl _ _ | refine Out.upd ?_ rfl | refine Out.updL ?_ rfl | refine Out.mix' ?_ rfl | exact Out.refl _ _)), rfl, rfl, trivial⟩, ch380, hs274, hm⟩
      ·
       replace hm := bif_f hm hg385
       refine Rg_opg rfl rfl rfl (op_move (v := (Value.int .i64 stable_1.2)) rfl ?_)
       refine Rg_opg rfl rfl rfl (op_neq rfl rfl ?_)
       refine Rg_op rfl (op_pick_f (v := (Value.bool (decide (stable_1.2 ≠ 0)))) rfl rfl ?_)
       refine Rg_op rfl (op_move (v := (Value.bool (decide (stable_1.2 ≠ 0)))) rfl ?_)
       refine Rg_case (fun hg386 => ?_) (fun hg386 => ?_)
       ·
        replace hm := bif_t hm hg386
        iterate 2 refine Rg_opx rfl (asB_ne rfl rfl) rfl ?_
        refine Rg_op rfl (op_pick_t (v := (Value.bool true)) rfl rfl ?_)
        refine Rg_op rfl (op_move (v := (Value.bool true)) rfl ?_)
        iterate 2 refine Rg_opx rfl (asB_ne rfl rfl) rfl ?_
        refine Rg_op rfl (op_pick_t (v := (Value.bool true)) rfl rfl ?_)
        refine Rg_op rfl (op_move (v := (Value.bool true)) rfl ?_)
        iterate 2 refine Rg_opx rfl (asB_ne rfl rfl) rfl ?_
        refine Rg_op rfl (op_pick_t (v := (Value.bool true)) rfl rfl ?_)
        refine Rg_op rfl (op_move (v := (Value.bool true)) rfl ?_)
        iterate 2 refine Rg_opx rfl (asB_ne rfl rfl) rfl ?_
        refine Rg_op rfl (op_pick_t (v := (Value.bool true)) rfl rfl ?_)
        refine Rg_op rfl (op_move (v := (Value.bool true)) rfl ?_)
        iterate 2 refine Rg_opx rfl (asB_ne rfl rfl) rfl ?_
        refine Rg_op rfl (op_pick_t (v := (Value.bool true)) rfl rfl ?_)
        refine Rg_op rfl (op_move (v := (Value.bool true)) rfl ?_)
        iterate 2 refine Rg_opx rfl (asB_ne rfl rfl) rfl ?_
        refine Rg_op rfl (op_pick_t (v := (Value.bool true)) rfl rfl ?_)
        refine Rg_op rfl (op_move (v := (Value.bool true)) rfl ?_)
        iterate 2 refine Rg_opx rfl (asB_ne rfl rfl) rfl ?_
        refine Rg_op rfl (op_pick_t (v := (Value.bool true)) rfl rfl ?_)
        refine Rg_nil ?_
        exact hK286 _ _ ⟨true, _, rfl, ⟨(by repeat (first | with_reducible exact Out.refl _ _ | refine Out.upd ?_ rfl | refine Out.updL ?_ rfl | refine Out.mix' ?_ rfl | exact Out.refl _ _)), rfl, rfl, trivial⟩, ch380, hs274, hm⟩
       ·
        replace hm := bif_f hm hg386
        refine Rg_opg rfl rfl rfl (op_move (v := (Value.int .i64 stable_2.2)) rfl ?_)
        refine Rg_opg rfl rfl rfl (op_neq rfl rfl ?_)
        refine Rg_op rfl (op_pick_f (v := (Value.bool (decide (stable_2.2 ≠ 0)))) rfl rfl ?_)
        refine Rg_op rfl (op_move (v := (Value.bool (decide (stable_2.2 ≠ 0)))) rfl ?_)
        refine Rg_case (fun hg387 => ?_) (fun hg387 => ?_)
        ·
         replace hm := bif_t hm hg387
         iterate 2 refine Rg_opx rfl (asB_ne rfl rfl) rfl ?_
         refine Rg_op rfl (op_pick_t (v := (Value.bool true)) rfl rfl ?_)
         refine Rg_op rfl (op_move (v := (Value.bool true)) rfl ?_)
         iterate 2 refine Rg_opx rfl (asB_ne rfl rfl) rfl ?_
         refine Rg_op rfl (op_pick_t (v := (Value.bool true)) rfl rfl ?_)
         refine Rg_op rfl (op_move (v := (Value.bool true)) rfl ?_)
         iterate 2 refine Rg_opx rfl (asB_ne rfl rfl) rfl ?_
         refine Rg_op rfl (op_pick_t (v := (Value.bool true)) rfl rfl ?_)
         refine Rg_op rfl (op_move (v := (Value.bool true)) rfl ?_)
         iterate 2 refine Rg_opx rfl (asB_ne rfl rfl) rfl ?_
         refine Rg_op rfl (op_pick_t (v := (Value.bool true)) rfl rfl ?_)
         refine Rg_op rfl (op_move (v := (Value.bool true)) rfl ?_)
         iterate 2 refine Rg_opx rfl (asB_ne rfl rfl) rfl ?_
         refine Rg_op rfl (op_pick_t (v := (Value.bool true)) rfl rfl ?_)
         refine Rg_op rfl (op_move (v := (Value.bool true)) rfl ?_)
         iterate 2 refine Rg_opx rfl (asB_ne rfl rfl) rfl ?_
         refine Rg_op rfl (op_pick_t (v := (Value.bool true)) rfl rfl ?_)
         refine Rg_nil ?_
         exact hK286 _ _ ⟨true, _, rfl, ⟨(by repeat (first | with_reducible exact Out.refl _ _ | refine Out.upd ?_ rfl | refine Out.updL ?_ rfl | refine Out.mix' ?_ rfl | exact Out.refl _ _)), rfl, rfl, trivial⟩, ch380, hs274, hm⟩
        ·
         replace hm := bif_f hm hg387
         refine Rg_opg rfl rfl rfl (op_move (v := (Value.int .i64 stable_3.2)) rfl ?_)
         refine Rg_opg rfl rfl rfl (op_neq rfl rfl ?_)
         refine Rg_op rfl (op_pick_f (v := (Value.bool (decide (stable_3.2 ≠ 0)))) rfl rfl ?_)
         refine Rg_op rfl (op_move (v := (Value.bool (decide (stable_3.2 ≠ 0)))) rfl ?_)
         refine Rg_case (fun hg388 => ?_) (fun hg388 => ?_)
         ·
          replace hm := bif_t hm hg388
          iterate 2 refine Rg_opx rfl (asB_ne rfl rfl) rfl ?_
          refine Rg_op rfl (op_pick_t (v := (Value.bool true)) rfl rfl ?_)
          refine Rg_op rfl (op_move (v := (Value.bool true)) rfl ?_)
          iterate 2 refine Rg_opx rfl (asB_ne rfl rfl) rfl ?_
          refine Rg_op rfl (op_pick_t (v := (Value.bool true)) rfl rfl ?_)
          refine Rg_op rfl (op_move (v := (Value.bool true)) rfl ?_)
          iterate 2 refine Rg_opx rfl (asB_ne rfl rfl) rfl ?_
          refine Rg_op rfl (op_pick_t (v := (Value.bool true)) rfl rfl ?_)
          refine Rg_op rfl (op_move (v := (Value.bool true)) rfl ?_)
          iterate 2 refine Rg_opx rfl (asB_ne rfl rfl) rfl ?_
          refine Rg_op rfl (op_pick_t (v := (Value.bool true)) rfl rfl ?_)
          refine Rg_op rfl (op_move (v := (Value.bool true)) rfl ?_)
          iterate 2 refine Rg_opx rfl (asB_ne rfl rfl) rfl ?_
          refine Rg_op rfl (op_pick_t (v := (Value.bool true)) rfl rfl ?_)
          refine Rg_nil ?_
          exact hK286 _ _ ⟨true, _, rfl, ⟨(by repeat (first | with_reducible exact Out.refl _ _ | refine Out.upd ?_ rfl | refine Out.updL ?_ rfl | refine Out.mix' ?_ rfl | exact Out.refl _ _)), rfl, rfl, trivial⟩, ch380, hs274, hm⟩
         ·
          replace hm := bif_f hm hg388
          refine Rg_opg rfl rfl rfl (op_move (v := (Value.int .i64 blocks_3.2.2)) rfl ?_)
          refine Rg_opg rfl rfl rfl (op_neq rfl rfl ?_)
          refine Rg_op rfl (op_pick_f (v := (Value.bool (decide (blocks_3.2.2 ≠ 1)))) rfl rfl ?_)
          refine Rg_op rfl (op_move (v := (Value.bool (decide (blocks_3.2.2 ≠ 1)))) rfl ?_)
          refine Rg_case (fun hg389 => ?_) (fun hg389 => ?_)
          ·
           replace hm := bif_t hm hg389
           iterate 2 refine Rg_opx rfl (asB_ne rfl rfl) rfl ?_
           refine Rg_op rfl (op_pick_t (v := (Value.bool true)) rfl rfl ?_)
           refine Rg_op rfl (op_move (v := (Value.bool true)) rfl ?_)
           iterate 2 refine Rg_opx rfl (asB_ne rfl rfl) rfl ?_
           refine Rg_op rfl (op_pick_t (v := (Value.bool true)) rfl rfl ?_)
           refine Rg_op rfl (op_move (v := (Value.bool true)) rfl ?_)
           iterate 2 refine Rg_opx rfl (asB_ne rfl rfl) rfl ?_
           refine Rg_op rfl (op_pick_t (v := (Value.bool true)) rfl rfl ?_)
           refine Rg_op rfl (op_move (v := (Value.bool true)) rfl ?_)
           iterate 2 refine Rg_opx rfl (asB_ne rfl rfl) rfl ?_
           refine Rg_op rfl (op_pick_t (v := (Value.bool true)) rfl rfl ?_)
           refine Rg_nil ?_
           exact hK286 _ _ ⟨true, _, rfl, ⟨(by repeat (first | with_reducible exact Out.refl _ _ | refine Out.upd ?_ rfl | refine Out.updL ?_ rfl | refine Out.mix' ?_ rfl | exact Out.refl _ _)), rfl, rfl, trivial⟩, ch380, hs274, hm⟩
          ·
           replace hm := bif_f hm hg389
           refine Rg_opg rfl rfl rfl (op_move (v := (Value.int .i64 costs_3.2)) rfl ?_)
           refine Rg_opg rfl rfl rfl (op_neq rfl rfl ?_)
           refine Rg_op rfl (op_pick_f (v := (Value.bool (decide (costs_3.2 ≠ 370)))) rfl rfl ?_)
           refine Rg_op rfl (op_move (v := (Value.bool (decide (costs_3.2 ≠ 370)))) rfl ?_)
           refine Rg_case (fun hg390 => ?_) (fun hg390 => ?_)
           ·
            replace hm := bif_t hm hg390
            iterate 2 refine Rg_opx rfl (asB_ne rfl rfl) rfl ?_
            refine Rg_op rfl (op_pick_t (v := (Value.bool true)) rfl rfl ?_)
            refine Rg_op rfl (op_move (v := (Value.bool true)) rfl ?_)
            iterate 2 refine Rg_opx rfl (asB_ne rfl rfl) rfl ?_
            refine Rg_op rfl (op_pick_t (v := (Value.bool true)) rfl rfl ?_)
            refine Rg_op rfl (op_move (v := (Value.bool true)) rfl ?_)
            iterate 2 refine Rg_opx rfl (asB_ne rfl rfl) rfl ?_
            refine Rg_op rfl (op_pick_t (v := (Value.bool true)) rfl rfl ?_)
            refine Rg_nil ?_
            exact hK286 _ _ ⟨true, _, rfl, ⟨(by repeat (first | with_reducible exact Out.refl _ _ | refine Out.upd ?_ rfl | refine Out.updL ?_ rfl | refine Out.mix' ?_ rfl | exact Out.refl _ _)), rfl, rfl, trivial⟩, ch380, hs274, hm⟩
           ·
            replace hm := bif_f hm hg390
            refine Rg_opg rfl rfl rfl (op_move (v := (Value.int .i64 allowed_1.2)) rfl ?_)
            refine Rg_opg rfl rfl rfl (op_neq rfl rfl ?_)
            refine Rg_op rfl (op_pick_f (v := (Value.bool (decide (allowed_1.2 ≠ 0)))) rfl rfl ?_)
            refine Rg_op rfl (op_move (v := (Value.bool (decide (allowed_1.2 ≠ 0)))) rfl ?_)
            refine Rg_case (fun hg391 => ?_) (fun hg391 => ?_)
            ·
             replace hm := bif_t hm hg391
             iterate 2 refine Rg_opx rfl (asB_ne rfl rfl) rfl ?_
             refine Rg_op rfl (op_pick_t (v := (Value.bool true)) rfl rfl ?_)
             refine Rg_op rfl (op_move (v := (Value.bool true)) rfl ?_)
             iterate 2 refine Rg_opx rfl (asB_ne rfl rfl) rfl ?_
             refine Rg_op rfl (op_pick_t (v := (Value.bool true)) rfl rfl ?_)
             refine Rg_nil ?_
             exact hK286 _ _ ⟨true, _, rfl, ⟨(by repeat (first | with_reducible exact Out.refl _ _ | refine Out.upd ?_ rfl | refine Out.updL ?_ rfl | refine Out.mix' ?_ rfl | exact Out.refl _ _)), rfl, rfl, trivial⟩, ch380, hs274, hm⟩
            ·
             replace hm := bif_f hm hg391
             refine Rg_opg rfl rfl rfl (op_move (v := (Value.int .i64 allowed_2.2)) rfl ?_)
             refine Rg_opg rfl rfl rfl (op_neq rfl rfl ?_)
             refine Rg_op rfl (op_pick_f (v := (Value.bool (decide (allowed_2.2 ≠ 0)))) rfl rfl ?_)
             refine Rg_op rfl (op_move (v := (Value.bool (decide (allowed_2.2 ≠ 0)))) rfl ?_)
             refine Rg_case (fun hg392 => ?_) (fun hg392 => ?_)
             ·
              replace hm := bif_t hm hg392
              iterate 2 refine Rg_opx rfl (asB_ne rfl rfl) rfl ?_
              refine Rg_op rfl (op_pick_t (v := (Value.bool true)) rfl rfl ?_)
              refine Rg_nil ?_
              exact hK286 _ _ ⟨true, _, rfl, ⟨(by repeat (first | with_reducible exact Out.refl _ _ | refine Out.upd ?_ rfl | refine Out.updL ?_ rfl | refine Out.mix' ?_ rfl | exact Out.refl _ _)), rfl, rfl, trivial⟩, ch380, hs274, hm⟩
             ·
              replace hm := bif_f hm hg392
              refine Rg_opg rfl rfl rfl (op_move (v := (Value.int .i64 worse_2.2)) rfl ?_)
              refine Rg_opg rfl rfl rfl (op_neq rfl rfl ?_)
              refine Rg_op rfl (op_pick_f (v := (Value.bool (decide (worse_2.2 ≠ 0)))) rfl rfl ?_)
              refine Rg_nil ?_
              exact hK286 _ _ ⟨(decide (worse_2.2 ≠ 0)), _, rfl, ⟨(by repeat (first | with_reducible exact Out.refl _ _ | refine Out.upd ?_ rfl | refine Out.updL ?_ rfl | refine Out.mix' ?_ rfl | exact Out.refl _ _)), rfl, rfl, trivial⟩, ch380, hs274, hm⟩

end Go.Fx



set_option linter.unusedVariables false
set_option linter.unusedSimpArgs false
set_option maxRecDepth 100000
set_option maxHeartbeats 0
namespace Go.Fx
open Go Go.RowKit Go.Proofs
def m38_overflightref37_Valid_B1 (r_ : XRound) (i_1 : Int) (sf21 : Int → Option Bool) (sf46 : Int → Option Bool) (k_1 : Int) : Option Bool :=
 bif (decide (k_1 < r_.slots)) then
  jn (fun (v_3 : Bool) =>
   bif v_3 then
    some false
   else
    sf46 (IntKind.wrap .i64 (k_1 + 1)))
  (fun k59 =>
   ck ((0 : Int) ≤ i_1 ∧ i_1 < (r_.costs.length : Int)) <|
   ck ((0 : Int) ≤ k_1 ∧ k_1 < ((r_.costs.getD i_1.toNat default).length : Int)) <|
   bif (decide (((r_.costs.getD i_1.toNat default).getD k_1.toNat default) < (-1))) then
    k59 true
   else
    ck ((0 : Int) ≤ i_1 ∧ i_1 < (r_.costs.length : Int)) <|
    ck ((0 : Int) ≤ k_1 ∧ k_1 < ((r_.costs.getD i_1.toNat default).length : Int)) <|
    bif (decide (1048576 < ((r_.costs.getD i_1.toNat default).getD k_1.toNat default))) then
     k59 true
    else
     bif (decide (k_1 = i_1)) then
      ck ((0 : Int) ≤ i_1 ∧ i_1 < (r_.costs.length : Int)) <|
      ck ((0 : Int) ≤ k_1 ∧ k_1 < ((r_.costs.getD i_1.toNat default).length : Int)) <|
      k59 (decide (((r_.costs.getD i_1.toNat default).getD k_1.toNat default) < 0))
     else
      k59 false)
 else
  sf21 (IntKind.wrap .i64 (i_1 + 1))

def m38_overflightref37_Valid_B0 (r_ : XRound) (sf21 : Int → Option Bool) (i_1 : Int) : Option Bool :=
 bif (decide (i_1 < (r_.owners.length : Int))) then
  jn (fun (v_2 : Bool) =>
   bif v_2 then
    some false
   else
    loop1 (m38_overflightref37_Valid_B1 r_ i_1 sf21) ((r_.slots - 0).toNat + 1) 0)
  (fun k35 =>
   ck ((0 : Int) ≤ i_1 ∧ i_1 < (r_.owners.length : Int)) <|
   bif (decide ((r_.owners.getD i_1.toNat default) < 0)) then
    k35 true
   else
    ck ((0 : Int) ≤ i_1 ∧ i_1 < (r_.owners.length : Int)) <|
    bif (decide (8 ≤ (r_.owners.getD i_1.toNat default))) then
     k35 true
    else
     ck ((0 : Int) ≤ i_1 ∧ i_1 < (r_.costs.length : Int)) <|
     k35 (decide (((r_.costs.getD i_1.toNat default).length : Int) ≠ r_.slots)))
 else
  some true

def m38_overflightref37_Valid (r_ : XRound) : Option Bool :=
 jn (fun (v_1 : Bool) =>
  bif v_1 then
   some false
  else
   loop1 (m38_overflightref37_Valid_B0 r_) (((r_.owners.length : Int) - 0).toNat + 1) 0)
 (fun k8 =>
  bif (decide (r_.slots < 1)) then
   k8 true
  else
   bif (decide (8 < r_.slots)) then
    k8 true
   else
    bif (decide (r_.slots < (r_.owners.length : Int))) then
     k8 true
    else
     k8 (decide ((r_.costs.length : Int) ≠ (r_.owners.length : Int))))

theorem c38_overflightref37_Valid {w : World} {O : List Nat} {r_ : XRound} {a_r__owners : Option Addr} {c_r__owners : Nat} {a_r__costs : Option Addr} {c_r__costs : Nat} (hO : ∀ k ∈ O, k < w.heap.size) (r_r__slots : InK .i64 r_.slots) (f_r__owners : SlR (rInt .i64) w O a_r__owners c_r__owners r_.owners) (f_r__costs : SlR (rSl (rInt .i64)) w O a_r__costs c_r__costs r_.costs) {x : Bool} (hm : m38_overflightref37_Valid r_ = some x) :
  Ok Try.prog 38 [(Value.agg [(Value.int .i64 r_.slots), (Value.slice a_r__owners r_.owners.length c_r__owners), (Value.slice a_r__costs r_.costs.length c_r__costs)].toArray)] w O vB x := by
 unfold m38_overflightref37_Valid at hm
 refine Fn_of_Wp (n := 104) (xs := [.tmp 2]) Try.func38 rfl Try.ntmps38 Try.results38 rfl ?_
 have hs := St.start hO
 refine Wp_seq ?_
 refine Wp_region ?_
 refine Rg_op rfl (op_box (cs := [(Value.int .i64 r_.slots), (Value.slice a_r__owners r_.owners.length c_r__owners), (Value.slice a_r__costs r_.costs.length c_r__costs)]) hs rfl rfl ?_)
 intro b1 w2 _ p3 hs4
 replace f_r__owners := f_r__owners.step p3; replace f_r__costs := f_r__costs.step p3; clear p3
 refine Rg_op rfl (op_assign (v := (Value.bool false)) rfl ?_)
 refine Rg_nil ?_
 refine Wp_seq ?_
 refine Wp_reset [] [(1, (Value.pointer (some ⟨b1, 0, none⟩)))] rfl ⟨rfl, trivial⟩ fun ξ6 => ?_
 replace hm := jn_elim hm; obtain ⟨k8, hk9, hm⟩ := hm
 refine Wp_seqJ [5, 6, 7, 8, 9, 10, 11, 12, 13, 14, 15, 16, 17, 18, 19, 20, 21, 22, 23, 24, 25, 26, 27, 28, 29] (fun fr w' => ∃ (v_1 : Bool) (Ebs : Ents), Ebs = [(some b1, Obj.cells [(Value.int .i64 r_.slots), (Value.slice a_r__owners r_.owners.length c_r__owners), (Value.slice a_r__costs r_.costs.length c_r__costs)].toArray 25)] ∧ fr [] [(29, (Value.bool v_1))] ∧ Step (ks [(some b1, Obj.cells [(Value.int .i64 r_.slots), (Value.slice a_r__owners r_.owners.length c_r__owners), (Value.slice a_r__costs r_.costs.length c_r__costs)].toArray 25)] O) w2 (ks Ebs O) w' ∧ St ⟨w, [], []⟩ O w' Ebs ∧ k8 v_1 = some x) ?_ ?_
 ·
  rintro ρ15 w11 ⟨v_1, Ebs, hEbs, hfr14, hst13, hs12, hm⟩
  replace hm := jnE1 hk9 hm
  subst hEbs; rw [hfr14.eq]; clear hfr14
  replace f_r__owners := f_r__owners.step hst13; replace f_r__costs := f_r__costs.step hst13; clear hst13 hs4
  refine Wp_cond rfl (fun hc16 => ?_) (fun hc16 => ?_)
  ·
   replace hm := bif_t hm hc16
   refine Wp_seq ?_
   obtain ⟨hs17, p18⟩ := hs12.sub (bs' := []) (.cons _ List.Sublist.slnil)
   clear f_r__owners f_r__costs
   clear p18 hs12
   refine Wp_region ?_
   refine Rg_op rfl (op_assign (v := (Value.bool false)) rfl ?_)
   refine Rg_nil ?_
   refine Wp_ret ?_
   have hz := step_all hs17
   refine ⟨_, (show Closes [] _ _ from rfl), [(Value.bool false)], ⟨rfl, trivial⟩, hs17.ext, ?_⟩
   exact Vr.eq (a := vB) (x := false) rfl (Option.some.inj hm)
  ·
   replace hm := bif_f hm hc16
   refine Wp_skip ?_
   refine Wp_seq ?_
   refine Wp_seq ?_
   refine Wp_region ?_
   refine Rg_op rfl (op_assign (v := (Value.int .i64 0)) rfl ?_)
   refine Rg_nil ?_
   refine Wp_block ?_
   refine Wp_reset [] [(1, (Value.pointer (some ⟨b1, 0, none⟩))), (3, (Value.int .i64 0))] rfl ⟨rfl, rfl, trivial⟩ fun ξ20 => ?_
   refine Wp_loopM [2, 3, 4, 30, 31, 32, 33, 34, 35, 36, 37, 38, 39, 40, 41, 42, 43, 44, 45, 46, 47, 48, 49, 50, 51, 52, 53, 54, 55, 56, 57, 58, 59, 60, 61, 62, 63, 64, 65, 66, 67, 68, 69, 70, 71, 72, 73, 74, 75, 76, 77, 78, 79, 80, 81, 82, 83, 84, 85, 86, 87, 88, 89, 90, 91, 92, 93, 94, 95, 96, 97, 98, 99, 100, 101, 102, 103] (fun m fr w' => ∃ (i_1 : Int) (Ebs : Ents), Ebs = [(some b1, Obj.cells [(Value.int .i64 r_.slots), (Value.slice a_r__owners r_.owners.length c_r__owners), (Value.slice a_r__costs r_.costs.length c_r__costs)].toArray 25)] ∧ fr [] [(3, (Value.int .i64 i_1))] ∧ Step (ks [(some b1, Obj.cells [(Value.int .i64 r_.slots), (Value.slice a_r__owners r_.owners.length c_r__owners), (Value.slice a_r__costs r_.costs.length c_r__costs)].toArray 25)] O) w11 (ks Ebs O) w' ∧ St ⟨w, [], []⟩ O w' Ebs ∧ InK .i64 i_1 ∧ loop1 (m38_overflightref37_Valid_B0 r_) m i_1 = some x) (((r_.owners.length : Int) - 0).toNat + 1) ⟨0, _, rfl, ⟨Out.refl _ _, rfl, rfl, trivial⟩, Step.refl _ _, hs12, (show InK .i64 0 from by decide), hm⟩ ?_ ?_
   · rintro _ _ ⟨_, _, _, _, _, _, _, hm⟩; exact loop1_z hm
   ·
    rintro m24 K23 hK23 ρ29 w25 ⟨i_1, Ebs, hEbs, hfr28, hst27, hs26, r_y19, hm⟩
    obtain ⟨sf21, hsf22, hm⟩ := loop1_s hm; unfold m38_overflightref37_Valid_B0 at hm
    subst hEbs; rw [hfr28.eq]; clear hfr28
    replace f_r__owners := f_r__owners.step hst27; replace f_r__costs := f_r__costs.step hst27
    have ch30 := hst27
    refine Wp_seq ?_
    refine Wp_seq ?_
    refine Wp_region ?_
    refine Rg_op rfl (op_move (v := (Value.int .i64 i_1)) rfl ?_)
    refine Rg_op rfl (op_fieldAddr ty25 rfl ty22 (by decide) rfl (rfl : _ = (⟨_, 1, none⟩ : Addr)) ?_)
    refine Rg_op rfl (op_load (cs := [(Value.int .i64 r_.slots), (Value.slice a_r__owners r_.owners.length c_r__owners), (Value.slice a_r__costs r_.costs.length c_r__costs)]) (i := 0) ty22 hs26 rfl rfl rfl ?_)
    refine Rg_op rfl (op_len Try.underlying22 rfl ?_)
    have rl31 := inK_len f_r__owners
    refine Rg_op rfl (op_lss rfl rfl ?_)
    refine Rg_nil ?_
    refine Wp_cond rfl (fun hc32 => ?_) (fun hc32 => ?_)
    ·
     replace hm := bif_t hm hc32
     refine Wp_skip ?_
     refine Wp_seq ?_
     refine Wp_block ?_
     refine Wp_seq ?_
     refine Wp_reset2 [2, 3, 4, 30, 31, 32, 33, 34, 35, 36, 37, 38, 39, 40, 41, 42, 43, 44, 45, 46, 47, 48, 49, 50, 51, 52, 53, 54, 55, 56, 57, 58, 59, 60, 61, 62, 63, 64, 65, 66, 67, 68, 69, 70, 71, 72, 73, 74, 75, 76, 77, 78, 79, 80, 81, 82, 83, 84, 85, 86, 87, 88, 89, 90, 91, 92, 93, 94, 95, 96, 97, 98, 99, 100, 101, 102, 103] [] (updL ⟨ξ20, []⟩ [(1, (Value.pointer (some ⟨b1, 0, none⟩))), (3, (Value.int .i64 0))]) [(3, (Value.int .i64 i_1))] (by repeat (first | with_reducible exact Out.refl _ _ | refine Out.upd ?_ rfl | refine Out.updL ?_ rfl | refine Out.mix' ?_ rfl | exact Out.refl _ _)) rfl ⟨rfl, trivial⟩ fun ξ33 => ?_
     replace hm := jn_elim hm; obtain ⟨k35, hk36, hm⟩ := hm
     refine Wp_seqJ [37, 38, 39, 40, 41, 42, 43, 44, 45, 46, 47, 48, 49, 50, 51, 52, 53, 54, 55, 56, 57, 58, 59, 60, 61] (fun fr w' => ∃ (v_2 : Bool) (Ebs : Ents), Ebs = [(some b1, Obj.cells [(Value.int .i64 r_.slots), (Value.slice a_r__owners r_.owners.length c_r__owners), (Value.slice a_r__costs r_.costs.length c_r__costs)].toArray 25)] ∧ fr [] [(61, (Value.bool v_2))] ∧ Step (ks [(some b1, Obj.cells [(Value.int .i64 r_.slots), (Value.slice a_r__owners r_.owners.length c_r__owners), (Value.slice a_r__costs r_.costs.length c_r__costs)].toArray 25)] O) w25 (ks Ebs O) w' ∧ St ⟨w, [], []⟩ O w' Ebs ∧ k35 v_2 = some x) ?_ ?_
     ·
      rintro ρ42 w38 ⟨v_2, Ebs, hEbs, hfr41, hst40, hs39, hm⟩
      replace hm := jnE1 hk36 hm
      subst hEbs; rw [hfr41.eq]; clear hfr41
      replace f_r__owners := f_r__owners.step hst40; replace f_r__costs := f_r__costs.step hst40; replace ch30 := ch30.trans hst40; clear hst40 hs26
      refine Wp_cond rfl (fun hc43 => ?_) (fun hc43 => ?_)
      ·
       replace hm := bif_t hm hc43
       refine Wp_seq ?_
       refine Wp_region ?_
       refine Rg_op rfl (op_assign (v := (Value.bool false)) rfl ?_)
       refine Rg_nil ?_
       refine Wp_ret ?_
       have hz := step_all hs39
       replace f_r__owners := f_r__owners.step hz; replace f_r__costs := f_r__costs.step hz
       refine ⟨_, (show Closes [] _ _ from rfl), [(Value.bool false)], ⟨rfl, trivial⟩, hs39.ext, ?_⟩
       exact Vr.eq (a := vB) (x := false) rfl (Option.some.inj hm)
      ·
       replace hm := bif_f hm hc43
       refine Wp_skip ?_
       refine Wp_seq ?_
       refine Wp_region ?_
       refine Rg_op rfl (op_assign (v := (Value.int .i64 0)) rfl ?_)
       refine Rg_nil ?_
       refine Wp_block ?_
       refine Wp_reset2 [2, 3, 4, 30, 31, 32, 33, 34, 35, 36, 37, 38, 39, 40, 41, 42, 43, 44, 45, 46, 47, 48, 49, 50, 51, 52, 53, 54, 55, 56, 57, 58, 59, 60, 61, 62, 63, 64, 65, 66, 67, 68, 69, 70, 71, 72, 73, 74, 75, 76, 77, 78, 79, 80, 81, 82, 83, 84, 85, 86, 87, 88, 89, 90, 91, 92, 93, 94, 95, 96, 97, 98, 99, 100, 101, 102, 103] [] (updL ⟨ξ20, []⟩ [(1, (Value.pointer (some ⟨b1, 0, none⟩))), (3, (Value.int .i64 0))]) [(3, (Value.int .i64 i_1)), (4, (Value.int .i64 0))] (by repeat (first | with_reducible exact Out.refl _ _ | refine Out.upd ?_ rfl | refine Out.updL ?_ rfl | refine Out.mix' ?_ rfl | exact Out.refl _ _)) rfl ⟨rfl, rfl, trivial⟩ fun ξ45 => ?_
       refine Wp_loopM [2, 4, 62, 63, 64, 65, 66, 67, 68, 69, 70, 71, 72, 73, 74, 75, 76, 77, 78, 79, 80, 81, 82, 83, 84, 85, 86, 87, 88, 89, 90, 91, 92, 93, 94, 95, 96, 97, 98, 99, 100, 101, 102, 103] (fun m fr w' => ∃ (k_1 : Int) (Ebs : Ents), Ebs = [(some b1, Obj.cells [(Value.int .i64 r_.slots), (Value.slice a_r__owners r_.owners.length c_r__owners), (Value.slice a_r__costs r_.costs.length c_r__costs)].toArray 25)] ∧ fr [] [(4, (Value.int .i64 k_1))] ∧ Step (ks [(some b1, Obj.cells [(Value.int .i64 r_.slots), (Value.slice a_r__owners r_.owners.length c_r__owners), (Value.slice a_r__costs r_.costs.length c_r__costs)].toArray 25)] O) w38 (ks Ebs O) w' ∧ St ⟨w, [], []⟩ O w' Ebs ∧ InK .i64 k_1 ∧ loop1 (m38_overflightref37_Valid_B1 r_ i_1 sf21) m k_1 = some x) ((r_.slots - 0).toNat + 1) ⟨0, _, rfl, ⟨Out.refl _ _, rfl, rfl, trivial⟩, Step.refl _ _, hs39, (show InK .i64 0 from by decide), hm⟩ ?_ ?_
       · rintro _ _ ⟨_, _, _, _, _, _, _, hm⟩; exact loop1_z hm
       ·
        rintro m49 K48 hK48 ρ54 w50 ⟨k_1, Ebs, hEbs, hfr53, hst52, hs51, r_y44, hm⟩
        obtain ⟨sf46, hsf47, hm⟩ := loop1_s hm; unfold m38_overflightref37_Valid_B1 at hm
        subst hEbs; rw [hfr53.eq]; clear hfr53
        replace f_r__owners := f_r__owners.step hst52; replace f_r__costs := f_r__costs.step hst52; replace ch30 := ch30.trans hst52
        have ch55 := hst52
        refine Wp_seq ?_
        refine Wp_seq ?_
        refine Wp_region ?_
        refine Rg_op rfl (op_move (v := (Value.int .i64 k_1)) rfl ?_)
        refine Rg_op rfl (op_fieldAddr ty25 rfl ty3 (by decide) rfl (rfl : _ = (⟨_, 0, none⟩ : Addr)) ?_)
        refine Rg_op rfl (op_load (cs := [(Value.int .i64 r_.slots), (Value.slice a_r__owners r_.owners.length c_r__owners), (Value.slice a_r__costs r_.costs.length c_r__costs)]) (i := 0) ty3 hs51 rfl rfl rfl ?_)
        refine Rg_op rfl (op_lss rfl rfl ?_)
        refine Rg_nil ?_
        refine Wp_cond rfl (fun hc56 => ?_) (fun hc56 => ?_)
        ·
         replace hm := bif_t hm hc56
         refine Wp_skip ?_
         refine Wp_seq ?_
         refine Wp_block ?_
         refine Wp_reset2 [2, 4, 62, 63, 64, 65, 66, 67, 68, 69, 70, 71, 72, 73, 74, 75, 76, 77, 78, 79, 80, 81, 82, 83, 84, 85, 86, 87, 88, 89, 90, 91, 92, 93, 94, 95, 96, 97, 98, 99, 100, 101, 102, 103] [] (updL (mix [2, 3, 4, 30, 31, 32, 33, 34, 35, 36, 37, 38, 39, 40, 41, 42, 43, 44, 45, 46, 47, 48, 49, 50, 51, 52, 53, 54, 55, 56, 57, 58, 59, 60, 61, 62, 63, 64, 65, 66, 67, 68, 69, 70, 71, 72, 73, 74, 75, 76, 77, 78, 79, 80, 81, 82, 83, 84, 85, 86, 87, 88, 89, 90, 91, 92, 93, 94, 95, 96, 97, 98, 99, 100, 101, 102, 103] [] ξ45 (updL ⟨ξ20, []⟩ [(1, (Value.pointer (some ⟨b1, 0, none⟩))), (3, (Value.int .i64 0))])) [(3, (Value.int .i64 i_1)), (4, (Value.int .i64 0))]) [(4, (Value.int .i64 k_1))] (by repeat (first | with_reducible exact Out.refl _ _ | refine Out.upd ?_ rfl | refine Out.updL ?_ rfl | refine Out.mix' ?_ rfl | exact Out.refl _ _)) rfl ⟨rfl, trivial⟩ fun ξ57 => ?_
         replace hm := jn_elim hm; obtain ⟨k59, hk60, hm⟩ := hm
         refine Wp_seqJ [68, 69, 70, 71, 72, 73, 74, 75, 76, 77, 78, 79, 80, 81, 82, 83, 84, 85, 86, 87, 88, 89, 90, 91, 92, 93, 94, 95, 96, 97, 98, 99, 100, 101, 102, 103] (fun fr w' => ∃ (v_3 : Bool) (Ebs : Ents), Ebs = [(some b1, Obj.cells [(Value.int .i64 r_.slots), (Value.slice a_r__owners r_.owners.length c_r__owners), (Value.slice a_r__costs r_.costs.length c_r__costs)].toArray 25)] ∧ fr [] [(103, (Value.bool v_3))] ∧ Step (ks [(some b1, Obj.cells [(Value.int .i64 r_.slots), (Value.slice a_r__owners r_.owners.length c_r__owners), (Value.slice a_r__costs r_.costs.length c_r__costs)].toArray 25)] O) w50 (ks Ebs O) w' ∧ St ⟨w, [], []⟩ O w' Ebs ∧ k59 v_3 = some x) ?_ ?_
         ·
          rintro ρ66 w62 ⟨v_3, Ebs, hEbs, hfr65, hst64, hs63, hm⟩
          replace hm := jnE1 hk60 hm
          subst hEbs; rw [hfr65.eq]; clear hfr65
          replace f_r__owners := f_r__owners.step hst64; replace f_r__costs := f_r__costs.step hst64; replace ch30 := ch30.trans hst64; replace ch55 := ch55.trans hst64; clear hst64 hs51
          refine Wp_cond rfl (fun hc67 => ?_) (fun hc67 => ?_)
          ·
           replace hm := bif_t hm hc67
           refine Wp_seq ?_
           refine Wp_region ?_
           refine Rg_op rfl (op_assign (v := (Value.bool false)) rfl ?_)
           refine Rg_nil ?_
           refine Wp_ret ?_
           have hz := step_all hs63
           replace f_r__owners := f_r__owners.step hz; replace f_r__costs := f_r__costs.step hz
           refine ⟨_, (show Closes [] _ _ from rfl), [(Value.bool false)], ⟨rfl, trivial⟩, hs63.ext, ?_⟩
           exact Vr.eq (a := vB) (x := false) rfl (Option.some.inj hm)
          ·
           replace hm := bif_f hm hc67
           refine Wp_skip ?_
           refine Wp_region ?_
           refine Rg_op rfl (op_move (v := (Value.int .i64 k_1)) rfl ?_)
           refine Rg_op rfl (op_addw rfl rfl ?_)
           refine Rg_op rfl (op_assign (v := (Value.int .i64 (IntKind.wrap .i64 (k_1 + 1)))) rfl ?_)
           refine Rg_nil ?_
           exact hK48 _ _ ⟨(IntKind.wrap .i64 (k_1 + 1)), _, rfl, ⟨(by repeat (first | with_reducible exact Out.refl _ _ | refine Out.upd ?_ rfl | refine Out.updL ?_ rfl | refine Out.mix' ?_ rfl | exact Out.refl _ _)), rfl, rfl, trivial⟩, ch55, hs63, (inK_wrap .i64 _), jnE1 hsf47 hm⟩
         ·
          intro K61 hK61
          have ch68 := Step.refl (ks [(some b1, Obj.cells [(Value.int .i64 r_.slots), (Value.slice a_r__owners r_.owners.length c_r__owners), (Value.slice a_r__costs r_.costs.length c_r__costs)].toArray 25)] O) w50
          refine Wp_region ?_
          refine Rg_op rfl (op_fieldAddr ty25 rfl ty23 (by decide) rfl (rfl : _ = (⟨_, 2, none⟩ : Addr)) ?_)
          refine Rg_op rfl (op_load (cs := [(Value.int .i64 r_.slots), (Value.slice a_r__owners r_.owners.length c_r__owners), (Value.slice a_r__costs r_.costs.length c_r__costs)]) (i := 0) ty23 hs51 rfl rfl rfl ?_)
          refine Rg_op rfl (op_move (v := (Value.int .i64 i_1)) rfl ?_)
          replace hm := ck_some hm; obtain ⟨hc69, hm⟩ := hm
          refine Rg_op rfl (op_indexAddr (q := (rSl (rInt .i64))) ty23 ty22 rfl rfl f_r__costs rfl hc69.1 hc69.2 ?_)
          intro p70 f71
          refine Rg_op rfl (op_loadP ty22 rfl f71 rfl ?_)
          intro v72 h73
          obtain ⟨a_y74, c_y74, rfl, f_y74⟩ := un_sl h73
          refine Rg_op rfl (op_move (v := (Value.int .i64 k_1)) rfl ?_)
          replace hm := ck_some hm; obtain ⟨hc75, hm⟩ := hm
          refine Rg_op rfl (op_indexAddr (q := (rInt .i64)) ty22 ty3 rfl rfl f_y74 rfl hc75.1 hc75.2 ?_)
          intro p76 f77
          refine Rg_op rfl (op_loadP ty3 rfl f77 rfl ?_)
          intro v78 h79
          obtain ⟨rfl, r_y80⟩ := un_int h79
          refine Rg_op rfl (op_lss rfl rfl ?_)
          refine Rg_op rfl (op_move (v := (Value.bool (decide (((r_.costs.getD i_1.toNat default).getD k_1.toNat default) < (-1))))) rfl ?_)
          refine Rg_case (fun hg81 => ?_) (fun hg81 => ?_)
          ·
           replace hm := bif_t hm hg81
           iterate 9 refine Rg_opx rfl (asB_ne rfl rfl) rfl ?_
           refine Rg_op rfl (op_pick_t (v := (Value.bool true)) rfl rfl ?_)
           refine Rg_op rfl (op_move (v := (Value.bool true)) rfl ?_)
           iterate 14 refine Rg_opx rfl (asB_ne rfl rfl) rfl ?_
           refine Rg_op rfl (op_pick_t (v := (Value.bool true)) rfl rfl ?_)
           refine Rg_nil ?_
           exact hK61 _ _ ⟨true, _, rfl, ⟨(by repeat (first | with_reducible exact Out.refl _ _ | refine Out.upd ?_ rfl | refine Out.updL ?_ rfl | refine Out.mix' ?_ rfl | exact Out.refl _ _)), rfl, rfl, trivial⟩, ch68, hs51, hm⟩
          ·
           replace hm := bif_f hm hg81
           refine Rg_opg rfl rfl rfl (op_fieldAddr ty25 rfl ty23 (by decide) rfl (rfl : _ = (⟨_, 2, none⟩ : Addr)) ?_)
           refine Rg_opg rfl rfl rfl (op_load (cs := [(Value.int .i64 r_.slots), (Value.slice a_r__owners r_.owners.length c_r__owners), (Value.slice a_r__costs r_.costs.length c_r__costs)]) (i := 0) ty23 hs51 rfl rfl rfl ?_)
           refine Rg_opg rfl rfl rfl (op_move (v := (Value.int .i64 i_1)) rfl ?_)
           replace hm := ck_some hm; obtain ⟨hc82, hm⟩ := hm
           refine Rg_opg rfl rfl rfl (op_indexAddr (q := (rSl (rInt .i64))) ty23 ty22 rfl rfl f_r__costs rfl hc82.1 hc82.2 ?_)
           intro p83 f84
           refine Rg_opg rfl rfl rfl (op_loadP ty22 rfl f84 rfl ?_)
           intro v85 h86
           obtain ⟨a_y87, c_y87, rfl, f_y87⟩ := un_sl h86
           refine Rg_opg rfl rfl rfl (op_move (v := (Value.int .i64 k_1)) rfl ?_)
           replace hm := ck_some hm; obtain ⟨hc88, hm⟩ := hm
           refine Rg_opg rfl rfl rfl (op_indexAddr (q := (rInt .i64)) ty22 ty3 rfl rfl f_y87 rfl hc88.1 hc88.2 ?_)
           intro p89 f90
           refine Rg_opg rfl rfl rfl (op_loadP ty3 rfl f90 rfl ?_)
           intro v91 h92
           obtain ⟨rfl, r_y93⟩ := un_int h92
           refine Rg_opg rfl rfl rfl (op_gtr rfl rfl ?_)
           refine Rg_op rfl (op_pick_f (v := (Value.bool (decide (1048576 < ((r_.costs.getD i_1.toNat default).getD k_1.toNat default))))) rfl rfl ?_)
           refine Rg_op rfl (op_move (v := (Value.bool (decide (1048576 < ((r_.costs.getD i_1.toNat default).getD k_1.toNat default))))) rfl ?_)
           refine Rg_case (fun hg94 => ?_) (fun hg94 => ?_)
           ·
            replace hm := bif_t hm hg94
            iterate 14 refine Rg_opx rfl (asB_ne rfl rfl) rfl ?_
            refine Rg_op rfl (op_pick_t (v := (Value.bool true)) rfl rfl ?_)
            refine Rg_nil ?_
            exact hK61 _ _ ⟨true, _, rfl, ⟨(by repeat (first | with_reducible exact Out.refl _ _ | refine Out.upd ?_ rfl | refine Out.updL ?_ rfl | refine Out.mix' ?_ rfl | exact Out.refl _ _)), rfl, rfl, trivial⟩, ch68, hs51, hm⟩
           ·
            replace hm := bif_f hm hg94
            refine Rg_opg rfl rfl rfl (op_move (v := (Value.int .i64 k_1)) rfl ?_)
            refine Rg_opg rfl rfl rfl (op_move (v := (Value.int .i64 i_1)) rfl ?_)
            refine Rg_opg rfl rfl rfl (op_eql rfl rfl ?_)
            refine Rg_opg rfl rfl rfl (op_move (v := (Value.bool (decide (k_1 = i_1)))) rfl ?_)
            refine Rg_case (fun hg95 => ?_) (fun hg95 => ?_)
            ·
             replace hm := bif_t hm hg95
             refine Rg_opg rfl rfl rfl (op_fieldAddr ty25 rfl ty23 (by decide) rfl (rfl : _ = (⟨_, 2, none⟩ : Addr)) ?_)
             refine Rg_opg rfl rfl rfl (op_load (cs := [(Value.int .i64 r_.slots), (Value.slice a_r__owners r_.owners.length c_r__owners), (Value.slice a_r__costs r_.costs.length c_r__costs)]) (i := 0) ty23 hs51 rfl rfl rfl ?_)
             refine Rg_opg rfl rfl rfl (op_move (v := (Value.int .i64 i_1)) rfl ?_)
             replace hm := ck_some hm; obtain ⟨hc96, hm⟩ := hm
             refine Rg_opg rfl rfl rfl (op_indexAddr (q := (rSl (rInt .i64))) ty23 ty22 rfl rfl f_r__costs rfl hc96.1 hc96.2 ?_)
             intro p97 f98
             refine Rg_opg rfl rfl rfl (op_loadP ty22 rfl f98 rfl ?_)
             intro v99 h100
             obtain ⟨a_y101, c_y101, rfl, f_y101⟩ := un_sl h100
             refine Rg_opg rfl rfl rfl (op_move (v := (Value.int .i64 k_1)) rfl ?_)
             replace hm := ck_some hm; obtain ⟨hc102, hm⟩ := hm
             refine Rg_opg rfl rfl rfl (op_indexAddr (q := (rInt .i64)) ty22 ty3 rfl rfl f_y101 rfl hc102.1 hc102.2 ?_)
             intro p103 f104
             refine Rg_opg rfl rfl rfl (op_loadP ty3 rfl f104 rfl ?_)
             intro v105 h106
             obtain ⟨rfl, r_y107⟩ := un_int h106
             refine Rg_opg rfl rfl rfl (op_lss rfl rfl ?_)
             refine Rg_opg rfl rfl rfl (op_pick_t (v := (Value.bool (decide (((r_.costs.getD i_1.toNat default).getD k_1.toNat default) < 0)))) rfl rfl ?_)
             refine Rg_op rfl (op_pick_f (v := (Value.bool (decide (((r_.costs.getD i_1.toNat default).getD k_1.toNat default) < 0)))) rfl rfl ?_)
             refine Rg_nil ?_
             exact hK61 _ _ ⟨(decide (((r_.costs.getD i_1.toNat default).getD k_1.toNat default) < 0)), _, rfl, ⟨(by repeat (first | with_reducible exact Out.refl _ _ | refine Out.upd ?_ rfl | refine Out.updL ?_ rfl | refine Out.mix' ?_ rfl | exact Out.refl _ _)), rfl, rfl, trivial⟩, ch68, hs51, hm⟩
            ·
             replace hm := bif_f hm hg95
             iterate 9 refine Rg_opx rfl (asB_ne rfl rfl) rfl ?_
             refine Rg_opg rfl rfl rfl (op_pick_f (v := (Value.bool false)) rfl rfl ?_)
             refine Rg_op rfl (op_pick_f (v := (Value.bool false)) rfl rfl ?_)
             refine Rg_nil ?_
             exact hK61 _ _ ⟨false, _, rfl, ⟨(by repeat (first | with_reducible exact Out.refl _ _ | refine Out.upd ?_ rfl | refine Out.updL ?_ rfl | refine Out.mix' ?_ rfl | exact Out.refl _ _)), rfl, rfl, trivial⟩, ch68, hs51, hm⟩
        ·
         replace hm := bif_f hm hc56
         refine Wp_exit ?_
         refine Wp_region ?_
         refine Rg_op rfl (op_move (v := (Value.int .i64 i_1)) rfl ?_)
         refine Rg_op rfl (op_addw rfl rfl ?_)
         refine Rg_op rfl (op_assign (v := (Value.int .i64 (IntKind.wrap .i64 (i_1 + 1)))) rfl ?_)
         refine Rg_nil ?_
         exact hK23 _ _ ⟨(IntKind.wrap .i64 (i_1 + 1)), _, rfl, ⟨(by repeat (first | with_reducible exact Out.refl _ _ | refine Out.upd ?_ rfl | refine Out.updL ?_ rfl | refine Out.mix' ?_ rfl | exact Out.refl _ _)), rfl, rfl, trivial⟩, ch30, hs51, (inK_wrap .i64 _), jnE1 hsf22 hm⟩
     ·
      intro K37 hK37
      have ch108 := Step.refl (ks [(some b1, Obj.cells [(Value.int .i64 r_.slots), (Value.slice a_r__owners r_.owners.length c_r__owners), (Value.slice a_r__costs r_.costs.length c_r__costs)].toArray 25)] O) w25
      refine Wp_drawR (g0 := []) (m := 23) (fl := []) (TS_inv hs26) rfl (.inl rfl) rfl (by decide +kernel) ?_  -- 6
      refine Dw_eq (Value.pointer (some ⟨b1, 1, none⟩)) (fun ρ109 w110 g hle hi ht => ?_) ?_
      ·
       obtain ⟨-, hst, -⟩ := hle
       refine StepOp_plain (op_fieldAddr ty25 rfl ty22 (by decide) (ht 1 rfl) (rfl : _ = (⟨_, 1, none⟩ : Addr)) ?_)
       exact Goes.same hi rfl
      refine Dw_eq (Value.slice a_r__owners r_.owners.length c_r__owners) (fun ρ112 w113 g hle hi ht => ?_) ?_
      ·
       obtain ⟨-, hst, -⟩ := hle
       have hsn := (Step.nx hi).1
       refine StepOp_plain (op_load (cs := [(Value.int .i64 r_.slots), (Value.slice a_r__owners r_.owners.length c_r__owners), (Value.slice a_r__costs r_.costs.length c_r__costs)]) (i := 0) ty22 hsn (ht 37 rfl) rfl rfl ?_)
       exact Goes.same hi rfl
      refine Dw_eq (Value.int .i64 i_1) (fun ρ115 w116 g hle hi ht => ?_) ?_
      ·
       obtain ⟨-, hst, -⟩ := hle
       refine StepOp_plain (op_move (v := (Value.int .i64 i_1)) (ht 3 rfl) ?_)
       exact Goes.same hi rfl
      replace hm := ck_some hm; obtain ⟨hc121, hm⟩ := hm
      refine Dw_op (VP O [(some b1, Obj.cells [(Value.int .i64 r_.slots), (Value.slice a_r__owners r_.owners.length c_r__owners), (Value.slice a_r__costs r_.costs.length c_r__costs)].toArray 25)] (rInt .i64) (r_.owners.getD i_1.toNat default)) (VP.stab _ _) (fun ρ118 w119 g hle hi ht => ?_) ?_
      ·
       obtain ⟨-, hst, -⟩ := hle
       replace f_r__owners := f_r__owners.step hst
       refine StepOp_plain (op_indexAddr (q := (rInt .i64)) ty22 ty3 (ht 38 rfl) (ht 39 rfl) f_r__owners rfl hc121.1 hc121.2 ?_)
       intro p122 f123
       exact Goes.same hi ⟨_, rfl, f123⟩
      refine Dw_op (VD O [(some b1, Obj.cells [(Value.int .i64 r_.slots), (Value.slice a_r__owners r_.owners.length c_r__owners), (Value.slice a_r__costs r_.costs.length c_r__costs)].toArray 25)] (vI .i64) (r_.owners.getD i_1.toNat default)) (VD.stab _ _) (fun ρ124 w125 g hle hi ht => ?_) ?_
      ·
       obtain ⟨-, hst, -⟩ := hle
       obtain ⟨p127, q128, f129⟩ := ht 40 rfl
       refine StepOp_plain (op_loadP ty3 q128 f129 rfl ?_)
       intro v130 h131
       obtain ⟨rfl, r_y132⟩ := un_int h131
       exact Goes.same hi (show Vr.vd (vI .i64) _ _ _ _ from ⟨rfl, r_y132⟩)
      refine Dw_eq (Value.bool (decide ((r_.owners.getD i_1.toNat default) < 0))) (fun ρ133 w134 g hle hi ht => ?_) ?_
      ·
       obtain ⟨-, hst, -⟩ := hle
       have h136 : Vr.vd (vI .i64) _ _ _ _ := ht 41 rfl
       obtain ⟨q137, r_y138⟩ := h136
       refine StepOp_plain (op_lss q137 rfl ?_)
       exact Goes.same hi rfl
      refine Dw_opB (decide ((r_.owners.getD i_1.toNat default) < 0)) (fun ρ139 w140 g hle hi ht => ?_) (fun hg142 => ?_) (fun hg142 => ?_)
      ·
       obtain ⟨-, hst, -⟩ := hle
       refine StepOp_plain (op_move (v := (Value.bool (decide ((r_.owners.getD i_1.toNat default) < 0)))) (ht 42 rfl) ?_)
       exact Goes.same hi rfl
      ·
       replace hm := bif_t hm hg142
       refine Dw_skip (fun _ _ _ ht => wanted_x rfl (ht 43 rfl) rfl) ?_
       refine Dw_skip (fun _ _ _ ht => wanted_x rfl (ht 43 rfl) rfl) ?_
       refine Dw_skip (fun _ _ _ ht => wanted_x rfl (ht 43 rfl) rfl) ?_
       refine Dw_skip (fun _ _ _ ht => wanted_x rfl (ht 43 rfl) rfl) ?_
       refine Dw_skip (fun _ _ _ ht => wanted_x rfl (ht 43 rfl) rfl) ?_
       refine Dw_skip (fun _ _ _ ht => wanted_x rfl (ht 43 rfl) rfl) ?_
       refine Dw_eq (Value.bool true) (fun ρ143 w144 g hle hi ht => ?_) ?_
       ·
        obtain ⟨-, hst, -⟩ := hle
        refine StepOp_plain (op_pick_t (v := (Value.bool true)) (ht 43 rfl) rfl ?_)
        exact Goes.same hi rfl
       refine Dw_eq (Value.bool true) (fun ρ146 w147 g hle hi ht => ?_) ?_
       ·
        obtain ⟨-, hst, -⟩ := hle
        refine StepOp_plain (op_move (v := (Value.bool true)) (ht 50 rfl) ?_)
        exact Goes.same hi rfl
       refine Dw_skip (fun _ _ _ ht => wanted_x rfl (ht 51 rfl) rfl) ?_
       refine Dw_skip (fun _ _ _ ht => wanted_x rfl (ht 51 rfl) rfl) ?_
       refine Dw_skip (fun _ _ _ ht => wanted_x rfl (ht 51 rfl) rfl) ?_
       refine Dw_skip (fun _ _ _ ht => wanted_x rfl (ht 51 rfl) rfl) ?_
       refine Dw_skip (fun _ _ _ ht => wanted_x rfl (ht 51 rfl) rfl) ?_
       refine Dw_skip (fun _ _ _ ht => wanted_x rfl (ht 51 rfl) rfl) ?_
       refine Dw_skip (fun _ _ _ ht => wanted_x rfl (ht 51 rfl) rfl) ?_
       refine Dw_skip (fun _ _ _ ht => wanted_x rfl (ht 51 rfl) rfl) ?_
       refine Dw_nil fun w153 g154 hl155 hi156 => ?_
       obtain ⟨-, hst157, -⟩ := hl155
       obtain ⟨hs159, p158⟩ := Step.nx hi156
       rintro _ rfl
       rintro _ rfl
       rintro _ rfl
       rintro _ rfl
       rintro _ rfl
       rintro _ rfl
       rintro _ rfl
       rintro _ rfl
       rintro _ rfl
       rintro _ rfl
       rintro _ rfl
       rintro _ rfl
       rintro _ rfl
       rintro _ rfl
       rintro _ rfl
       rintro _ rfl
       rintro _ rfl
       rintro _ rfl
       rintro v160 h161
       replace h161 : Vr.vd (vI .i64) _ _ _ _ := h161
       obtain ⟨rfl, r_y162⟩ := h161
       rintro _ ⟨p163, rfl, f164⟩
       rintro _ rfl
       rintro _ rfl
       rintro _ rfl
       have p165 : Step (ks [(some b1, Obj.cells [(Value.int .i64 r_.slots), (Value.slice a_r__owners r_.owners.length c_r__owners), (Value.slice a_r__costs r_.costs.length c_r__costs)].toArray 25)] O) w25 (ks [(some b1, Obj.cells [(Value.int .i64 r_.slots), (Value.slice a_r__owners r_.owners.length c_r__owners), (Value.slice a_r__costs r_.costs.length c_r__costs)].toArray 25)] O) w153 := hst157.trans p158
       replace f164 := f164.step p158; replace f_r__owners := f_r__owners.step p165; replace f_r__costs := f_r__costs.step p165; replace ch30 := ch30.trans p165; replace ch108 := ch108.trans p165; clear p165 hs26
       refine Rg_opx rfl (asB_ne rfl rfl) rfl ?_
       refine Rg_op rfl (op_pick_t (v := (Value.bool true)) rfl rfl ?_)
       refine Rg_nil ?_
       exact hK37 _ _ ⟨true, _, rfl, ⟨(by repeat (first | with_reducible exact Out.refl _ _ | refine Out.upd ?_ rfl | refine Out.updL ?_ rfl | refine Out.mix' ?_ rfl | exact Out.refl _ _)), rfl, rfl, trivial⟩, ch108, hs159, hm⟩
      ·
       replace hm := bif_f hm hg142
       refine Dw_eq (Value.pointer (some ⟨b1, 1, none⟩)) (fun ρ166 w167 g hle hi ht => ?_) ?_
       ·
        obtain ⟨-, hst, -⟩ := hle
        refine StepOp_g rfl (ht 43 rfl) (op_fieldAddr ty25 rfl ty22 (by decide) (ht 1 rfl) (rfl : _ = (⟨_, 1, none⟩ : Addr)) ?_)
        exact Goes.same hi rfl
       refine Dw_eq (Value.slice a_r__owners r_.owners.length c_r__owners) (fun ρ169 w170 g hle hi ht => ?_) ?_
       ·
        obtain ⟨-, hst, -⟩ := hle
        have hsn := (Step.nx hi).1
        refine StepOp_g rfl (ht 43 rfl) (op_load (cs := [(Value.int .i64 r_.slots), (Value.slice a_r__owners r_.owners.length c_r__owners), (Value.slice a_r__costs r_.costs.length c_r__costs)]) (i := 0) ty22 hsn (ht 44 rfl) rfl rfl ?_)
        exact Goes.same hi rfl
       refine Dw_eq (Value.int .i64 i_1) (fun ρ172 w173 g hle hi ht => ?_) ?_
       ·
        obtain ⟨-, hst, -⟩ := hle
        refine StepOp_g rfl (ht 43 rfl) (op_move (v := (Value.int .i64 i_1)) (ht 3 rfl) ?_)
        exact Goes.same hi rfl
       replace hm := ck_some hm; obtain ⟨hc178, hm⟩ := hm
       refine Dw_op (VP O [(some b1, Obj.cells [(Value.int .i64 r_.slots), (Value.slice a_r__owners r_.owners.length c_r__owners), (Value.slice a_r__costs r_.costs.length c_r__costs)].toArray 25)] (rInt .i64) (r_.owners.getD i_1.toNat default)) (VP.stab _ _) (fun ρ175 w176 g hle hi ht => ?_) ?_
       ·
        obtain ⟨-, hst, -⟩ := hle
        replace f_r__owners := f_r__owners.step hst
        refine StepOp_g rfl (ht 43 rfl) (op_indexAddr (q := (rInt .i64)) ty22 ty3 (ht 45 rfl) (ht 46 rfl) f_r__owners rfl hc178.1 hc178.2 ?_)
        intro p179 f180
        exact Goes.same hi ⟨_, rfl, f180⟩
       refine Dw_op (VD O [(some b1, Obj.cells [(Value.int .i64 r_.slots), (Value.slice a_r__owners r_.owners.length c_r__owners), (Value.slice a_r__costs r_.costs.length c_r__costs)].toArray 25)] (vI .i64) (r_.owners.getD i_1.toNat default)) (VD.stab _ _) (fun ρ181 w182 g hle hi ht => ?_) ?_
       ·
        obtain ⟨-, hst, -⟩ := hle
        obtain ⟨p184, q185, f186⟩ := ht 47 rfl
        refine StepOp_g rfl (ht 43 rfl) (op_loadP ty3 q185 f186 rfl ?_)
        intro v187 h188
        obtain ⟨rfl, r_y189⟩ := un_int h188
        exact Goes.same hi (show Vr.vd (vI .i64) _ _ _ _ from ⟨rfl, r_y189⟩)
       refine Dw_eq (Value.bool (decide (8 ≤ (r_.owners.getD i_1.toNat default)))) (fun ρ190 w191 g hle hi ht => ?_) ?_
       ·
        obtain ⟨-, hst, -⟩ := hle
        have h193 : Vr.vd (vI .i64) _ _ _ _ := ht 48 rfl
        obtain ⟨q194, r_y195⟩ := h193
        refine StepOp_g rfl (ht 43 rfl) (op_geq q194 rfl ?_)
        exact Goes.same hi rfl
       refine Dw_eq (Value.bool (decide (8 ≤ (r_.owners.getD i_1.toNat default)))) (fun ρ196 w197 g hle hi ht => ?_) ?_
       ·
        obtain ⟨-, hst, -⟩ := hle
        refine StepOp_plain (op_pick_f (v := (Value.bool (decide (8 ≤ (r_.owners.getD i_1.toNat default))))) (ht 43 rfl) (ht 49 rfl) ?_)
        exact Goes.same hi rfl
       refine Dw_opB (decide (8 ≤ (r_.owners.getD i_1.toNat default))) (fun ρ199 w200 g hle hi ht => ?_) (fun hg202 => ?_) (fun hg202 => ?_)
       ·
        obtain ⟨-, hst, -⟩ := hle
        refine StepOp_plain (op_move (v := (Value.bool (decide (8 ≤ (r_.owners.getD i_1.toNat default))))) (ht 50 rfl) ?_)
        exact Goes.same hi rfl
       ·
        replace hm := bif_t hm hg202
        refine Dw_skip (fun _ _ _ ht => wanted_x rfl (ht 51 rfl) rfl) ?_
        refine Dw_skip (fun _ _ _ ht => wanted_x rfl (ht 51 rfl) rfl) ?_
        refine Dw_skip (fun _ _ _ ht => wanted_x rfl (ht 51 rfl) rfl) ?_
        refine Dw_skip (fun _ _ _ ht => wanted_x rfl (ht 51 rfl) rfl) ?_
        refine Dw_skip (fun _ _ _ ht => wanted_x rfl (ht 51 rfl) rfl) ?_
        refine Dw_skip (fun _ _ _ ht => wanted_x rfl (ht 51 rfl) rfl) ?_
        refine Dw_skip (fun _ _ _ ht => wanted_x rfl (ht 51 rfl) rfl) ?_
        refine Dw_skip (fun _ _ _ ht => wanted_x rfl (ht 51 rfl) rfl) ?_
        refine Dw_nil fun w207 g208 hl209 hi210 => ?_
        obtain ⟨-, hst211, -⟩ := hl209
        obtain ⟨hs213, p212⟩ := Step.nx hi210
        rintro _ rfl
        rintro _ rfl
        rintro _ rfl
        rintro _ rfl
        rintro _ rfl
        rintro _ rfl
        rintro _ rfl
        rintro _ rfl
        rintro _ rfl
        rintro _ rfl
        rintro _ rfl
        rintro v214 h215
        replace h215 : Vr.vd (vI .i64) _ _ _ _ := h215
        obtain ⟨rfl, r_y216⟩ := h215
        rintro _ ⟨p217, rfl, f218⟩
        rintro _ rfl
        rintro _ rfl
        rintro _ rfl
        rintro _ rfl
        rintro _ rfl
        rintro v219 h220
        replace h220 : Vr.vd (vI .i64) _ _ _ _ := h220
        obtain ⟨rfl, r_y221⟩ := h220
        rintro _ ⟨p222, rfl, f223⟩
        rintro _ rfl
        rintro _ rfl
        rintro _ rfl
        have p224 : Step (ks [(some b1, Obj.cells [(Value.int .i64 r_.slots), (Value.slice a_r__owners r_.owners.length c_r__owners), (Value.slice a_r__costs r_.costs.length c_r__costs)].toArray 25)] O) w25 (ks [(some b1, Obj.cells [(Value.int .i64 r_.slots), (Value.slice a_r__owners r_.owners.length c_r__owners), (Value.slice a_r__costs r_.costs.length c_r__costs)].toArray 25)] O) w207 := hst211.trans p212
        replace f218 := f218.step p212; replace f223 := f223.step p212; replace f_r__owners := f_r__owners.step p224; replace f_r__costs := f_r__costs.step p224; replace ch30 := ch30.trans p224; replace ch108 := ch108.trans p224; clear p224 hs26
        refine Rg_opx rfl (asB_ne rfl rfl) rfl ?_
        refine Rg_op rfl (op_pick_t (v := (Value.bool true)) rfl rfl ?_)
        refine Rg_nil ?_
        exact hK37 _ _ ⟨true, _, rfl, ⟨(by repeat (first | with_reducible exact Out.refl _ _ | refine Out.upd ?_ rfl | refine Out.updL ?_ rfl | refine Out.mix' ?_ rfl | exact Out.refl _ _)), rfl, rfl, trivial⟩, ch108, hs213, hm⟩
       ·
        replace hm := bif_f hm hg202
        refine Dw_eq (Value.pointer (some ⟨b1, 2, none⟩)) (fun ρ225 w226 g hle hi ht => ?_) ?_
        ·
         obtain ⟨-, hst, -⟩ := hle
         refine StepOp_g rfl (ht 51 rfl) (op_fieldAddr ty25 rfl ty23 (by decide) (ht 1 rfl) (rfl : _ = (⟨_, 2, none⟩ : Addr)) ?_)
         exact Goes.same hi rfl
        refine Dw_eq (Value.slice a_r__costs r_.costs.length c_r__costs) (fun ρ228 w229 g hle hi ht => ?_) ?_
        ·
         obtain ⟨-, hst, -⟩ := hle
         have hsn := (Step.nx hi).1
         refine StepOp_g rfl (ht 51 rfl) (op_load (cs := [(Value.int .i64 r_.slots), (Value.slice a_r__owners r_.owners.length c_r__owners), (Value.slice a_r__costs r_.costs.length c_r__costs)]) (i := 0) ty23 hsn (ht 52 rfl) rfl rfl ?_)
         exact Goes.same hi rfl
        refine Dw_eq (Value.int .i64 i_1) (fun ρ231 w232 g hle hi ht => ?_) ?_
        ·
         obtain ⟨-, hst, -⟩ := hle
         refine StepOp_g rfl (ht 51 rfl) (op_move (v := (Value.int .i64 i_1)) (ht 3 rfl) ?_)
         exact Goes.same hi rfl
        replace hm := ck_some hm; obtain ⟨hc237, hm⟩ := hm
        refine Dw_op (VP O [(some b1, Obj.cells [(Value.int .i64 r_.slots), (Value.slice a_r__owners r_.owners.length c_r__owners), (Value.slice a_r__costs r_.costs.length c_r__costs)].toArray 25)] (rSl (rInt .i64)) (r_.costs.getD i_1.toNat default)) (VP.stab _ _) (fun ρ234 w235 g hle hi ht => ?_) ?_
        ·
         obtain ⟨-, hst, -⟩ := hle
         replace f_r__costs := f_r__costs.step hst
         refine StepOp_g rfl (ht 51 rfl) (op_indexAddr (q := (rSl (rInt .i64))) ty23 ty22 (ht 53 rfl) (ht 54 rfl) f_r__costs rfl hc237.1 hc237.2 ?_)
         intro p238 f239
         exact Goes.same hi ⟨_, rfl, f239⟩
        refine Dw_op (VD O [(some b1, Obj.cells [(Value.int .i64 r_.slots), (Value.slice a_r__owners r_.owners.length c_r__owners), (Value.slice a_r__costs r_.costs.length c_r__costs)].toArray 25)] (vC (rSl (rInt .i64))) (r_.costs.getD i_1.toNat default)) (VD.stab _ _) (fun ρ240 w241 g hle hi ht => ?_) ?_
        ·
         obtain ⟨-, hst, -⟩ := hle
         obtain ⟨p243, q244, f245⟩ := ht 55 rfl
         refine StepOp_g rfl (ht 51 rfl) (op_loadP ty22 q244 f245 rfl ?_)
         intro v246 h247
         obtain ⟨a_y248, c_y248, rfl, f_y248⟩ := un_sl h247
         exact Goes.same hi (show Vr.vd (vC (rSl (rInt .i64))) _ _ _ _ from (mkC (mk_sl f_y248)))
        refine Dw_op (VD O [(some b1, Obj.cells [(Value.int .i64 r_.slots), (Value.slice a_r__owners r_.owners.length c_r__owners), (Value.slice a_r__costs r_.costs.length c_r__costs)].toArray 25)] (vI .i64) ((r_.costs.getD i_1.toNat default).length : Int)) (VD.stab _ _) (fun ρ249 w250 g hle hi ht => ?_) ?_
        ·
         obtain ⟨-, hst, -⟩ := hle
         have h252 : Vr.vd (vC (rSl (rInt .i64))) _ _ _ _ := ht 56 rfl
         obtain ⟨a_y254, c_y254, q253, f_y254⟩ := un_sl h252
         refine StepOp_g rfl (ht 51 rfl) (op_len Try.underlying22 q253 ?_)
         exact Goes.same hi (show Vr.vd (vI .i64) _ _ _ _ from ⟨rfl, (inK_len f_y254)⟩)
        refine Dw_eq (Value.pointer (some ⟨b1, 0, none⟩)) (fun ρ255 w256 g hle hi ht => ?_) ?_
        ·
         obtain ⟨-, hst, -⟩ := hle
         refine StepOp_g rfl (ht 51 rfl) (op_fieldAddr ty25 rfl ty3 (by decide) (ht 1 rfl) (rfl : _ = (⟨_, 0, none⟩ : Addr)) ?_)
         exact Goes.same hi rfl
        refine Dw_eq (Value.int .i64 r_.slots) (fun ρ258 w259 g hle hi ht => ?_) ?_
        ·
         obtain ⟨-, hst, -⟩ := hle
         have hsn := (Step.nx hi).1
         refine StepOp_g rfl (ht 51 rfl) (op_load (cs := [(Value.int .i64 r_.slots), (Value.slice a_r__owners r_.owners.length c_r__owners), (Value.slice a_r__costs r_.costs.length c_r__costs)]) (i := 0) ty3 hsn (ht 58 rfl) rfl rfl ?_)
         exact Goes.same hi rfl
        refine Dw_nil fun w265 g266 hl267 hi268 => ?_
        obtain ⟨-, hst269, -⟩ := hl267
        obtain ⟨hs271, p270⟩ := Step.nx hi268
        rintro _ rfl
        rintro _ rfl
        rintro v272 h273
        replace h273 : Vr.vd (vI .i64) _ _ _ _ := h273
        obtain ⟨rfl, r_y274⟩ := h273
        rintro v275 h276
        replace h276 : Vr.vd (vC (rSl (rInt .i64))) _ _ _ _ := h276
        obtain ⟨a_y277, c_y277, rfl, f_y277⟩ := un_sl h276
        rintro _ ⟨p278, rfl, f279⟩
        rintro _ rfl
        rintro _ rfl
        rintro _ rfl
        rintro _ rfl
        rintro _ rfl
        rintro _ rfl
        rintro v280 h281
        replace h281 : Vr.vd (vI .i64) _ _ _ _ := h281
        obtain ⟨rfl, r_y282⟩ := h281
        rintro _ ⟨p283, rfl, f284⟩
        rintro _ rfl
        rintro _ rfl
        rintro _ rfl
        rintro _ rfl
        rintro _ rfl
        rintro v285 h286
        replace h286 : Vr.vd (vI .i64) _ _ _ _ := h286
        obtain ⟨rfl, r_y287⟩ := h286
        rintro _ ⟨p288, rfl, f289⟩
        rintro _ rfl
        rintro _ rfl
        rintro _ rfl
        have p290 : Step (ks [(some b1, Obj.cells [(Value.int .i64 r_.slots), (Value.slice a_r__owners r_.owners.length c_r__owners), (Value.slice a_r__costs r_.costs.length c_r__costs)].toArray 25)] O) w25 (ks [(some b1, Obj.cells [(Value.int .i64 r_.slots), (Value.slice a_r__owners r_.owners.length c_r__owners), (Value.slice a_r__costs r_.costs.length c_r__costs)].toArray 25)] O) w265 := hst269.trans p270
        replace f_y277 := f_y277.step p270; replace f279 := f279.step p270; replace f284 := f284.step p270; replace f289 := f289.step p270; replace f_r__owners := f_r__owners.step p290; replace f_r__costs := f_r__costs.step p290; replace ch30 := ch30.trans p290; replace ch108 := ch108.trans p290; clear p290 hs26
        refine Rg_opg rfl rfl rfl (op_neq rfl rfl ?_)
        refine Rg_op rfl (op_pick_f (v := (Value.bool (decide (((r_.costs.getD i_1.toNat default).length : Int) ≠ r_.slots)))) rfl rfl ?_)
        refine Rg_nil ?_
        exact hK37 _ _ ⟨(decide (((r_.costs.getD i_1.toNat default).length : Int) ≠ r_.slots)), _, rfl, ⟨(by repeat (first | with_reducible exact Out.refl _ _ | refine Out.upd ?_ rfl | refine Out.updL ?_ rfl | refine Out.mix' ?_ rfl | exact Out.refl _ _)), rfl, rfl, trivial⟩, ch108, hs271, hm⟩
    ·
     replace hm := bif_f hm hc32
     refine Wp_exit ?_
     refine Wp_seq ?_
     obtain ⟨hs291, p292⟩ := hs26.sub (bs' := []) (.cons _ List.Sublist.slnil)
     clear f_r__owners f_r__costs
     replace ch30 := ch30.trans p292; clear p292 hs26
     refine Wp_region ?_
     refine Rg_op rfl (op_assign (v := (Value.bool true)) rfl ?_)
     refine Rg_nil ?_
     refine Wp_ret ?_
     have hz := step_all hs291
     refine ⟨_, (show Closes [] _ _ from rfl), [(Value.bool true)], ⟨rfl, trivial⟩, hs291.ext, ?_⟩
     exact Vr.eq (a := vB) (x := true) rfl (Option.some.inj hm)
 ·
  intro K10 hK10
  have ch293 := Step.refl (ks [(some b1, Obj.cells [(Value.int .i64 r_.slots), (Value.slice a_r__owners r_.owners.length c_r__owners), (Value.slice a_r__costs r_.costs.length c_r__costs)].toArray 25)] O) w2
  refine Wp_region ?_
  refine Rg_op rfl (op_fieldAddr ty25 rfl ty3 (by decide) rfl (rfl : _ = (⟨_, 0, none⟩ : Addr)) ?_)
  refine Rg_op rfl (op_load (cs := [(Value.int .i64 r_.slots), (Value.slice a_r__owners r_.owners.length c_r__owners), (Value.slice a_r__costs r_.costs.length c_r__costs)]) (i := 0) ty3 hs4 rfl rfl rfl ?_)
  refine Rg_op rfl (op_lss rfl rfl ?_)
  refine Rg_op rfl (op_move (v := (Value.bool (decide (r_.slots < 1)))) rfl ?_)
  refine Rg_case (fun hg294 => ?_) (fun hg294 => ?_)
  ·
   replace hm := bif_t hm hg294
   iterate 3 refine Rg_opx rfl (asB_ne rfl rfl) rfl ?_
   refine Rg_op rfl (op_pick_t (v := (Value.bool true)) rfl rfl ?_)
   refine Rg_op rfl (op_move (v := (Value.bool true)) rfl ?_)
   iterate 6 refine Rg_opx rfl (asB_ne rfl rfl) rfl ?_
   refine Rg_op rfl (op_pick_t (v := (Value.bool true)) rfl rfl ?_)
   refine Rg_op rfl (op_move (v := (Value.bool true)) rfl ?_)
   iterate 7 refine Rg_opx rfl (asB_ne rfl rfl) rfl ?_
   refine Rg_op rfl (op_pick_t (v := (Value.bool true)) rfl rfl ?_)
   refine Rg_nil ?_
   exact hK10 _ _ ⟨true, _, rfl, ⟨(by repeat (first | with_reducible exact Out.refl _ _ | refine Out.upd ?_ rfl | refine Out.updL ?_ rfl | refine Out.mix' ?_ rfl | exact Out.refl _ _)), rfl, rfl, trivial⟩, ch293, hs4, hm⟩
  ·
   replace hm := bif_f hm hg294
   refine Rg_opg rfl rfl rfl (op_fieldAddr ty25 rfl ty3 (by decide) rfl (rfl : _ = (⟨_, 0, none⟩ : Addr)) ?_)
   refine Rg_opg rfl rfl rfl (op_load (cs := [(Value.int .i64 r_.slots), (Value.slice a_r__owners r_.owners.length c_r__owners), (Value.slice a_r__costs r_.costs.length c_r__costs)]) (i := 0) ty3 hs4 rfl rfl rfl ?_)
   refine Rg_opg rfl rfl rfl (op_gtr rfl rfl ?_)
   refine Rg_op rfl (op_pick_f (v := (Value.bool (decide (8 < r_.slots)))) rfl rfl ?_)
   refine Rg_op rfl (op_move (v := (Value.bool (decide (8 < r_.slots)))) rfl ?_)
   refine Rg_case (fun hg295 => ?_) (fun hg295 => ?_)
   ·
    replace hm := bif_t hm hg295
    iterate 6 refine Rg_opx rfl (asB_ne rfl rfl) rfl ?_
    refine Rg_op rfl (op_pick_t (v := (Value.bool true)) rfl rfl ?_)
    refine Rg_op rfl (op_move (v := (Value.bool true)) rfl ?_)
    iterate 7 refine Rg_opx rfl (asB_ne rfl rfl) rfl ?_
    refine Rg_op rfl (op_pick_t (v := (Value.bool true)) rfl rfl ?_)
    refine Rg_nil ?_
    exact hK10 _ _ ⟨true, _, rfl, ⟨(by repeat (first | with_reducible exact Out.refl _ _ | refine Out.upd ?_ rfl | refine Out.updL ?_ rfl | refine Out.mix' ?_ rfl | exact Out.refl _ _)), rfl, rfl, trivial⟩, ch293, hs4, hm⟩
   ·
    replace hm := bif_f hm hg295
    refine Rg_opg rfl rfl rfl (op_fieldAddr ty25 rfl ty22 (by decide) rfl (rfl : _ = (⟨_, 1, none⟩ : Addr)) ?_)
    refine Rg_opg rfl rfl rfl (op_load (cs := [(Value.int .i64 r_.slots), (Value.slice a_r__owners r_.owners.length c_r__owners), (Value.slice a_r__costs r_.costs.length c_r__costs)]) (i := 0) ty22 hs4 rfl rfl rfl ?_)
    refine Rg_opg rfl rfl rfl (op_len Try.underlying22 rfl ?_)
    have rl296 := inK_len f_r__owners
    refine Rg_opg rfl rfl rfl (op_fieldAddr ty25 rfl ty3 (by decide) rfl (rfl : _ = (⟨_, 0, none⟩ : Addr)) ?_)
    refine Rg_opg rfl rfl rfl (op_load (cs := [(Value.int .i64 r_.slots), (Value.slice a_r__owners r_.owners.length c_r__owners), (Value.slice a_r__costs r_.costs.length c_r__costs)]) (i := 0) ty3 hs4 rfl rfl rfl ?_)
    refine Rg_opg rfl rfl rfl (op_gtr rfl rfl ?_)
    refine Rg_op rfl (op_pick_f (v := (Value.bool (decide (r_.slots < (r_.owners.length : Int))))) rfl rfl ?_)
    refine Rg_op rfl (op_move (v := (Value.bool (decide (r_.slots < (r_.owners.length : Int))))) rfl ?_)
    refine Rg_case (fun hg297 => ?_) (fun hg297 => ?_)
    ·
     replace hm := bif_t hm hg297
     iterate 7 refine Rg_opx rfl (asB_ne rfl rfl) rfl ?_
     refine Rg_op rfl (op_pick_t (v := (Value.bool true)) rfl rfl ?_)
     refine Rg_nil ?_
     exact hK10 _ _ ⟨true, _, rfl, ⟨(by repeat (first | with_reducible exact Out.refl _ _ | refine Out.upd ?_ rfl | refine Out.updL ?_ rfl | refine Out.mix' ?_ rfl | exact Out.refl _ _)), rfl, rfl, trivial⟩, ch293, hs4, hm⟩
    ·
     replace hm := bif_f hm hg297
     refine Rg_opg rfl rfl rfl (op_fieldAddr ty25 rfl ty23 (by decide) rfl (rfl : _ = (⟨_, 2, none⟩ : Addr)) ?_)
     refine Rg_opg rfl rfl rfl (op_load (cs := [(Value.int .i64 r_.slots), (Value.slice a_r__owners r_.owners.length c_r__owners), (Value.slice a_r__costs r_.costs.length c_r__costs)]) (i := 0) ty23 hs4 rfl rfl rfl ?_)
     refine Rg_opg rfl rfl rfl (op_len Try.underlying23 rfl ?_)
     have rl298 := inK_len f_r__costs
     refine Rg_opg rfl rfl rfl (op_fieldAddr ty25 rfl ty22 (by decide) rfl (rfl : _ = (⟨_, 1, none⟩ : Addr)) ?_)
     refine Rg_opg rfl rfl rfl (op_load (cs := [(Value.int .i64 r_.slots), (Value.slice a_r__owners r_.owners.length c_r__owners), (Value.slice a_r__costs r_.costs.length c_r__costs)]) (i := 0) ty22 hs4 rfl rfl rfl ?_)
     refine Rg_opg rfl rfl rfl (op_len Try.underlying22 rfl ?_)
     have rl299 := inK_len f_r__owners
     refine Rg_opg rfl rfl rfl (op_neq rfl rfl ?_)
     refine Rg_op rfl (op_pick_f (v := (Value.bool (decide ((r_.costs.length : Int) ≠ (r_.owners.length : Int))))) rfl rfl ?_)
     refine Rg_nil ?_
     exact hK10 _ _ ⟨(decide ((r_.costs.length : Int) ≠ (r_.owners.length : Int))), _, rfl, ⟨(by repeat (first | with_reducible exact Out.refl _ _ | refine Out.upd ?_ rfl | refine Out.updL ?_ rfl | refine Out.mix' ?_ rfl | exact Out.refl _ _)), rfl, rfl, trivial⟩, ch293, hs4, hm⟩

end Go.Fx



set_option linter.unusedVariables false
set_option linter.unusedSimpArgs false
set_option maxRecDepth 100000
set_option maxHeartbeats 0
namespace Go.Fx
open Go Go.RowKit Go.Proofs
def m16_overflightref37_Few_B0 (r_ : XRound) (sf21 : Int → Option Bool) (i_1 : Int) : Option Bool :=
 bif (decide (i_1 < (r_.costs.length : Int))) then
  ck ((0 : Int) ≤ i_1 ∧ i_1 < (r_.costs.length : Int)) <|
  bif (decide (20 < ((r_.costs.getD i_1.toNat default).length : Int))) then
   some false
  else
   sf21 (IntKind.wrap .i64 (i_1 + 1))
 else
  (m38_overflightref37_Valid r_).bind fun valid_1 =>
  bif (!valid_1) then
   some true
  else
   some (decide ((r_.owners.length : Int) ≤ 5))

def m16_overflightref37_Few (r_ : XRound) : Option Bool :=
 jn (fun (v_1 : Bool) =>
  bif v_1 then
   some false
  else
   loop1 (m16_overflightref37_Few_B0 r_) (((r_.costs.length : Int) - 0).toNat + 1) 0)
 (fun k8 =>
  bif (decide (12 < (r_.owners.length : Int))) then
   k8 true
  else
   k8 (decide (12 < (r_.costs.length : Int))))

theorem c16_overflightref37_Few {w : World} {O : List Nat} {r_ : XRound} {a_r__owners : Option Addr} {c_r__owners : Nat} {a_r__costs : Option Addr} {c_r__costs : Nat} (hO : ∀ k ∈ O, k < w.heap.size) (r_r__slots : InK .i64 r_.slots) (f_r__owners : SlR (rInt .i64) w O a_r__owners c_r__owners r_.owners) (f_r__costs : SlR (rSl (rInt .i64)) w O a_r__costs c_r__costs r_.costs) {x : Bool} (hm : m16_overflightref37_Few r_ = some x) :
  Ok Try.prog 16 [(Value.agg [(Value.int .i64 r_.slots), (Value.slice a_r__owners r_.owners.length c_r__owners), (Value.slice a_r__costs r_.costs.length c_r__costs)].toArray)] w O vB x := by
 unfold m16_overflightref37_Few at hm
 refine Fn_of_Wp (n := 37) (xs := [.tmp 2]) Try.func16 rfl Try.ntmps16 Try.results16 rfl ?_
 have hs := St.start hO
 refine Wp_seq ?_
 refine Wp_region ?_
 refine Rg_op rfl (op_box (cs := [(Value.int .i64 r_.slots), (Value.slice a_r__owners r_.owners.length c_r__owners), (Value.slice a_r__costs r_.costs.length c_r__costs)]) hs rfl rfl ?_)
 intro b1 w2 _ p3 hs4
 replace f_r__owners := f_r__owners.step p3; replace f_r__costs := f_r__costs.step p3; clear p3
 refine Rg_op rfl (op_assign (v := (Value.bool false)) rfl ?_)
 refine Rg_nil ?_
 refine Wp_seq ?_
 refine Wp_reset [] [(1, (Value.pointer (some ⟨b1, 0, none⟩)))] rfl ⟨rfl, trivial⟩ fun ξ6 => ?_
 replace hm := jn_elim hm; obtain ⟨k8, hk9, hm⟩ := hm
 refine Wp_seqJ [4, 5, 6, 7, 8, 9, 10, 11, 12, 13] (fun fr w' => ∃ (v_1 : Bool) (Ebs : Ents), Ebs = [(some b1, Obj.cells [(Value.int .i64 r_.slots), (Value.slice a_r__owners r_.owners.length c_r__owners), (Value.slice a_r__costs r_.costs.length c_r__costs)].toArray 25)] ∧ fr [] [(13, (Value.bool v_1))] ∧ Step (ks [(some b1, Obj.cells [(Value.int .i64 r_.slots), (Value.slice a_r__owners r_.owners.length c_r__owners), (Value.slice a_r__costs r_.costs.length c_r__costs)].toArray 25)] O) w2 (ks Ebs O) w' ∧ St ⟨w, [], []⟩ O w' Ebs ∧ k8 v_1 = some x) ?_ ?_
 ·
  rintro ρ15 w11 ⟨v_1, Ebs, hEbs, hfr14, hst13, hs12, hm⟩
  replace hm := jnE1 hk9 hm
  subst hEbs; rw [hfr14.eq]; clear hfr14
  replace f_r__owners := f_r__owners.step hst13; replace f_r__costs := f_r__costs.step hst13; clear hst13 hs4
  refine Wp_cond rfl (fun hc16 => ?_) (fun hc16 => ?_)
  ·
   replace hm := bif_t hm hc16
   refine Wp_seq ?_
   obtain ⟨hs17, p18⟩ := hs12.sub (bs' := []) (.cons _ List.Sublist.slnil)
   clear f_r__owners f_r__costs
   clear p18 hs12
   refine Wp_region ?_
   refine Rg_op rfl (op_assign (v := (Value.bool false)) rfl ?_)
   refine Rg_nil ?_
   refine Wp_ret ?_
   have hz := step_all hs17
   refine ⟨_, (show Closes [] _ _ from rfl), [(Value.bool false)], ⟨rfl, trivial⟩, hs17.ext, ?_⟩
   exact Vr.eq (a := vB) (x := false) rfl (Option.some.inj hm)
  ·
   replace hm := bif_f hm hc16
   refine Wp_skip ?_
   refine Wp_seq ?_
   refine Wp_seq ?_
   refine Wp_region ?_
   refine Rg_op rfl (op_assign (v := (Value.int .i64 0)) rfl ?_)
   refine Rg_nil ?_
   refine Wp_block ?_
   refine Wp_reset [] [(1, (Value.pointer (some ⟨b1, 0, none⟩))), (3, (Value.int .i64 0))] rfl ⟨rfl, rfl, trivial⟩ fun ξ20 => ?_
   refine Wp_loopM [2, 3, 14, 15, 16, 17, 18, 19, 20, 21, 22, 23, 24, 25, 26, 27] (fun m fr w' => ∃ (i_1 : Int) (Ebs : Ents), Ebs = [(some b1, Obj.cells [(Value.int .i64 r_.slots), (Value.slice a_r__owners r_.owners.length c_r__owners), (Value.slice a_r__costs r_.costs.length c_r__costs)].toArray 25)] ∧ fr [] [(3, (Value.int .i64 i_1))] ∧ Step (ks [(some b1, Obj.cells [(Value.int .i64 r_.slots), (Value.slice a_r__owners r_.owners.length c_r__owners), (Value.slice a_r__costs r_.costs.length c_r__costs)].toArray 25)] O) w11 (ks Ebs O) w' ∧ St ⟨w, [], []⟩ O w' Ebs ∧ InK .i64 i_1 ∧ loop1 (m16_overflightref37_Few_B0 r_) m i_1 = some x) (((r_.costs.length : Int) - 0).toNat + 1) ⟨0, _, rfl, ⟨Out.refl _ _, rfl, rfl, trivial⟩, Step.refl _ _, hs12, (show InK .i64 0 from by decide), hm⟩ ?_ ?_
   · rintro _ _ ⟨_, _, _, _, _, _, _, hm⟩; exact loop1_z hm
   ·
    rintro m24 K23 hK23 ρ29 w25 ⟨i_1, Ebs, hEbs, hfr28, hst27, hs26, r_y19, hm⟩
    obtain ⟨sf21, hsf22, hm⟩ := loop1_s hm; unfold m16_overflightref37_Few_B0 at hm
    subst hEbs; rw [hfr28.eq]; clear hfr28
    replace f_r__owners := f_r__owners.step hst27; replace f_r__costs := f_r__costs.step hst27
    have ch30 := hst27
    refine Wp_seq ?_
    refine Wp_seq ?_
    refine Wp_region ?_
    refine Rg_op rfl (op_move (v := (Value.int .i64 i_1)) rfl ?_)
    refine Rg_op rfl (op_fieldAddr ty25 rfl ty23 (by decide) rfl (rfl : _ = (⟨_, 2, none⟩ : Addr)) ?_)
    refine Rg_op rfl (op_load (cs := [(Value.int .i64 r_.slots), (Value.slice a_r__owners r_.owners.length c_r__owners), (Value.slice a_r__costs r_.costs.length c_r__costs)]) (i := 0) ty23 hs26 rfl rfl rfl ?_)
    refine Rg_op rfl (op_len Try.underlying23 rfl ?_)
    have rl31 := inK_len f_r__costs
    refine Rg_op rfl (op_lss rfl rfl ?_)
    refine Rg_nil ?_
    refine Wp_cond rfl (fun hc32 => ?_) (fun hc32 => ?_)
    ·
     replace hm := bif_t hm hc32
     refine Wp_skip ?_
     refine Wp_seq ?_
     refine Wp_block ?_
     refine Wp_seq ?_
     refine Wp_region ?_
     refine Rg_op rfl (op_fieldAddr ty25 rfl ty23 (by decide) rfl (rfl : _ = (⟨_, 2, none⟩ : Addr)) ?_)
     refine Rg_op rfl (op_load (cs := [(Value.int .i64 r_.slots), (Value.slice a_r__owners r_.owners.length c_r__owners), (Value.slice a_r__costs r_.costs.length c_r__costs)]) (i := 0) ty23 hs26 rfl rfl rfl ?_)
     refine Rg_op rfl (op_move (v := (Value.int .i64 i_1)) rfl ?_)
     replace hm := ck_some hm; obtain ⟨hc33, hm⟩ := hm
     refine Rg_op rfl (op_indexAddr (q := (rSl (rInt .i64))) ty23 ty22 rfl rfl f_r__costs rfl hc33.1 hc33.2 ?_)
     intro p34 f35
     refine Rg_op rfl (op_loadP ty22 rfl f35 rfl ?_)
     intro v36 h37
     obtain ⟨a_y38, c_y38, rfl, f_y38⟩ := un_sl h37
     refine Rg_op rfl (op_len Try.underlying22 rfl ?_)
     have rl39 := inK_len f_y38
     refine Rg_op rfl (op_gtr rfl rfl ?_)
     refine Rg_nil ?_
     refine Wp_cond rfl (fun hc40 => ?_) (fun hc40 => ?_)
     ·
      replace hm := bif_t hm hc40
      refine Wp_seq ?_
      clear f35 f_y38
      refine Wp_region ?_
      refine Rg_op rfl (op_assign (v := (Value.bool false)) rfl ?_)
      refine Rg_nil ?_
      refine Wp_ret ?_
      have hz := step_all hs26
      replace f_r__owners := f_r__owners.step hz; replace f_r__costs := f_r__costs.step hz
      refine ⟨_, (show Closes [] _ _ from rfl), [(Value.bool false)], ⟨rfl, trivial⟩, hs26.ext, ?_⟩
      exact Vr.eq (a := vB) (x := false) rfl (Option.some.inj hm)
     ·
      replace hm := bif_f hm hc40
      refine Wp_skip ?_
      clear f35 f_y38
      refine Wp_region ?_
      refine Rg_op rfl (op_move (v := (Value.int .i64 i_1)) rfl ?_)
      refine Rg_op rfl (op_addw rfl rfl ?_)
      refine Rg_op rfl (op_assign (v := (Value.int .i64 (IntKind.wrap .i64 (i_1 + 1)))) rfl ?_)
      refine Rg_nil ?_
      exact hK23 _ _ ⟨(IntKind.wrap .i64 (i_1 + 1)), _, rfl, ⟨(by repeat (first | with_reducible exact Out.refl _ _ | refine Out.upd ?_ rfl | refine Out.updL ?_ rfl | refine Out.mix' ?_ rfl | exact Out.refl _ _)), rfl, rfl, trivial⟩, ch30, hs26, (inK_wrap .i64 _), jnE1 hsf22 hm⟩
    ·
     replace hm := bif_f hm hc32
     refine Wp_exit ?_
     refine Wp_seq ?_
     refine Wp_region ?_
     refine Rg_op rfl (op_loadA (cs := [(Value.int .i64 r_.slots), (Value.slice a_r__owners r_.owners.length c_r__owners), (Value.slice a_r__costs r_.costs.length c_r__costs)]) (vs := [(Value.int .i64 r_.slots), (Value.slice a_r__owners r_.owners.length c_r__owners), (Value.slice a_r__costs r_.costs.length c_r__costs)]) (i := 0) ty25 hs26 rfl rfl rfl rfl ?_)
     replace hm := bd hm; obtain ⟨valid_1, hv41, hm⟩ := hm
     refine Rg_op rfl (op_call Try.call38 (c38_overflightref37_Valid (r_ := r_) hs26.ltw r_r__slots f_r__owners f_r__costs hv41) rfl ?_)
     rintro v42 w43 ⟨hx44, h45⟩
     have hs46 := hs26.call hx44
     have p47 := Step.ext (O := ks [(some b1, Obj.cells [(Value.int .i64 r_.slots), (Value.slice a_r__owners r_.owners.length c_r__owners), (Value.slice a_r__costs r_.costs.length c_r__costs)].toArray 25)] O) hx44
     clear hx44
     replace f_r__owners := f_r__owners.step p47; replace f_r__costs := f_r__costs.step p47; replace ch30 := ch30.trans p47; clear p47 hs26
     obtain rfl := h45
     refine Rg_op rfl (op_not rfl ?_)
     refine Rg_op rfl (op_move (v := (Value.bool (!valid_1))) rfl ?_)
     refine Rg_case (fun hg49 => ?_) (fun hg49 => ?_)
     ·
      replace hm := bif_t hm hg49
      iterate 4 refine Rg_opx rfl (asB_ne rfl rfl) rfl ?_
      refine Rg_op rfl (op_pick_t (v := (Value.bool true)) rfl rfl ?_)
      refine Rg_op rfl (op_assign (v := (Value.bool true)) rfl ?_)
      refine Rg_nil ?_
      refine Wp_ret ?_
      have hz := step_all hs46
      replace f_r__owners := f_r__owners.step hz; replace f_r__costs := f_r__costs.step hz
      refine ⟨_, (show Closes [] _ _ from rfl), [(Value.bool true)], ⟨rfl, trivial⟩, hs46.ext, ?_⟩
      exact Vr.eq (a := vB) (x := true) rfl (Option.some.inj hm)
     ·
      replace hm := bif_f hm hg49
      refine Rg_opg rfl rfl rfl (op_fieldAddr ty25 rfl ty22 (by decide) rfl (rfl : _ = (⟨_, 1, none⟩ : Addr)) ?_)
      refine Rg_opg rfl rfl rfl (op_load (cs := [(Value.int .i64 r_.slots), (Value.slice a_r__owners r_.owners.length c_r__owners), (Value.slice a_r__costs r_.costs.length c_r__costs)]) (i := 0) ty22 hs46 rfl rfl rfl ?_)
      refine Rg_opg rfl rfl rfl (op_len Try.underlying22 rfl ?_)
      have rl50 := inK_len f_r__owners
      refine Rg_opg rfl rfl rfl (op_leq rfl rfl ?_)
      refine Rg_op rfl (op_pick_f (v := (Value.bool (decide ((r_.owners.length : Int) ≤ 5)))) rfl rfl ?_)
      refine Rg_op rfl (op_assign (v := (Value.bool (decide ((r_.owners.length : Int) ≤ 5)))) rfl ?_)
      refine Rg_nil ?_
      refine Wp_ret ?_
      have hz := step_all hs46
      replace f_r__owners := f_r__owners.step hz; replace f_r__costs := f_r__costs.step hz
      refine ⟨_, (show Closes [] _ _ from rfl), [(Value.bool (decide ((r_.owners.length : Int) ≤ 5)))], ⟨rfl, trivial⟩, hs46.ext, ?_⟩
      exact Vr.eq (a := vB) (x := (decide ((r_.owners.length : Int) ≤ 5))) rfl (Option.some.inj hm)
 ·
  intro K10 hK10
  have ch51 := Step.refl (ks [(some b1, Obj.cells [(Value.int .i64 r_.slots), (Value.slice a_r__owners r_.owners.length c_r__owners), (Value.slice a_r__costs r_.costs.length c_r__costs)].toArray 25)] O) w2
  refine Wp_region ?_
  refine Rg_op rfl (op_fieldAddr ty25 rfl ty22 (by decide) rfl (rfl : _ = (⟨_, 1, none⟩ : Addr)) ?_)
  refine Rg_op rfl (op_load (cs := [(Value.int .i64 r_.slots), (Value.slice a_r__owners r_.owners.length c_r__owners), (Value.slice a_r__costs r_.costs.length c_r__costs)]) (i := 0) ty22 hs4 rfl rfl rfl ?_)
  refine Rg_op rfl (op_len Try.underlying22 rfl ?_)
  have rl52 := inK_len f_r__owners
  refine Rg_op rfl (op_gtr rfl rfl ?_)
  refine Rg_op rfl (op_move (v := (Value.bool (decide (12 < (r_.owners.length : Int))))) rfl ?_)
  refine Rg_case (fun hg53 => ?_) (fun hg53 => ?_)
  ·
   replace hm := bif_t hm hg53
   iterate 4 refine Rg_opx rfl (asB_ne rfl rfl) rfl ?_
   refine Rg_op rfl (op_pick_t (v := (Value.bool true)) rfl rfl ?_)
   refine Rg_nil ?_
   exact hK10 _ _ ⟨true, _, rfl, ⟨(by repeat (first | with_reducible exact Out.refl _ _ | refine Out.upd ?_ rfl | refine Out.updL ?_ rfl | refine Out.mix' ?_ rfl | exact Out.refl _ _)), rfl, rfl, trivial⟩, ch51, hs4, hm⟩
  ·
   replace hm := bif_f hm hg53
   refine Rg_opg rfl rfl rfl (op_fieldAddr ty25 rfl ty23 (by decide) rfl (rfl : _ = (⟨_, 2, none⟩ : Addr)) ?_)
   refine Rg_opg rfl rfl rfl (op_load (cs := [(Value.int .i64 r_.slots), (Value.slice a_r__owners r_.owners.length c_r__owners), (Value.slice a_r__costs r_.costs.length c_r__costs)]) (i := 0) ty23 hs4 rfl rfl rfl ?_)
   refine Rg_opg rfl rfl rfl (op_len Try.underlying23 rfl ?_)
   have rl54 := inK_len f_r__costs
   refine Rg_opg rfl rfl rfl (op_gtr rfl rfl ?_)
   refine Rg_op rfl (op_pick_f (v := (Value.bool (decide (12 < (r_.costs.length : Int))))) rfl rfl ?_)
   refine Rg_nil ?_
   exact hK10 _ _ ⟨(decide (12 < (r_.costs.length : Int))), _, rfl, ⟨(by repeat (first | with_reducible exact Out.refl _ _ | refine Out.upd ?_ rfl | refine Out.updL ?_ rfl | refine Out.mix' ?_ rfl | exact Out.refl _ _)), rfl, rfl, trivial⟩, ch51, hs4, hm⟩

end Go.Fx



set_option linter.unusedVariables false
set_option linter.unusedSimpArgs false
set_option maxRecDepth 100000
set_option maxHeartbeats 0
namespace Go.Fx
open Go Go.RowKit Go.Proofs
def m21_overflightlaw37_members_B1 (r_ : XRound) (group : List Int) (v_1 : Int) (sf11 : (List Int) → Int → Option (List Int)) (sf34 : (List Int) → Int → Option (List Int)) (l_2 : List Int) (v_2 : Int) : Option (List Int) :=
 bif (decide (v_2 < (group.length : Int))) then
  ck ((0 : Int) ≤ v_2 ∧ v_2 < (group.length : Int)) <|
  bif (decide ((group.getD v_2.toNat default) = (r_.owners.getD v_1.toNat default))) then
   ck ((l_2.length + [v_1].length) * 8 ≤ 140737488355328) <|
   sf34 (l_2 ++ [v_1]) (IntKind.wrap .i64 (v_2 + 1))
  else
   sf34 l_2 (IntKind.wrap .i64 (v_2 + 1))
 else
  sf11 l_2 (IntKind.wrap .i64 (v_1 + 1))

def m21_overflightlaw37_members_B0 (r_ : XRound) (group : List Int) (sf11 : (List Int) → Int → Option (List Int)) (l_1 : List Int) (v_1 : Int) : Option (List Int) :=
 bif (decide (v_1 < (r_.owners.length : Int))) then
  ck ((0 : Int) ≤ v_1 ∧ v_1 < (r_.owners.length : Int)) <|
  loop2 (m21_overflightlaw37_members_B1 r_ group v_1 sf11) (((group.length : Int) - 0).toNat + 1) l_1 0
 else
  some l_1

def m21_overflightlaw37_members (r_ : XRound) (group : List Int) : Option (List Int) :=
 loop2 (m21_overflightlaw37_members_B0 r_ group) (((r_.owners.length : Int) - 0).toNat + 1) ([] : List Int) 0

theorem g21_overflightlaw37_members {w : World} {O : List Nat} {r_ : XRound} {group : List Int} {a_r__owners : Option Addr} {c_r__owners : Nat} {a_r__costs : Option Addr} {c_r__costs : Nat} {a_group : Option Addr} {c_group : Nat} (hO : ∀ k ∈ O, k < w.heap.size) (r_r__slots : InK .i64 r_.slots) (f_r__owners : SlR (rInt .i64) w O a_r__owners c_r__owners r_.owners) (f_r__costs : SlR (rSl (rInt .i64)) w O a_r__costs c_r__costs r_.costs) (f_group : SlR (rInt .i64) w O a_group c_group group) {x : (List Int)} (hm : m21_overflightlaw37_members r_ group = some x) :
  OkG Try.prog 21 [(Value.agg [(Value.int .i64 r_.slots), (Value.slice a_r__owners r_.owners.length c_r__owners), (Value.slice a_r__costs r_.costs.length c_r__costs)].toArray), (Value.slice a_group group.length c_group)] w O (rInt .i64) 3 x := by
 unfold m21_overflightlaw37_members at hm
 refine Fn_of_Wp (n := 33) (xs := [.tmp 4]) Try.func21 rfl Try.ntmps21 Try.results21 rfl ?_
 have hs := St.start hO
 refine Wp_seq ?_
 refine Wp_region ?_
 refine Rg_op rfl (op_box (cs := [(Value.int .i64 r_.slots), (Value.slice a_r__owners r_.owners.length c_r__owners), (Value.slice a_r__costs r_.costs.length c_r__costs)]) hs rfl rfl ?_)
 intro b1 w2 _ p3 hs4
 replace f_r__owners := f_r__owners.step p3; replace f_r__costs := f_r__costs.step p3; replace f_group := f_group.step p3; clear p3
 refine Rg_op rfl (op_assign (v := (Value.slice none 0 0)) rfl ?_)
 refine Rg_nil ?_
 refine Wp_seq ?_
 refine Wp_seq ?_
 refine Wp_region ?_
 refine Rg_op rfl (op_fieldAddr ty25 rfl ty22 (by decide) rfl (rfl : _ = (⟨_, 1, none⟩ : Addr)) ?_)
 refine Rg_op rfl (op_load (cs := [(Value.int .i64 r_.slots), (Value.slice a_r__owners r_.owners.length c_r__owners), (Value.slice a_r__costs r_.costs.length c_r__costs)]) (i := 0) ty22 hs4 rfl rfl rfl ?_)
 refine Rg_op rfl (op_len Try.underlying22 rfl ?_)
 have rl6 := inK_len f_r__owners
 refine Rg_op rfl (op_move (v := (Value.int .i64 0)) rfl ?_)
 refine Rg_nil ?_
 refine Wp_block ?_
 refine Wp_reset [] [(1, (Value.slice a_group group.length c_group)), (4, (Value.slice none 0 0)), (10, (Value.slice a_r__owners r_.owners.length c_r__owners)), (11, (Value.int .i64 (r_.owners.length : Int))), (12, (Value.int .i64 0))] rfl ⟨rfl, rfl, rfl, rfl, rfl, trivial⟩ fun ξ10 => ?_
 have hs15 := hs4.ghost (Obj.cells #[] 3)
 refine Wp_loopM [4, 5, 6, 8, 12, 13, 14, 15, 16, 17, 18, 19, 20, 21, 22, 23, 24, 25, 26, 27, 28, 29, 30, 31] (fun m fr w' => ∃ (l_1 : List Int) (v_1 : Int) (a_g8 : Option Addr) (c_g8 : Nat) (k_g8 : Option Nat) (o_g8 : Obj) (Ebs : Ents), Ebs = [(k_g8, o_g8), (some b1, Obj.cells [(Value.int .i64 r_.slots), (Value.slice a_r__owners r_.owners.length c_r__owners), (Value.slice a_r__costs r_.costs.length c_r__costs)].toArray 25)] ∧ fr [] [(4, (Value.slice a_g8 l_1.length c_g8)), (12, (Value.int .i64 v_1))] ∧ Step (ks [(none, (Obj.cells #[] 3)), (some b1, Obj.cells [(Value.int .i64 r_.slots), (Value.slice a_r__owners r_.owners.length c_r__owners), (Value.slice a_r__costs r_.costs.length c_r__costs)].toArray 25)] O) w2 (ks Ebs O) w' ∧ St ⟨w, [], []⟩ O w' Ebs ∧ Gs (rInt .i64) 3 w' (ks Ebs O) a_g8 c_g8 l_1 k_g8 o_g8 ∧ InK .i64 v_1 ∧ loop2 (m21_overflightlaw37_members_B0 r_ group) m l_1 v_1 = some x) (((r_.owners.length : Int) - 0).toNat + 1) ⟨([] : List Int), 0, none, 0, none, (Obj.cells #[] 3), _, rfl, ⟨Out.refl _ _, rfl, rfl, rfl, trivial⟩, Step.refl _ _, hs15, Gs.nil_, (show InK .i64 0 from by decide), hm⟩ ?_ ?_
 · rintro _ _ ⟨_, _, _, _, _, _, _, _, _, _, _, _, _, hm⟩; exact loop2_z hm
 ·
  rintro m14 K13 hK13 ρ21 w17 ⟨l_1, v_1, a_g8, c_g8, k_g8, o_g8, Ebs, hEbs, hfr20, hst19, hs18, f_g8, r_y9, hm⟩
  obtain ⟨sf11, hsf12, hm⟩ := loop2_s hm; unfold m21_overflightlaw37_members_B0 at hm
  subst hEbs; rw [hfr20.eq]; clear hfr20
  replace f_r__owners := f_r__owners.step hst19; replace f_r__costs := f_r__costs.step hst19; replace f_group := f_group.step hst19
  have ch22 := hst19
  refine Wp_seq ?_
  refine Wp_region ?_
  refine Rg_op rfl (op_lss rfl rfl ?_)
  refine Rg_nil ?_
  refine Wp_seq ?_
  refine Wp_cond rfl (fun hc23 => ?_) (fun hc23 => ?_)
  ·
   replace hm := bif_t hm hc23
   refine Wp_skip ?_
   refine Wp_seq ?_
   refine Wp_block ?_
   refine Wp_seq ?_
   refine Wp_region ?_
   refine Rg_op rfl (op_move (v := (Value.int .i64 v_1)) rfl ?_)
   replace hm := ck_some hm; obtain ⟨hc24, hm⟩ := hm
   refine Rg_op rfl (op_indexAddr (q := (rInt .i64)) ty22 ty3 rfl rfl f_r__owners rfl hc24.1 hc24.2 ?_)
   intro p25 f26
   refine Rg_op rfl (op_loadP ty3 rfl f26 rfl ?_)
   intro v27 h28
   obtain ⟨rfl, r_y29⟩ := un_int h28
   refine Rg_op rfl (op_assign (v := (Value.int .i64 v_1)) rfl ?_)
   refine Rg_op rfl (op_assign (v := (Value.int .i64 (r_.owners.getD v_1.toNat default))) rfl ?_)
   refine Rg_nil ?_
   refine Wp_seq ?_
   clear f26
   refine Wp_region ?_
   refine Rg_op rfl (op_move (v := (Value.slice a_group group.length c_group)) rfl ?_)
   refine Rg_op rfl (op_len Try.underlying22 rfl ?_)
   have rl30 := inK_len f_group
   refine Rg_op rfl (op_move (v := (Value.int .i64 0)) rfl ?_)
   refine Rg_nil ?_
   refine Wp_block ?_
   refine Wp_reset2 [4, 5, 6, 8, 12, 13, 14, 15, 16, 17, 18, 19, 20, 21, 22, 23, 24, 25, 26, 27, 28, 29, 30, 31] [] (updL ⟨ξ10, []⟩ [(1, (Value.slice a_group group.length c_group)), (4, (Value.slice none 0 0)), (10, (Value.slice a_r__owners r_.owners.length c_r__owners)), (11, (Value.int .i64 (r_.owners.length : Int))), (12, (Value.int .i64 0))]) [(4, (Value.slice a_g8 l_1.length c_g8)), (5, (Value.int .i64 v_1)), (6, (Value.int .i64 (r_.owners.getD v_1.toNat default))), (12, (Value.int .i64 v_1)), (17, (Value.slice a_group group.length c_group)), (18, (Value.int .i64 (group.length : Int))), (19, (Value.int .i64 0))] (by repeat (first | with_reducible exact Out.refl _ _ | refine Out.upd ?_ rfl | refine Out.updL ?_ rfl | refine Out.mix' ?_ rfl | exact Out.refl _ _)) rfl ⟨rfl, rfl, rfl, rfl, rfl, rfl, rfl, trivial⟩ fun ξ33 => ?_
   refine Wp_loopM [4, 8, 19, 20, 21, 22, 23, 24, 25, 26, 27, 28, 29, 30] (fun m fr w' => ∃ (l_2 : List Int) (v_2 : Int) (a_g31 : Option Addr) (c_g31 : Nat) (k_g31 : Option Nat) (o_g31 : Obj) (Ebs : Ents), Ebs = [(k_g31, o_g31), (some b1, Obj.cells [(Value.int .i64 r_.slots), (Value.slice a_r__owners r_.owners.length c_r__owners), (Value.slice a_r__costs r_.costs.length c_r__costs)].toArray 25)] ∧ fr [] [(4, (Value.slice a_g31 l_2.length c_g31)), (19, (Value.int .i64 v_2))] ∧ Step (ks [(k_g8, o_g8), (some b1, Obj.cells [(Value.int .i64 r_.slots), (Value.slice a_r__owners r_.owners.length c_r__owners), (Value.slice a_r__costs r_.costs.length c_r__costs)].toArray 25)] O) w17 (ks Ebs O) w' ∧ St ⟨w, [], []⟩ O w' Ebs ∧ Gs (rInt .i64) 3 w' (ks Ebs O) a_g31 c_g31 l_2 k_g31 o_g31 ∧ InK .i64 v_2 ∧ loop2 (m21_overflightlaw37_members_B1 r_ group v_1 sf11) m l_2 v_2 = some x) (((group.length : Int) - 0).toNat + 1) ⟨l_1, 0, a_g8, c_g8, k_g8, o_g8, _, rfl, ⟨Out.refl _ _, rfl, rfl, rfl, trivial⟩, Step.refl _ _, hs18, f_g8, (show InK .i64 0 from by decide), hm⟩ ?_ ?_
   · rintro _ _ ⟨_, _, _, _, _, _, _, _, _, _, _, _, _, hm⟩; exact loop2_z hm
   ·
    rintro m37 K36 hK36 ρ42 w38 ⟨l_2, v_2, a_g31, c_g31, k_g31, o_g31, Ebs, hEbs, hfr41, hst40, hs39, f_g31, r_y32, hm⟩
    obtain ⟨sf34, hsf35, hm⟩ := loop2_s hm; unfold m21_overflightlaw37_members_B1 at hm
    subst hEbs; rw [hfr41.eq]; clear hfr41
    replace f_r__owners := f_r__owners.step hst40; replace f_r__costs := f_r__costs.step hst40; replace f_group := f_group.step hst40; replace f_g8 := f_g8.step hst40; replace ch22 := ch22.trans hst40
    have ch43 := hst40
    refine Wp_seq ?_
    clear f_g8
    refine Wp_region ?_
    refine Rg_op rfl (op_lss rfl rfl ?_)
    refine Rg_nil ?_
    refine Wp_seq ?_
    refine Wp_cond rfl (fun hc44 => ?_) (fun hc44 => ?_)
    ·
     replace hm := bif_t hm hc44
     refine Wp_skip ?_
     refine Wp_seq ?_
     refine Wp_block ?_
     refine Wp_seq ?_
     refine Wp_region ?_
     replace hm := ck_some hm; obtain ⟨hc45, hm⟩ := hm
     refine Rg_op rfl (op_indexAddr (q := (rInt .i64)) ty22 ty3 rfl rfl f_group rfl hc45.1 hc45.2 ?_)
     intro p46 f47
     refine Rg_op rfl (op_loadP ty3 rfl f47 rfl ?_)
     intro v48 h49
     obtain ⟨rfl, r_y50⟩ := un_int h49
     refine Rg_op rfl (op_assign (v := (Value.int .i64 (group.getD v_2.toNat default))) rfl ?_)
     refine Rg_nil ?_
     refine Wp_seq ?_
     clear f47
     refine Wp_region ?_
     refine Rg_op rfl (op_move (v := (Value.int .i64 (group.getD v_2.toNat default))) rfl ?_)
     refine Rg_op rfl (op_move (v := (Value.int .i64 (r_.owners.getD v_1.toNat default))) rfl ?_)
     refine Rg_op rfl (op_eql rfl rfl ?_)
     refine Rg_nil ?_
     refine Wp_cond rfl (fun hc51 => ?_) (fun hc51 => ?_)
     ·
      replace hm := bif_t hm hc51
      refine Wp_region ?_
      refine Rg_op rfl (op_move (v := (Value.slice a_g31 l_2.length c_g31)) rfl ?_)
      refine Rg_op rfl (op_move (v := (Value.int .i64 v_1)) rfl ?_)
      refine Rg_op rfl (op_buildSlice (cs := [(Value.int .i64 v_1)]) (parts := [(0, .tmp 27)]) ty22 ty3 hs39 (by decide) rfl ?_)
      intro b52 w53 hx56 p54 hs55
      replace f_r__owners := f_r__owners.step p54; replace f_r__costs := f_r__costs.step p54; replace f_group := f_group.step p54; replace f_g31 := f_g31.step p54; replace ch22 := ch22.trans p54; replace ch43 := ch43.trans p54; clear p54 hs39
      replace hm := ck_some hm; obtain ⟨hc58, hm⟩ := hm
      refine Rg_op rfl (op_append (q := (rInt .i64)) (i := 1) (xs := l_2) (ys := [v_1]) (news := [(Value.int .i64 v_1)]) ty22 ty3 rfl (by decide) hs55 rfl rfl f_g31 rfl (Src.owned' (len := 1) (hs55.get (i := 0) rfl) rfl) (show Els (rInt .i64) _ _ [(Value.int .i64 v_1)] [v_1] from ⟨_, _, rfl, (mk_int r_y9), Els.nil⟩) hc58 (by have := hc58; simp only [maxLen]; omega) ?_)
      intro a62 c63 k64 o65 w59 p60 hs61 f66
      replace f_r__owners := f_r__owners.step p60; replace f_r__costs := f_r__costs.step p60; replace f_group := f_group.step p60; replace ch22 := ch22.trans p60; replace ch43 := ch43.trans p60; clear p60 hs55
      have hs67 := hs61.drop 0
      replace f_r__owners := f_r__owners.step (hs61.dropS 0)
      replace f_r__costs := f_r__costs.step (hs61.dropS 0)
      replace f_group := f_group.step (hs61.dropS 0)
      replace f66 := f66.step (hs61.dropS 0)
      replace ch22 := ch22.trans (hs61.dropS 0)
      replace ch43 := ch43.trans (hs61.dropS 0); clear hs61
      refine Rg_op rfl (op_assign (v := (Value.slice a62 (l_2 ++ [v_1]).length c63)) rfl ?_)
      refine Rg_nil ?_
      refine Wp_region ?_
      refine Rg_op rfl (op_addw rfl rfl ?_)
      refine Rg_op rfl (op_move (v := (Value.int .i64 (IntKind.wrap .i64 (v_2 + 1)))) rfl ?_)
      refine Rg_nil ?_
      exact hK36 _ _ ⟨(l_2 ++ [v_1]), (IntKind.wrap .i64 (v_2 + 1)), a62, c63, k64, o65, _, rfl, ⟨(by repeat (first | with_reducible exact Out.refl _ _ | refine Out.upd ?_ rfl | refine Out.updL ?_ rfl | refine Out.mix' ?_ rfl | exact Out.refl _ _)), rfl, rfl, rfl, trivial⟩, ch43, hs67, f66, (inK_wrap .i64 _), jnE2 hsf35 hm⟩
     ·
      replace hm := bif_f hm hc51
      refine Wp_skip ?_
      refine Wp_region ?_
      refine Rg_op rfl (op_addw rfl rfl ?_)
      refine Rg_op rfl (op_move (v := (Value.int .i64 (IntKind.wrap .i64 (v_2 + 1)))) rfl ?_)
      refine Rg_nil ?_
      exact hK36 _ _ ⟨l_2, (IntKind.wrap .i64 (v_2 + 1)), a_g31, c_g31, k_g31, o_g31, _, rfl, ⟨(by repeat (first | with_reducible exact Out.refl _ _ | refine Out.upd ?_ rfl | refine Out.updL ?_ rfl | refine Out.mix' ?_ rfl | exact Out.refl _ _)), rfl, rfl, rfl, trivial⟩, ch43, hs39, f_g31, (inK_wrap .i64 _), jnE2 hsf35 hm⟩
    ·
     replace hm := bif_f hm hc44
     refine Wp_exit ?_
     refine Wp_region ?_
     refine Rg_op rfl (op_addw rfl rfl ?_)
     refine Rg_op rfl (op_move (v := (Value.int .i64 (IntKind.wrap .i64 (v_1 + 1)))) rfl ?_)
     refine Rg_nil ?_
     exact hK13 _ _ ⟨l_2, (IntKind.wrap .i64 (v_1 + 1)), a_g31, c_g31, k_g31, o_g31, _, rfl, ⟨(by repeat (first | with_reducible exact Out.refl _ _ | refine Out.upd ?_ rfl | refine Out.updL ?_ rfl | refine Out.mix' ?_ rfl | exact Out.refl _ _)), rfl, rfl, rfl, trivial⟩, ch22, hs39, f_g31, (inK_wrap .i64 _), jnE2 hsf12 hm⟩
  ·
   replace hm := bif_f hm hc23
   refine Wp_exit ?_
   refine Wp_seq ?_
   obtain ⟨hs68, p69⟩ := hs18.sub (bs' := [(k_g8, o_g8)]) (.cons_cons _ (.cons _ List.Sublist.slnil))
   clear f_r__owners f_r__costs f_group
   replace f_g8 := f_g8.step p69; replace ch22 := ch22.trans p69; clear p69 hs18
   refine Wp_region ?_
   refine Rg_op rfl (op_move (v := (Value.slice a_g8 l_1.length c_g8)) rfl ?_)
   refine Rg_op rfl (op_assign (v := (Value.slice a_g8 l_1.length c_g8)) rfl ?_)
   refine Rg_nil ?_
   refine Wp_ret ?_
   refine ⟨_, (show Closes [] _ _ from rfl), [(Value.slice a_g8 l_1.length c_g8)], ⟨rfl, trivial⟩, hs68.ext, ?_⟩
   exact OkG.mk (i := 0) hs68 rfl f_g8 (Option.some.inj hm)
end Go.Fx


