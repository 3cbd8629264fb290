/- Part 2 of the proof: coalitionFree: one slot more that nobody may take changes no answer. -/
import Derived.Test.YthakjfdppgdmaaaFree1
set_option linter.unusedVariables false
set_option linter.unusedSimpArgs false
set_option maxRecDepth 100000
set_option maxHeartbeats 0
namespace Go.Fx
open Go Go.RowKit Go.Proofs
def m22_coalition_Check_B0 (r_ : XRound) (sf48 : Int → Option Int) (v_2 : Int) : Option Int :=
 bif (decide (v_2 < (r_.costs.length : Int))) then
  ck ((0 : Int) ≤ v_2 ∧ v_2 < (r_.costs.length : Int)) <|
  jn (fun (v_3 : Bool) =>
   bif v_3 then
    some 370
   else
    sf48 (IntKind.wrap .i64 (v_2 + 1)))
  (fun k67 =>
   ck ((0 : Int) ≤ v_2 ∧ v_2 < (r_.owners.length : Int)) <|
   ((fun x24 x25 => m44_coalition_Check_1 x24 x25) (r_.owners.getD v_2.toNat default) 7).bind fun r_1 =>
   bif r_1 then
    k67 true
   else
    bif (decide (((r_.costs.getD v_2.toNat default).length : Int) ≠ r_.slots)) then
     k67 true
    else
     ck ((0 : Int) ≤ v_2 ∧ v_2 < ((r_.costs.getD v_2.toNat default).length : Int)) <|
     bif (decide (((r_.costs.getD v_2.toNat default).getD v_2.toNat default) < 0)) then
      k67 true
     else
      (m45_slices_ContainsFuncint_int_ (r_.costs.getD v_2.toNat default) (fun x287 => m46_coalition_Check_2 x287 (fun x24 x25 => m44_coalition_Check_1 x24 x25))).bind fun containsfunc_1 =>
      k67 containsfunc_1)
 else
  some 0

def m22_coalition_Check (r_ : XRound) : Option Int :=
 jn (fun (v_1 : Bool) =>
  bif v_1 then
   some 370
  else
   loop1 (m22_coalition_Check_B0 r_) (((r_.costs.length : Int) - 0).toNat + 1) 0)
 (fun k8 =>
  bif (decide (r_.slots < 1)) then
   k8 true
  else
   bif (decide (8 < r_.slots)) then
    k8 true
   else
    bif (decide (r_.slots < (r_.owners.length : Int))) then
     k8 true
    else
     k8 (decide ((r_.costs.length : Int) ≠ (r_.owners.length : Int))))

theorem c22_coalition_Check {w : World} {O : List Nat} {r_ : XRound} {a_r__owners : Option Addr} {c_r__owners : Nat} {a_r__costs : Option Addr} {c_r__costs : Nat} (hO : ∀ k ∈ O, k < w.heap.size) (r_r__slots : InK .i64 r_.slots) (f_r__owners : SlR (rInt .i64) w O a_r__owners c_r__owners r_.owners) (f_r__costs : SlR (rSl (rInt .i64)) w O a_r__costs c_r__costs r_.costs) {x : Int} (hm : m22_coalition_Check r_ = some x) :
  Ok Try.prog 22 [(Value.agg [(Value.int .i64 r_.slots), (Value.slice a_r__owners r_.owners.length c_r__owners), (Value.slice a_r__costs r_.costs.length c_r__costs)].toArray)] w O (vI .i64) x := by
 unfold m22_coalition_Check at hm
 refine Fn_of_Wp (n := 66) (xs := [.tmp 2]) Try.func22 rfl Try.ntmps22 Try.results22 rfl ?_
 have hs := St.start hO
 refine Wp_seq ?_
 refine Wp_region ?_
 refine Rg_op rfl (op_box (cs := [(Value.int .i64 r_.slots), (Value.slice a_r__owners r_.owners.length c_r__owners), (Value.slice a_r__costs r_.costs.length c_r__costs)]) hs rfl rfl ?_)
 intro b1 w2 _ p3 hs4
 replace f_r__owners := f_r__owners.step p3; replace f_r__costs := f_r__costs.step p3; clear p3
 refine Rg_op rfl (op_assign (v := (Value.int .i64 0)) rfl ?_)
 refine Rg_nil ?_
 refine Wp_seq ?_
 refine Wp_reset [] [(1, (Value.pointer (some ⟨b1, 0, none⟩)))] rfl ⟨rfl, trivial⟩ fun ξ6 => ?_
 replace hm := jn_elim hm; obtain ⟨k8, hk9, hm⟩ := hm
 refine Wp_seqJ [6, 7, 8, 9, 10, 11, 12, 13, 14, 15, 16, 17, 18, 19, 20, 21, 22, 23, 24, 25, 26, 27, 28, 29, 30] (fun fr w' => ∃ (v_1 : Bool) (Ebs : Ents), Ebs = [(some b1, Obj.cells [(Value.int .i64 r_.slots), (Value.slice a_r__owners r_.owners.length c_r__owners), (Value.slice a_r__costs r_.costs.length c_r__costs)].toArray 25)] ∧ fr [] [(30, (Value.bool v_1))] ∧ Step (ks [(some b1, Obj.cells [(Value.int .i64 r_.slots), (Value.slice a_r__owners r_.owners.length c_r__owners), (Value.slice a_r__costs r_.costs.length c_r__costs)].toArray 25)] O) w2 (ks Ebs O) w' ∧ St ⟨w, [], []⟩ O w' Ebs ∧ k8 v_1 = some x) ?_ ?_
 ·
  rintro ρ15 w11 ⟨v_1, Ebs, hEbs, hfr14, hst13, hs12, hm⟩
  replace hm := jnE1 hk9 hm
  subst hEbs; rw [hfr14.eq]; clear hfr14
  replace f_r__owners := f_r__owners.step hst13; replace f_r__costs := f_r__costs.step hst13; clear hst13 hs4
  refine Wp_cond rfl (fun hc16 => ?_) (fun hc16 => ?_)
  ·
   replace hm := bif_t hm hc16
   refine Wp_seq ?_
   obtain ⟨hs17, p18⟩ := hs12.sub (bs' := []) (.cons _ List.Sublist.slnil)
   clear f_r__owners f_r__costs
   clear p18 hs12
   refine Wp_region ?_
   refine Rg_op rfl (op_assign (v := (Value.int .i64 370)) rfl ?_)
   refine Rg_nil ?_
   refine Wp_ret ?_
   have hz := step_all hs17
   refine ⟨_, (show Closes [] _ _ from rfl), [(Value.int .i64 370)], ⟨rfl, trivial⟩, hs17.ext, ?_⟩
   exact Vr.eq (a := (vI .i64)) (x := 370) ⟨rfl, (show InK .i64 370 from by decide)⟩ (Option.some.inj hm)
  ·
   replace hm := bif_f hm hc16
   refine Wp_skip ?_
   refine Wp_seq ?_
   refine Wp_region ?_
   refine Rg_op rfl (op_alloc ty56 hs12 ?_)
   intro b19 w20 _ p21 hs22
   replace f_r__owners := f_r__owners.step p21; replace f_r__costs := f_r__costs.step p21; clear p21 hs12
   have F26 : CallsTo2 Try.prog w20 (ks [(some b19, Obj.cells [Value.nilFunc].toArray 56), (some b1, Obj.cells [(Value.int .i64 r_.slots), (Value.slice a_r__owners r_.owners.length c_r__owners), (Value.slice a_r__costs r_.costs.length c_r__costs)].toArray 25)] O) (Value.func (.func 44) #[] #[]) (vI .i64) (vI .i64) vB (fun x24 x25 => m44_coalition_Check_1 x24 x25) := by
    intro w27 O28 st29 hO30 v33 v34 x24 x25 y31 h35 h36 hy32
    obtain ⟨rfl, r_y37⟩ := h35
    obtain ⟨rfl, r_y38⟩ := h36
    exact ⟨44, #[], #[], rfl, Try.call44, c44_coalition_Check_1 (n := x24) (most := x25) hO30 r_y37 r_y38 hy32⟩
   refine Rg_op_ (op_store (cs := [Value.nilFunc]) (vs := [(Value.func (.func 44) #[] #[])]) (cs' := [(Value.func (.func 44) #[] #[])]) (bs' := [(some b19, Obj.cells [(Value.func (.func 44) #[] #[])].toArray 56), (some b1, Obj.cells [(Value.int .i64 r_.slots), (Value.slice a_r__owners r_.owners.length c_r__owners), (Value.slice a_r__costs r_.costs.length c_r__costs)].toArray 25)]) (i := 0) ty56 hs22 rfl rfl rfl rfl rfl (le_lit rfl) rfl rfl rfl ?_)
   intro w39 p40 hs41
   replace f_r__owners := f_r__owners.step p40; replace f_r__costs := f_r__costs.step p40; replace F26 := F26.step p40; clear p40 hs22
   obtain ⟨hs43, p44, f42⟩ := St.publishP (p := (rFv2 Try.prog (vI .i64) (vI .i64) vB)) (i := 0) (x := (fun x24 x25 => m44_coalition_Check_1 x24 x25)) hs41 rfl (mk_fv2 F26)
   replace f_r__owners := f_r__owners.step p44; replace f_r__costs := f_r__costs.step p44; replace F26 := F26.step p44; clear p44 hs41
   refine Rg_nil ?_
   refine Wp_seq ?_
   refine Wp_seq ?_
   clear F26
   refine Wp_region ?_
   refine Rg_op rfl (op_fieldAddr ty25 rfl ty23 (by decide) rfl (rfl : _ = (⟨_, 2, none⟩ : Addr)) ?_)
   refine Rg_op rfl (op_load (cs := [(Value.int .i64 r_.slots), (Value.slice a_r__owners r_.owners.length c_r__owners), (Value.slice a_r__costs r_.costs.length c_r__costs)]) (i := 0) ty23 hs43 rfl rfl rfl ?_)
   refine Rg_op rfl (op_len Try.underlying23 rfl ?_)
   have rl45 := inK_len f_r__costs
   refine Rg_op rfl (op_move (v := (Value.int .i64 0)) rfl ?_)
   refine Rg_nil ?_
   refine Wp_block ?_
   refine Wp_reset [] [(1, (Value.pointer (some ⟨b1, 0, none⟩))), (3, (Value.pointer (some (⟨b19, 0, none⟩ : Addr)))), (32, (Value.slice a_r__costs r_.costs.length c_r__costs)), (33, (Value.int .i64 (r_.costs.length : Int))), (34, (Value.int .i64 0))] rfl ⟨rfl, rfl, rfl, rfl, rfl, trivial⟩ fun ξ47 => ?_
   refine Wp_loopM [2, 4, 5, 34, 35, 36, 37, 38, 39, 40, 41, 42, 43, 44, 45, 46, 47, 48, 49, 50, 51, 52, 53, 54, 55, 56, 57, 58, 59, 60, 61, 62, 63, 64, 65] (fun m fr w' => ∃ (v_2 : Int) (Ebs : Ents), Ebs = [(some b1, Obj.cells [(Value.int .i64 r_.slots), (Value.slice a_r__owners r_.owners.length c_r__owners), (Value.slice a_r__costs r_.costs.length c_r__costs)].toArray 25)] ∧ fr [] [(34, (Value.int .i64 v_2))] ∧ Step (ks [(some b1, Obj.cells [(Value.int .i64 r_.slots), (Value.slice a_r__owners r_.owners.length c_r__owners), (Value.slice a_r__costs r_.costs.length c_r__costs)].toArray 25)] O) w39 (ks Ebs O) w' ∧ St ⟨w, [], []⟩ O w' Ebs ∧ InK .i64 v_2 ∧ loop1 (m22_coalition_Check_B0 r_) m v_2 = some x) (((r_.costs.length : Int) - 0).toNat + 1) ⟨0, _, rfl, ⟨Out.refl _ _, rfl, rfl, trivial⟩, Step.refl _ _, hs43, (show InK .i64 0 from by decide), hm⟩ ?_ ?_
   · rintro _ _ ⟨_, _, _, _, _, _, _, hm⟩; exact loop1_z hm
   ·
    rintro m51 K50 hK50 ρ56 w52 ⟨v_2, Ebs, hEbs, hfr55, hst54, hs53, r_y46, hm⟩
    obtain ⟨sf48, hsf49, hm⟩ := loop1_s hm; unfold m22_coalition_Check_B0 at hm
    subst hEbs; rw [hfr55.eq]; clear hfr55
    replace f_r__owners := f_r__owners.step hst54; replace f_r__costs := f_r__costs.step hst54; replace f42 := f42.step hst54
    have ch57 := hst54
    refine Wp_seq ?_
    refine Wp_region ?_
    refine Rg_op rfl (op_lss rfl rfl ?_)
    refine Rg_nil ?_
    refine Wp_seq ?_
    refine Wp_cond rfl (fun hc58 => ?_) (fun hc58 => ?_)
    ·
     replace hm := bif_t hm hc58
     refine Wp_skip ?_
     refine Wp_seq ?_
     refine Wp_block ?_
     refine Wp_seq ?_
     refine Wp_region ?_
     refine Rg_op rfl (op_move (v := (Value.int .i64 v_2)) rfl ?_)
     replace hm := ck_some hm; obtain ⟨hc59, hm⟩ := hm
     refine Rg_op rfl (op_indexAddr (q := (rSl (rInt .i64))) ty23 ty22 rfl rfl f_r__costs rfl hc59.1 hc59.2 ?_)
     intro p60 f61
     refine Rg_op rfl (op_loadP ty22 rfl f61 rfl ?_)
     intro v62 h63
     obtain ⟨a_y64, c_y64, rfl, f_y64⟩ := un_sl h63
     refine Rg_op rfl (op_assign (v := (Value.int .i64 v_2)) rfl ?_)
     refine Rg_op rfl (op_assign (v := (Value.slice a_y64 (r_.costs.getD v_2.toNat default).length c_y64)) rfl ?_)
     refine Rg_nil ?_
     refine Wp_reset2 [2, 4, 5, 34, 35, 36, 37, 38, 39, 40, 41, 42, 43, 44, 45, 46, 47, 48, 49, 50, 51, 52, 53, 54, 55, 56, 57, 58, 59, 60, 61, 62, 63, 64, 65] [] (updL ⟨ξ47, []⟩ [(1, (Value.pointer (some ⟨b1, 0, none⟩))), (3, (Value.pointer (some (⟨b19, 0, none⟩ : Addr)))), (32, (Value.slice a_r__costs r_.costs.length c_r__costs)), (33, (Value.int .i64 (r_.costs.length : Int))), (34, (Value.int .i64 0))]) [(4, (Value.int .i64 v_2)), (5, (Value.slice a_y64 (r_.costs.getD v_2.toNat default).length c_y64)), (34, (Value.int .i64 v_2))] (by repeat (first | with_reducible exact Out.refl _ _ | refine Out.upd ?_ rfl | refine Out.updL ?_ rfl | refine Out.mix' ?_ rfl | exact Out.refl _ _)) rfl ⟨rfl, rfl, rfl, trivial⟩ fun ξ65 => ?_
     replace hm := jn_elim hm; obtain ⟨k67, hk68, hm⟩ := hm
     refine Wp_seqJ [39, 40, 41, 42, 43, 44, 45, 46, 47, 48, 49, 50, 51, 52, 53, 54, 55, 56, 57, 58, 59, 60, 61, 62, 63, 64] (fun fr w' => ∃ (v_3 : Bool) (Ebs : Ents), Ebs = [(some b1, Obj.cells [(Value.int .i64 r_.slots), (Value.slice a_r__owners r_.owners.length c_r__owners), (Value.slice a_r__costs r_.costs.length c_r__costs)].toArray 25)] ∧ fr [] [(64, (Value.bool v_3))] ∧ Step (ks [(some b1, Obj.cells [(Value.int .i64 r_.slots), (Value.slice a_r__owners r_.owners.length c_r__owners), (Value.slice a_r__costs r_.costs.length c_r__costs)].toArray 25)] O) w52 (ks Ebs O) w' ∧ St ⟨w, [], []⟩ O w' Ebs ∧ k67 v_3 = some x) ?_ ?_
     ·
      rintro ρ74 w70 ⟨v_3, Ebs, hEbs, hfr73, hst72, hs71, hm⟩
      replace hm := jnE1 hk68 hm
      subst hEbs; rw [hfr73.eq]; clear hfr73
      replace f_r__owners := f_r__owners.step hst72; replace f_r__costs := f_r__costs.step hst72; replace f42 := f42.step hst72; replace f61 := f61.step hst72; replace f_y64 := f_y64.step hst72; replace ch57 := ch57.trans hst72; clear hst72 hs53
      refine Wp_cond rfl (fun hc75 => ?_) (fun hc75 => ?_)
      ·
       replace hm := bif_t hm hc75
       refine Wp_seq ?_
       clear f42 f61 f_y64
       refine Wp_region ?_
       refine Rg_op rfl (op_assign (v := (Value.int .i64 370)) rfl ?_)
       refine Rg_nil ?_
       refine Wp_ret ?_
       have hz := step_all hs71
       replace f_r__owners := f_r__owners.step hz; replace f_r__costs := f_r__costs.step hz
       refine ⟨_, (show Closes [] _ _ from rfl), [(Value.int .i64 370)], ⟨rfl, trivial⟩, hs71.ext, ?_⟩
       exact Vr.eq (a := (vI .i64)) (x := 370) ⟨rfl, (show InK .i64 370 from by decide)⟩ (Option.some.inj hm)
      ·
       replace hm := bif_f hm hc75
       refine Wp_skip ?_
       clear f61 f_y64
       refine Wp_region ?_
       refine Rg_op rfl (op_addw rfl rfl ?_)
       refine Rg_op rfl (op_move (v := (Value.int .i64 (IntKind.wrap .i64 (v_2 + 1)))) rfl ?_)
       refine Rg_nil ?_
       exact hK50 _ _ ⟨(IntKind.wrap .i64 (v_2 + 1)), _, rfl, ⟨(by repeat (first | with_reducible exact Out.refl _ _ | refine Out.upd ?_ rfl | refine Out.updL ?_ rfl | refine Out.mix' ?_ rfl | exact Out.refl _ _)), rfl, rfl, trivial⟩, ch57, hs71, (inK_wrap .i64 _), jnE1 hsf49 hm⟩
     ·
      intro K69 hK69
      have ch76 := Step.refl (ks [(some b1, Obj.cells [(Value.int .i64 r_.slots), (Value.slice a_r__owners r_.owners.length c_r__owners), (Value.slice a_r__costs r_.costs.length c_r__costs)].toArray 25)] O) w52
      clear f61
      refine Wp_drawR (g0 := []) (m := 24) (fl := []) (TS_inv hs53) rfl (.inl rfl) rfl (by decide +kernel) ?_  -- 7
      refine Dw_op (VD O [(some b1, Obj.cells [(Value.int .i64 r_.slots), (Value.slice a_r__owners r_.owners.length c_r__owners), (Value.slice a_r__costs r_.costs.length c_r__costs)].toArray 25)] (vFv2 Try.prog (vI .i64) (vI .i64) vB) (fun x24 x25 => m44_coalition_Check_1 x24 x25)) (VD.stab _ _) (fun ρ77 w78 g hle hi ht => ?_) ?_
      ·
       obtain ⟨-, hst, -⟩ := hle
       replace f42 := f42.step hst
       refine StepOp_plain (op_loadP ty56 (ht 3 rfl) f42 rfl ?_)
       intro v80 h81
       have F82 := (un_fv2 h81).2; clear h81
       exact Goes.same hi (show Vr.vd (vFv2 Try.prog (vI .i64) (vI .i64) vB) _ _ _ _ from F82)
      refine Dw_eq (Value.pointer (some ⟨b1, 1, none⟩)) (fun ρ83 w84 g hle hi ht => ?_) ?_
      ·
       obtain ⟨-, hst, -⟩ := hle
       refine StepOp_plain (op_fieldAddr ty25 rfl ty22 (by decide) (ht 1 rfl) (rfl : _ = (⟨_, 1, none⟩ : Addr)) ?_)
       exact Goes.same hi rfl
      refine Dw_eq (Value.slice a_r__owners r_.owners.length c_r__owners) (fun ρ86 w87 g hle hi ht => ?_) ?_
      ·
       obtain ⟨-, hst, -⟩ := hle
       have hsn := (Step.nx hi).1
       refine StepOp_plain (op_load (cs := [(Value.int .i64 r_.slots), (Value.slice a_r__owners r_.owners.length c_r__owners), (Value.slice a_r__costs r_.costs.length c_r__costs)]) (i := 0) ty22 hsn (ht 40 rfl) rfl rfl ?_)
       exact Goes.same hi rfl
      refine Dw_eq (Value.int .i64 v_2) (fun ρ89 w90 g hle hi ht => ?_) ?_
      ·
       obtain ⟨-, hst, -⟩ := hle
       refine StepOp_plain (op_move (v := (Value.int .i64 v_2)) (ht 4 rfl) ?_)
       exact Goes.same hi rfl
      replace hm := ck_some hm; obtain ⟨hc95, hm⟩ := hm
      refine Dw_op (VP O [(some b1, Obj.cells [(Value.int .i64 r_.slots), (Value.slice a_r__owners r_.owners.length c_r__owners), (Value.slice a_r__costs r_.costs.length c_r__costs)].toArray 25)] (rInt .i64) (r_.owners.getD v_2.toNat default)) (VP.stab _ _) (fun ρ92 w93 g hle hi ht => ?_) ?_
      ·
       obtain ⟨-, hst, -⟩ := hle
       replace f_r__owners := f_r__owners.step hst
       refine StepOp_plain (op_indexAddr (q := (rInt .i64)) ty22 ty3 (ht 41 rfl) (ht 42 rfl) f_r__owners rfl hc95.1 hc95.2 ?_)
       intro p96 f97
       exact Goes.same hi ⟨_, rfl, f97⟩
      refine Dw_op (VD O [(some b1, Obj.cells [(Value.int .i64 r_.slots), (Value.slice a_r__owners r_.owners.length c_r__owners), (Value.slice a_r__costs r_.costs.length c_r__costs)].toArray 25)] (vI .i64) (r_.owners.getD v_2.toNat default)) (VD.stab _ _) (fun ρ98 w99 g hle hi ht => ?_) ?_
      ·
       obtain ⟨-, hst, -⟩ := hle
       obtain ⟨p101, q102, f103⟩ := ht 43 rfl
       refine StepOp_plain (op_loadP ty3 q102 f103 rfl ?_)
       intro v104 h105
       obtain ⟨rfl, r_y106⟩ := un_int h105
       exact Goes.same hi (show Vr.vd (vI .i64) _ _ _ _ from ⟨rfl, r_y106⟩)
      replace hm := bd hm; obtain ⟨r_1, hv117, hm⟩ := hm
      refine Dw_op (VD O [(some b1, Obj.cells [(Value.int .i64 r_.slots), (Value.slice a_r__owners r_.owners.length c_r__owners), (Value.slice a_r__costs r_.costs.length c_r__costs)].toArray 25)] vB r_1) (VD.stab _ _) (fun ρ107 w108 g hle hi ht => ?_) ?_
      ·
       obtain ⟨-, hst, -⟩ := hle
       have h110 : Vr.vd (vI .i64) _ _ _ _ := ht 44 rfl
       obtain ⟨q111, r_y112⟩ := h110
       have h113 : Vr.vd (vFv2 Try.prog (vI .i64) (vI .i64) vB) _ _ _ _ := ht 39 rfl
       obtain ⟨v116, q114, F_y115⟩ : ∃ v, _ = v ∧ Vr.vd (vFv2 Try.prog (vI .i64) (vI .i64) vB) _ _ v (fun x24 x25 => m44_coalition_Check_1 x24 x25) := ⟨_, rfl, h113⟩
       replace F_y115 : CallsTo2 Try.prog _ _ v116 (vI .i64) (vI .i64) vB (fun x24 x25 => m44_coalition_Check_1 x24 x25) := F_y115
       refine StepOp_plain (op_callF q114 (F_y115.call hi.ltw ⟨rfl, r_y112⟩ ⟨rfl, (show InK .i64 7 from by decide)⟩ hv117) (by simp only [List.map, Array.toList, (show ev _ (.tmp 44) = _ from q111), (show ev _ (.const (.int .i64 7)) = .int .i64 7 from rfl)] <;> rfl) ?_)
       rintro v118 w119 ⟨hx120, h121⟩
       exact Goes.call hi hx120 h121
      refine Dw_opB r_1 (fun ρ123 w124 g hle hi ht => ?_) (fun hg129 => ?_) (fun hg129 => ?_)
      ·
       obtain ⟨-, hst, -⟩ := hle
       have h126 : Vr.vd vB _ _ _ _ := ht 45 rfl
       have q127 : _ = (Value.bool r_1) := h126
       refine StepOp_plain (op_move (v := (Value.bool r_1)) q127 ?_)
       exact Goes.same hi rfl
      ·
       replace hm := bif_t hm hg129
       refine Dw_skip (fun _ _ _ ht => wanted_x rfl (ht 46 rfl) rfl) ?_
       refine Dw_skip (fun _ _ _ ht => wanted_x rfl (ht 46 rfl) rfl) ?_
       refine Dw_skip (fun _ _ _ ht => wanted_x rfl (ht 46 rfl) rfl) ?_
       refine Dw_skip (fun _ _ _ ht => wanted_x rfl (ht 46 rfl) rfl) ?_
       refine Dw_skip (fun _ _ _ ht => wanted_x rfl (ht 46 rfl) rfl) ?_
       refine Dw_eq (Value.bool true) (fun ρ130 w131 g hle hi ht => ?_) ?_
       ·
        obtain ⟨-, hst, -⟩ := hle
        refine StepOp_plain (op_pick_t (v := (Value.bool true)) (ht 46 rfl) rfl ?_)
        exact Goes.same hi rfl
       refine Dw_eq (Value.bool true) (fun ρ133 w134 g hle hi ht => ?_) ?_
       ·
        obtain ⟨-, hst, -⟩ := hle
        refine StepOp_plain (op_move (v := (Value.bool true)) (ht 52 rfl) ?_)
        exact Goes.same hi rfl
       refine Dw_skip (fun _ _ _ ht => wanted_x rfl (ht 53 rfl) rfl) ?_
       refine Dw_skip (fun _ _ _ ht => wanted_x rfl (ht 53 rfl) rfl) ?_
       refine Dw_skip (fun _ _ _ ht => wanted_x rfl (ht 53 rfl) rfl) ?_
       refine Dw_skip (fun _ _ _ ht => wanted_x rfl (ht 53 rfl) rfl) ?_
       refine Dw_skip (fun _ _ _ ht => wanted_x rfl (ht 53 rfl) rfl) ?_
       refine Dw_eq (Value.bool true) (fun ρ136 w137 g hle hi ht => ?_) ?_
       ·
        obtain ⟨-, hst, -⟩ := hle
        refine StepOp_plain (op_pick_t (v := (Value.bool true)) (ht 53 rfl) rfl ?_)
        exact Goes.same hi rfl
       refine Dw_eq (Value.bool true) (fun ρ139 w140 g hle hi ht => ?_) ?_
       ·
        obtain ⟨-, hst, -⟩ := hle
        refine StepOp_plain (op_move (v := (Value.bool true)) (ht 59 rfl) ?_)
        exact Goes.same hi rfl
       refine Dw_skip (fun _ _ _ ht => wanted_x rfl (ht 60 rfl) rfl) ?_
       refine Dw_skip (fun _ _ _ ht => wanted_x rfl (ht 60 rfl) rfl) ?_
       refine Dw_nil fun w146 g147 hl148 hi149 => ?_
       obtain ⟨-, hst150, -⟩ := hl148
       obtain ⟨hs152, p151⟩ := Step.nx hi149
       rintro _ rfl
       rintro _ rfl
       rintro _ rfl
       rintro _ rfl
       rintro _ rfl
       rintro _ rfl
       rintro _ rfl
       rintro _ rfl
       rintro _ rfl
       rintro _ rfl
       rintro _ rfl
       rintro _ rfl
       rintro _ rfl
       rintro _ rfl
       rintro _ rfl
       rintro _ rfl
       rintro _ rfl
       rintro v153 h154
       replace h154 : Vr.vd vB _ _ _ _ := h154
       obtain rfl := h154
       rintro v156 h157
       replace h157 : Vr.vd (vI .i64) _ _ _ _ := h157
       obtain ⟨rfl, r_y158⟩ := h157
       rintro _ ⟨p159, rfl, f160⟩
       rintro _ rfl
       rintro _ rfl
       rintro _ rfl
       rintro v161 h162
       replace h162 : Vr.vd (vFv2 Try.prog (vI .i64) (vI .i64) vB) _ _ _ _ := h162
       have F_y163 := h162
       replace F_y163 : CallsTo2 Try.prog _ _ v161 (vI .i64) (vI .i64) vB (fun x24 x25 => m44_coalition_Check_1 x24 x25) := F_y163
       have p165 : Step (ks [(some b1, Obj.cells [(Value.int .i64 r_.slots), (Value.slice a_r__owners r_.owners.length c_r__owners), (Value.slice a_r__costs r_.costs.length c_r__costs)].toArray 25)] O) w52 (ks [(some b1, Obj.cells [(Value.int .i64 r_.slots), (Value.slice a_r__owners r_.owners.length c_r__owners), (Value.slice a_r__costs r_.costs.length c_r__costs)].toArray 25)] O) w146 := hst150.trans p151
       replace f160 := f160.step p151; replace F_y163 := F_y163.step p151; replace f_r__owners := f_r__owners.step p165; replace f_r__costs := f_r__costs.step p165; replace f42 := f42.step p165; replace f_y64 := f_y64.step p165; replace ch57 := ch57.trans p165; replace ch76 := ch76.trans p165; clear p165 hs53
       refine Rg_opx rfl (asB_ne rfl rfl) rfl ?_
       refine Rg_op rfl (op_pick_t (v := (Value.bool true)) rfl rfl ?_)
       refine Rg_nil ?_
       exact hK69 _ _ ⟨true, _, rfl, ⟨(by repeat (first | with_reducible exact Out.refl _ _ | refine Out.upd ?_ rfl | refine Out.updL ?_ rfl | refine Out.mix' ?_ rfl | exact Out.refl _ _)), rfl, rfl, trivial⟩, ch76, hs152, hm⟩
      ·
       replace hm := bif_f hm hg129
       refine Dw_eq (Value.slice a_y64 (r_.costs.getD v_2.toNat default).length c_y64) (fun ρ166 w167 g hle hi ht => ?_) ?_
       ·
        obtain ⟨-, hst, -⟩ := hle
        refine StepOp_g rfl (ht 46 rfl) (op_move (v := (Value.slice a_y64 (r_.costs.getD v_2.toNat default).length c_y64)) (ht 5 rfl) ?_)
        exact Goes.same hi rfl
       refine Dw_eq (Value.int .i64 ((r_.costs.getD v_2.toNat default).length : Int)) (fun ρ169 w170 g hle hi ht => ?_) ?_
       ·
        obtain ⟨-, hst, -⟩ := hle
        refine StepOp_g rfl (ht 46 rfl) (op_len Try.underlying22 (ht 47 rfl) ?_)
        exact Goes.same hi rfl
       refine Dw_eq (Value.pointer (some ⟨b1, 0, none⟩)) (fun ρ172 w173 g hle hi ht => ?_) ?_
       ·
        obtain ⟨-, hst, -⟩ := hle
        refine StepOp_g rfl (ht 46 rfl) (op_fieldAddr ty25 rfl ty3 (by decide) (ht 1 rfl) (rfl : _ = (⟨_, 0, none⟩ : Addr)) ?_)
        exact Goes.same hi rfl
       refine Dw_eq (Value.int .i64 r_.slots) (fun ρ175 w176 g hle hi ht => ?_) ?_
       ·
        obtain ⟨-, hst, -⟩ := hle
        have hsn := (Step.nx hi).1
        refine StepOp_g rfl (ht 46 rfl) (op_load (cs := [(Value.int .i64 r_.slots), (Value.slice a_r__owners r_.owners.length c_r__owners), (Value.slice a_r__costs r_.costs.length c_r__costs)]) (i := 0) ty3 hsn (ht 49 rfl) rfl rfl ?_)
        exact Goes.same hi rfl
       refine Dw_eq (Value.bool (decide (((r_.costs.getD v_2.toNat default).length : Int) ≠ r_.slots))) (fun ρ178 w179 g hle hi ht => ?_) ?_
       ·
        obtain ⟨-, hst, -⟩ := hle
        refine StepOp_g rfl (ht 46 rfl) (op_neq (ht 48 rfl) (ht 50 rfl) ?_)
        exact Goes.same hi rfl
       refine Dw_eq (Value.bool (decide (((r_.costs.getD v_2.toNat default).length : Int) ≠ r_.slots))) (fun ρ181 w182 g hle hi ht => ?_) ?_
       ·
        obtain ⟨-, hst, -⟩ := hle
        refine StepOp_plain (op_pick_f (v := (Value.bool (decide (((r_.costs.getD v_2.toNat default).length : Int) ≠ r_.slots)))) (ht 46 rfl) (ht 51 rfl) ?_)
        exact Goes.same hi rfl
       refine Dw_opB (decide (((r_.costs.getD v_2.toNat default).length : Int) ≠ r_.slots)) (fun ρ184 w185 g hle hi ht => ?_) (fun hg187 => ?_) (fun hg187 => ?_)
       ·
        obtain ⟨-, hst, -⟩ := hle
        refine StepOp_plain (op_move (v := (Value.bool (decide (((r_.costs.getD v_2.toNat default).length : Int) ≠ r_.slots)))) (ht 52 rfl) ?_)
        exact Goes.same hi rfl
       ·
        replace hm := bif_t hm hg187
        refine Dw_skip (fun _ _ _ ht => wanted_x rfl (ht 53 rfl) rfl) ?_
        refine Dw_skip (fun _ _ _ ht => wanted_x rfl (ht 53 rfl) rfl) ?_
        refine Dw_skip (fun _ _ _ ht => wanted_x rfl (ht 53 rfl) rfl) ?_
        refine Dw_skip (fun _ _ _ ht => wanted_x rfl (ht 53 rfl) rfl) ?_
        refine Dw_skip (fun _ _ _ ht => wanted_x rfl (ht 53 rfl) rfl) ?_
        refine Dw_eq (Value.bool true) (fun ρ188 w189 g hle hi ht => ?_) ?_
        ·
         obtain ⟨-, hst, -⟩ := hle
         refine StepOp_plain (op_pick_t (v := (Value.bool true)) (ht 53 rfl) rfl ?_)
         exact Goes.same hi rfl
        refine Dw_eq (Value.bool true) (fun ρ191 w192 g hle hi ht => ?_) ?_
        ·
         obtain ⟨-, hst, -⟩ := hle
         refine StepOp_plain (op_move (v := (Value.bool true)) (ht 59 rfl) ?_)
         exact Goes.same hi rfl
        refine Dw_skip (fun _ _ _ ht => wanted_x rfl (ht 60 rfl) rfl) ?_
        refine Dw_skip (fun _ _ _ ht => wanted_x rfl (ht 60 rfl) rfl) ?_
        refine Dw_nil fun w198 g199 hl200 hi201 => ?_
        obtain ⟨-, hst202, -⟩ := hl200
        obtain ⟨hs204, p203⟩ := Step.nx hi201
        rintro _ rfl
        rintro _ rfl
        rintro _ rfl
        rintro _ rfl
        rintro _ rfl
        rintro _ rfl
        rintro _ rfl
        rintro _ rfl
        rintro _ rfl
        rintro _ rfl
        rintro _ rfl
        rintro _ rfl
        rintro _ rfl
        rintro _ rfl
        rintro _ rfl
        rintro _ rfl
        rintro _ rfl
        rintro v205 h206
        replace h206 : Vr.vd vB _ _ _ _ := h206
        obtain rfl := h206
        rintro v208 h209
        replace h209 : Vr.vd (vI .i64) _ _ _ _ := h209
        obtain ⟨rfl, r_y210⟩ := h209
        rintro _ ⟨p211, rfl, f212⟩
        rintro _ rfl
        rintro _ rfl
        rintro _ rfl
        rintro v213 h214
        replace h214 : Vr.vd (vFv2 Try.prog (vI .i64) (vI .i64) vB) _ _ _ _ := h214
        have F_y215 := h214
        replace F_y215 : CallsTo2 Try.prog _ _ v213 (vI .i64) (vI .i64) vB (fun x24 x25 => m44_coalition_Check_1 x24 x25) := F_y215
        have p217 : Step (ks [(some b1, Obj.cells [(Value.int .i64 r_.slots), (Value.slice a_r__owners r_.owners.length c_r__owners), (Value.slice a_r__costs r_.costs.length c_r__costs)].toArray 25)] O) w52 (ks [(some b1, Obj.cells [(Value.int .i64 r_.slots), (Value.slice a_r__owners r_.owners.length c_r__owners), (Value.slice a_r__costs r_.costs.length c_r__costs)].toArray 25)] O) w198 := hst202.trans p203
        replace f212 := f212.step p203; replace F_y215 := F_y215.step p203; replace f_r__owners := f_r__owners.step p217; replace f_r__costs := f_r__costs.step p217; replace f42 := f42.step p217; replace f_y64 := f_y64.step p217; replace ch57 := ch57.trans p217; replace ch76 := ch76.trans p217; clear p217 hs53
        refine Rg_opx rfl (asB_ne rfl rfl) rfl ?_
        refine Rg_op rfl (op_pick_t (v := (Value.bool true)) rfl rfl ?_)
        refine Rg_nil ?_
        exact hK69 _ _ ⟨true, _, rfl, ⟨(by repeat (first | with_reducible exact Out.refl _ _ | refine Out.upd ?_ rfl | refine Out.updL ?_ rfl | refine Out.mix' ?_ rfl | exact Out.refl _ _)), rfl, rfl, trivial⟩, ch76, hs204, hm⟩
       ·
        replace hm := bif_f hm hg187
        refine Dw_eq (Value.slice a_y64 (r_.costs.getD v_2.toNat default).length c_y64) (fun ρ218 w219 g hle hi ht => ?_) ?_
        ·
         obtain ⟨-, hst, -⟩ := hle
         refine StepOp_g rfl (ht 53 rfl) (op_move (v := (Value.slice a_y64 (r_.costs.getD v_2.toNat default).length c_y64)) (ht 5 rfl) ?_)
         exact Goes.same hi rfl
        refine Dw_eq (Value.int .i64 v_2) (fun ρ221 w222 g hle hi ht => ?_) ?_
        ·
         obtain ⟨-, hst, -⟩ := hle
         refine StepOp_g rfl (ht 53 rfl) (op_move (v := (Value.int .i64 v_2)) (ht 4 rfl) ?_)
         exact Goes.same hi rfl
        replace hm := ck_some hm; obtain ⟨hc227, hm⟩ := hm
        refine Dw_op (VP O [(some b1, Obj.cells [(Value.int .i64 r_.slots), (Value.slice a_r__owners r_.owners.length c_r__owners), (Value.slice a_r__costs r_.costs.length c_r__costs)].toArray 25)] (rInt .i64) ((r_.costs.getD v_2.toNat default).getD v_2.toNat default)) (VP.stab _ _) (fun ρ224 w225 g hle hi ht => ?_) ?_
        ·
         obtain ⟨-, hst, -⟩ := hle
         replace f_y64 := f_y64.step hst
         refine StepOp_g rfl (ht 53 rfl) (op_indexAddr (q := (rInt .i64)) ty22 ty3 (ht 54 rfl) (ht 55 rfl) f_y64 rfl hc227.1 hc227.2 ?_)
         intro p228 f229
         exact Goes.same hi ⟨_, rfl, f229⟩
        refine Dw_op (VD O [(some b1, Obj.cells [(Value.int .i64 r_.slots), (Value.slice a_r__owners r_.owners.length c_r__owners), (Value.slice a_r__costs r_.costs.length c_r__costs)].toArray 25)] (vI .i64) ((r_.costs.getD v_2.toNat default).getD v_2.toNat default)) (VD.stab _ _) (fun ρ230 w231 g hle hi ht => ?_) ?_
        ·
         obtain ⟨-, hst, -⟩ := hle
         obtain ⟨p233, q234, f235⟩ := ht 56 rfl
         refine StepOp_g rfl (ht 53 rfl) (op_loadP ty3 q234 f235 rfl ?_)
         intro v236 h237
         obtain ⟨rfl, r_y238⟩ := un_int h237
         exact Goes.same hi (show Vr.vd (vI .i64) _ _ _ _ from ⟨rfl, r_y238⟩)
        refine Dw_eq (Value.bool (decide (((r_.costs.getD v_2.toNat default).getD v_2.toNat default) < 0))) (fun ρ239 w240 g hle hi ht => ?_) ?_
        ·
         obtain ⟨-, hst, -⟩ := hle
         have h242 : Vr.vd (vI .i64) _ _ _ _ := ht 57 rfl
         obtain ⟨q243, r_y244⟩ := h242
         refine StepOp_g rfl (ht 53 rfl) (op_lss q243 rfl ?_)
         exact Goes.same hi rfl
        refine Dw_eq (Value.bool (decide (((r_.costs.getD v_2.toNat default).getD v_2.toNat default) < 0))) (fun ρ245 w246 g hle hi ht => ?_) ?_
        ·
         obtain ⟨-, hst, -⟩ := hle
         refine StepOp_plain (op_pick_f (v := (Value.bool (decide (((r_.costs.getD v_2.toNat default).getD v_2.toNat default) < 0)))) (ht 53 rfl) (ht 58 rfl) ?_)
         exact Goes.same hi rfl
        refine Dw_opB (decide (((r_.costs.getD v_2.toNat default).getD v_2.toNat default) < 0)) (fun ρ248 w249 g hle hi ht => ?_) (fun hg251 => ?_) (fun hg251 => ?_)
        ·
         obtain ⟨-, hst, -⟩ := hle
         refine StepOp_plain (op_move (v := (Value.bool (decide (((r_.costs.getD v_2.toNat default).getD v_2.toNat default) < 0)))) (ht 59 rfl) ?_)
         exact Goes.same hi rfl
        ·
         replace hm := bif_t hm hg251
         refine Dw_skip (fun _ _ _ ht => wanted_x rfl (ht 60 rfl) rfl) ?_
         refine Dw_skip (fun _ _ _ ht => wanted_x rfl (ht 60 rfl) rfl) ?_
         refine Dw_nil fun w256 g257 hl258 hi259 => ?_
         obtain ⟨-, hst260, -⟩ := hl258
         obtain ⟨hs262, p261⟩ := Step.nx hi259
         rintro _ rfl
         rintro _ rfl
         rintro _ rfl
         rintro _ rfl
         rintro _ rfl
         rintro v263 h264
         replace h264 : Vr.vd (vI .i64) _ _ _ _ := h264
         obtain ⟨rfl, r_y265⟩ := h264
         rintro _ ⟨p266, rfl, f267⟩
         rintro _ rfl
         rintro _ rfl
         rintro _ rfl
         rintro _ rfl
         rintro _ rfl
         rintro _ rfl
         rintro _ rfl
         rintro _ rfl
         rintro _ rfl
         rintro _ rfl
         rintro v268 h269
         replace h269 : Vr.vd vB _ _ _ _ := h269
         obtain rfl := h269
         rintro v271 h272
         replace h272 : Vr.vd (vI .i64) _ _ _ _ := h272
         obtain ⟨rfl, r_y273⟩ := h272
         rintro _ ⟨p274, rfl, f275⟩
         rintro _ rfl
         rintro _ rfl
         rintro _ rfl
         rintro v276 h277
         replace h277 : Vr.vd (vFv2 Try.prog (vI .i64) (vI .i64) vB) _ _ _ _ := h277
         have F_y278 := h277
         replace F_y278 : CallsTo2 Try.prog _ _ v276 (vI .i64) (vI .i64) vB (fun x24 x25 => m44_coalition_Check_1 x24 x25) := F_y278
         have p280 : Step (ks [(some b1, Obj.cells [(Value.int .i64 r_.slots), (Value.slice a_r__owners r_.owners.length c_r__owners), (Value.slice a_r__costs r_.costs.length c_r__costs)].toArray 25)] O) w52 (ks [(some b1, Obj.cells [(Value.int .i64 r_.slots), (Value.slice a_r__owners r_.owners.length c_r__owners), (Value.slice a_r__costs r_.costs.length c_r__costs)].toArray 25)] O) w256 := hst260.trans p261
         replace f267 := f267.step p261; replace f275 := f275.step p261; replace F_y278 := F_y278.step p261; replace f_r__owners := f_r__owners.step p280; replace f_r__costs := f_r__costs.step p280; replace f42 := f42.step p280; replace f_y64 := f_y64.step p280; replace ch57 := ch57.trans p280; replace ch76 := ch76.trans p280; clear p280 hs53
         refine Rg_opx rfl (asB_ne rfl rfl) rfl ?_
         refine Rg_op rfl (op_pick_t (v := (Value.bool true)) rfl rfl ?_)
         refine Rg_nil ?_
         exact hK69 _ _ ⟨true, _, rfl, ⟨(by repeat (first | with_reducible exact Out.refl _ _ | refine Out.upd ?_ rfl | refine Out.updL ?_ rfl | refine Out.mix' ?_ rfl | exact Out.refl _ _)), rfl, rfl, trivial⟩, ch76, hs262, hm⟩
        ·
         replace hm := bif_f hm hg251
         refine Dw_eq (Value.slice a_y64 (r_.costs.getD v_2.toNat default).length c_y64) (fun ρ281 w282 g hle hi ht => ?_) ?_
         ·
          obtain ⟨-, hst, -⟩ := hle
          refine StepOp_g rfl (ht 60 rfl) (op_move (v := (Value.slice a_y64 (r_.costs.getD v_2.toNat default).length c_y64)) (ht 5 rfl) ?_)
          exact Goes.same hi rfl
         have F288 : CallsTo1 Try.prog w52 (ks [(some b1, Obj.cells [(Value.int .i64 r_.slots), (Value.slice a_r__owners r_.owners.length c_r__owners), (Value.slice a_r__costs r_.costs.length c_r__costs)].toArray 25)] O) (Value.func (.func 46) #[] #[(Value.pointer (some (⟨b19, 0, none⟩ : Addr)))]) (vI .i64) vB (fun x287 => m46_coalition_Check_2 x287 (fun x24 x25 => m44_coalition_Check_1 x24 x25)) := by
          intro w289 O290 st291 hO292 v295 x287 y293 h296 hy294
          obtain ⟨rfl, r_y297⟩ := h296
          exact ⟨46, #[], #[(Value.pointer (some (⟨b19, 0, none⟩ : Addr)))], rfl, Try.call46, c46_coalition_Check_2 (c := x287) hO292 r_y297 (f42.step st291) hy294⟩
         refine Dw_eq (Value.func (.func 46) #[] #[(Value.pointer (some (⟨b19, 0, none⟩ : Addr)))]) (fun ρ284 w285 g hle hi ht => ?_) ?_
         ·
          obtain ⟨-, hst, -⟩ := hle
          refine StepOp_g rfl (ht 60 rfl) (op_makeFunc' (a' := []) (c' := [(Value.pointer (some (⟨b19, 0, none⟩ : Addr)))]) rfl (by simp only [List.map, Array.toList, (show ev _ (.tmp 3) = _ from (ht 3 rfl))] <;> rfl) ?_)
          exact Goes.same hi rfl
         refine Dw_nil fun w302 g303 hl304 hi305 => ?_
         obtain ⟨-, hst306, -⟩ := hl304
         obtain ⟨hs308, p307⟩ := Step.nx hi305
         rintro _ rfl
         rintro _ rfl
         rintro _ rfl
         rintro _ rfl
         rintro _ rfl
         rintro v309 h310
         replace h310 : Vr.vd (vI .i64) _ _ _ _ := h310
         obtain ⟨rfl, r_y311⟩ := h310
         rintro _ ⟨p312, rfl, f313⟩
         rintro _ rfl
         rintro _ rfl
         rintro _ rfl
         rintro _ rfl
         rintro _ rfl
         rintro _ rfl
         rintro _ rfl
         rintro _ rfl
         rintro _ rfl
         rintro _ rfl
         rintro v314 h315
         replace h315 : Vr.vd vB _ _ _ _ := h315
         obtain rfl := h315
         rintro v317 h318
         replace h318 : Vr.vd (vI .i64) _ _ _ _ := h318
         obtain ⟨rfl, r_y319⟩ := h318
         rintro _ ⟨p320, rfl, f321⟩
         rintro _ rfl
         rintro _ rfl
         rintro _ rfl
         rintro v322 h323
         replace h323 : Vr.vd (vFv2 Try.prog (vI .i64) (vI .i64) vB) _ _ _ _ := h323
         have F_y324 := h323
         replace F_y324 : CallsTo2 Try.prog _ _ v322 (vI .i64) (vI .i64) vB (fun x24 x25 => m44_coalition_Check_1 x24 x25) := F_y324
         have p326 : Step (ks [(some b1, Obj.cells [(Value.int .i64 r_.slots), (Value.slice a_r__owners r_.owners.length c_r__owners), (Value.slice a_r__costs r_.costs.length c_r__costs)].toArray 25)] O) w52 (ks [(some b1, Obj.cells [(Value.int .i64 r_.slots), (Value.slice a_r__owners r_.owners.length c_r__owners), (Value.slice a_r__costs r_.costs.length c_r__costs)].toArray 25)] O) w302 := hst306.trans p307
         replace f313 := f313.step p307; replace f321 := f321.step p307; replace F_y324 := F_y324.step p307; replace f_r__owners := f_r__owners.step p326; replace f_r__costs := f_r__costs.step p326; replace f42 := f42.step p326; replace f_y64 := f_y64.step p326; replace F288 := F288.step p326; replace ch57 := ch57.trans p326; replace ch76 := ch76.trans p326; clear p326 hs53
         replace hm := bd hm; obtain ⟨containsfunc_1, hv327, hm⟩ := hm
         refine Rg_opg rfl rfl rfl (op_call Try.call45 (c45_slices_ContainsFuncint_int_ (s := (r_.costs.getD v_2.toNat default)) (f := (fun x287 => m46_coalition_Check_2 x287 (fun x24 x25 => m44_coalition_Check_1 x24 x25))) hs308.ltw f_y64 F288 hv327) rfl ?_)
         rintro v328 w329 ⟨hx330, h331⟩
         have hs332 := hs308.call hx330
         have p333 := Step.ext (O := ks [(some b1, Obj.cells [(Value.int .i64 r_.slots), (Value.slice a_r__owners r_.owners.length c_r__owners), (Value.slice a_r__costs r_.costs.length c_r__costs)].toArray 25)] O) hx330
         clear hx330
         replace f_r__owners := f_r__owners.step p333; replace f_r__costs := f_r__costs.step p333; replace f42 := f42.step p333; replace f_y64 := f_y64.step p333; replace F288 := F288.step p333; replace f313 := f313.step p333; replace f321 := f321.step p333; replace F_y324 := F_y324.step p333; replace ch57 := ch57.trans p333; replace ch76 := ch76.trans p333; clear p333 hs308
         obtain rfl := h331
         refine Rg_op rfl (op_pick_f (v := (Value.bool containsfunc_1)) rfl rfl ?_)
         refine Rg_nil ?_
         exact hK69 _ _ ⟨containsfunc_1, _, rfl, ⟨(by repeat (first | with_reducible exact Out.refl _ _ | refine Out.upd ?_ rfl | refine Out.updL ?_ rfl | refine Out.mix' ?_ rfl | exact Out.refl _ _)), rfl, rfl, trivial⟩, ch76, hs332, hm⟩
    ·
     replace hm := bif_f hm hc58
     refine Wp_exit ?_
     refine Wp_seq ?_
     obtain ⟨hs335, p336⟩ := hs53.sub (bs' := []) (.cons _ List.Sublist.slnil)
     clear f_r__owners f_r__costs f42
     replace ch57 := ch57.trans p336; clear p336 hs53
     refine Wp_region ?_
     refine Rg_op rfl (op_assign (v := (Value.int .i64 0)) rfl ?_)
     refine Rg_nil ?_
     refine Wp_ret ?_
     have hz := step_all hs335
     refine ⟨_, (show Closes [] _ _ from rfl), [(Value.int .i64 0)], ⟨rfl, trivial⟩, hs335.ext, ?_⟩
     exact Vr.eq (a := (vI .i64)) (x := 0) ⟨rfl, (show InK .i64 0 from by decide)⟩ (Option.some.inj hm)
 ·
  intro K10 hK10
  have ch337 := Step.refl (ks [(some b1, Obj.cells [(Value.int .i64 r_.slots), (Value.slice a_r__owners r_.owners.length c_r__owners), (Value.slice a_r__costs r_.costs.length c_r__costs)].toArray 25)] O) w2
  refine Wp_region ?_
  refine Rg_op rfl (op_fieldAddr ty25 rfl ty3 (by decide) rfl (rfl : _ = (⟨_, 0, none⟩ : Addr)) ?_)
  refine Rg_op rfl (op_load (cs := [(Value.int .i64 r_.slots), (Value.slice a_r__owners r_.owners.length c_r__owners), (Value.slice a_r__costs r_.costs.length c_r__costs)]) (i := 0) ty3 hs4 rfl rfl rfl ?_)
  refine Rg_op rfl (op_lss rfl rfl ?_)
  refine Rg_op rfl (op_move (v := (Value.bool (decide (r_.slots < 1)))) rfl ?_)
  refine Rg_case (fun hg338 => ?_) (fun hg338 => ?_)
  ·
   replace hm := bif_t hm hg338
   iterate 3 refine Rg_opx rfl (asB_ne rfl rfl) rfl ?_
   refine Rg_op rfl (op_pick_t (v := (Value.bool true)) rfl rfl ?_)
   refine Rg_op rfl (op_move (v := (Value.bool true)) rfl ?_)
   iterate 6 refine Rg_opx rfl (asB_ne rfl rfl) rfl ?_
   refine Rg_op rfl (op_pick_t (v := (Value.bool true)) rfl rfl ?_)
   refine Rg_op rfl (op_move (v := (Value.bool true)) rfl ?_)
   iterate 7 refine Rg_opx rfl (asB_ne rfl rfl) rfl ?_
   refine Rg_op rfl (op_pick_t (v := (Value.bool true)) rfl rfl ?_)
   refine Rg_nil ?_
   exact hK10 _ _ ⟨true, _, rfl, ⟨(by repeat (first | with_reducible exact Out.refl _ _ | refine Out.upd ?_ rfl | refine Out.updL ?_ rfl | refine Out.mix' ?_ rfl | exact Out.refl _ _)), rfl, rfl, trivial⟩, ch337, hs4, hm⟩
  ·
   replace hm := bif_f hm hg338
   refine Rg_opg rfl rfl rfl (op_fieldAddr ty25 rfl ty3 (by decide) rfl (rfl : _ = (⟨_, 0, none⟩ : Addr)) ?_)
   refine Rg_opg rfl rfl rfl (op_load (cs := [(Value.int .i64 r_.slots), (Value.slice a_r__owners r_.owners.length c_r__owners), (Value.slice a_r__costs r_.costs.length c_r__costs)]) (i := 0) ty3 hs4 rfl rfl rfl ?_)
   refine Rg_opg rfl rfl rfl (op_gtr rfl rfl ?_)
   refine Rg_op rfl (op_pick_f (v := (Value.bool (decide (8 < r_.slots)))) rfl rfl ?_)
   refine Rg_op rfl (op_move (v := (Value.bool (decide (8 < r_.slots)))) rfl ?_)
   refine Rg_case (fun hg339 => ?_) (fun hg339 => ?_)
   ·
    replace hm := bif_t hm hg339
    iterate 6 refine Rg_opx rfl (asB_ne rfl rfl) rfl ?_
    refine Rg_op rfl (op_pick_t (v := (Value.bool true)) rfl rfl ?_)
    refine Rg_op rfl (op_move (v := (Value.bool true)) rfl ?_)
    iterate 7 refine Rg_opx rfl (asB_ne rfl rfl) rfl ?_
    refine Rg_op rfl (op_pick_t (v := (Value.bool true)) rfl rfl ?_)
    refine Rg_nil ?_
    exact hK10 _ _ ⟨true, _, rfl, ⟨(by repeat (first | with_reducible exact Out.refl _ _ | refine Out.upd ?_ rfl | refine Out.updL ?_ rfl | refine Out.mix' ?_ rfl | exact Out.refl _ _)), rfl, rfl, trivial⟩, ch337, hs4, hm⟩
   ·
    replace hm := bif_f hm hg339
    refine Rg_opg rfl rfl rfl (op_fieldAddr ty25 rfl ty22 (by decide) rfl (rfl : _ = (⟨_, 1, none⟩ : Addr)) ?_)
    refine Rg_opg rfl rfl rfl (op_load (cs := [(Value.int .i64 r_.slots), (Value.slice a_r__owners r_.owners.length c_r__owners), (Value.slice a_r__costs r_.costs.length c_r__costs)]) (i := 0) ty22 hs4 rfl rfl rfl ?_)
    refine Rg_opg rfl rfl rfl (op_len Try.underlying22 rfl ?_)
    have rl340 := inK_len f_r__owners
    refine Rg_opg rfl rfl rfl (op_fieldAddr ty25 rfl ty3 (by decide) rfl (rfl : _ = (⟨_, 0, none⟩ : Addr)) ?_)
    refine Rg_opg rfl rfl rfl (op_load (cs := [(Value.int .i64 r_.slots), (Value.slice a_r__owners r_.owners.length c_r__owners), (Value.slice a_r__costs r_.costs.length c_r__costs)]) (i := 0) ty3 hs4 rfl rfl rfl ?_)
    refine Rg_opg rfl rfl rfl (op_gtr rfl rfl ?_)
    refine Rg_op rfl (op_pick_f (v := (Value.bool (decide (r_.slots < (r_.owners.length : Int))))) rfl rfl ?_)
    refine Rg_op rfl (op_move (v := (Value.bool (decide (r_.slots < (r_.owners.length : Int))))) rfl ?_)
    refine Rg_case (fun hg341 => ?_) (fun hg341 => ?_)
    ·
     replace hm := bif_t hm hg341
     iterate 7 refine Rg_opx rfl (asB_ne rfl rfl) rfl ?_
     refine Rg_op rfl (op_pick_t (v := (Value.bool true)) rfl rfl ?_)
     refine Rg_nil ?_
     exact hK10 _ _ ⟨true, _, rfl, ⟨(by repeat (first | with_reducible exact Out.refl _ _ | refine Out.upd ?_ rfl | refine Out.updL ?_ rfl | refine Out.mix' ?_ rfl | exact Out.refl _ _)), rfl, rfl, trivial⟩, ch337, hs4, hm⟩
    ·
     replace hm := bif_f hm hg341
     refine Rg_opg rfl rfl rfl (op_fieldAddr ty25 rfl ty23 (by decide) rfl (rfl : _ = (⟨_, 2, none⟩ : Addr)) ?_)
     refine Rg_opg rfl rfl rfl (op_load (cs := [(Value.int .i64 r_.slots), (Value.slice a_r__owners r_.owners.length c_r__owners), (Value.slice a_r__costs r_.costs.length c_r__costs)]) (i := 0) ty23 hs4 rfl rfl rfl ?_)
     refine Rg_opg rfl rfl rfl (op_len Try.underlying23 rfl ?_)
     have rl342 := inK_len f_r__costs
     refine Rg_opg rfl rfl rfl (op_fieldAddr ty25 rfl ty22 (by decide) rfl (rfl : _ = (⟨_, 1, none⟩ : Addr)) ?_)
     refine Rg_opg rfl rfl rfl (op_load (cs := [(Value.int .i64 r_.slots), (Value.slice a_r__owners r_.owners.length c_r__owners), (Value.slice a_r__costs r_.costs.length c_r__costs)]) (i := 0) ty22 hs4 rfl rfl rfl ?_)
     refine Rg_opg rfl rfl rfl (op_len Try.underlying22 rfl ?_)
     have rl343 := inK_len f_r__owners
     refine Rg_opg rfl rfl rfl (op_neq rfl rfl ?_)
     refine Rg_op rfl (op_pick_f (v := (Value.bool (decide ((r_.costs.length : Int) ≠ (r_.owners.length : Int))))) rfl rfl ?_)
     refine Rg_nil ?_
     exact hK10 _ _ ⟨(decide ((r_.costs.length : Int) ≠ (r_.owners.length : Int))), _, rfl, ⟨(by repeat (first | with_reducible exact Out.refl _ _ | refine Out.upd ?_ rfl | refine Out.updL ?_ rfl | refine Out.mix' ?_ rfl | exact Out.refl _ _)), rfl, rfl, trivial⟩, ch337, hs4, hm⟩

end Go.Fx



set_option linter.unusedVariables false
set_option linter.unusedSimpArgs false
set_option maxRecDepth 100000
set_option maxHeartbeats 0
namespace Go.Fx
open Go Go.RowKit Go.Proofs
def m64_slices_Indexint_int__B0 (s : List Int) (v : Int) (sf4 : Int → Option Int) (v_1 : Int) : Option Int :=
 bif (decide (v_1 < (s.length : Int))) then
  ck ((0 : Int) ≤ v_1 ∧ v_1 < (s.length : Int)) <|
  bif (decide (v = (s.getD v_1.toNat default))) then
   some v_1
  else
   sf4 (IntKind.wrap .i64 (v_1 + 1))
 else
  some (-1)

def m64_slices_Indexint_int_ (s : List Int) (v : Int) : Option Int :=
 loop1 (m64_slices_Indexint_int__B0 s v) (((s.length : Int) - 0).toNat + 1) 0

theorem c64_slices_Indexint_int_ {w : World} {O : List Nat} {s : List Int} {v : Int} {a_s : Option Addr} {c_s : Nat} (hO : ∀ k ∈ O, k < w.heap.size) (f_s : SlR (rInt .i64) w O a_s c_s s) (r_v : InK .i64 v) {x : Int} (hm : m64_slices_Indexint_int_ s v = some x) :
  Ok Try.prog 64 [(Value.slice a_s s.length c_s), (Value.int .i64 v)] w O (vI .i64) x := by
 unfold m64_slices_Indexint_int_ at hm
 refine Fn_of_Wp (n := 19) (xs := [.tmp 4]) Try.func64 rfl Try.ntmps64 Try.results64 rfl ?_
 have hs := St.start hO
 refine Wp_seq ?_
 refine Wp_region ?_
 refine Rg_op rfl (op_assign (v := (Value.int .i64 0)) rfl ?_)
 refine Rg_nil ?_
 refine Wp_seq ?_
 refine Wp_seq ?_
 refine Wp_region ?_
 refine Rg_op rfl (op_move (v := (Value.slice a_s s.length c_s)) rfl ?_)
 refine Rg_op rfl (op_len Try.underlying22 rfl ?_)
 have rl1 := inK_len f_s
 refine Rg_op rfl (op_move (v := (Value.int .i64 0)) rfl ?_)
 refine Rg_nil ?_
 refine Wp_block ?_
 refine Wp_reset [] [(0, (Value.slice a_s s.length c_s)), (1, (Value.int .i64 v)), (7, (Value.int .i64 (s.length : Int))), (8, (Value.int .i64 0))] rfl ⟨rfl, rfl, rfl, rfl, trivial⟩ fun ξ3 => ?_
 refine Wp_loopM [4, 5, 8, 9, 10, 11, 12, 13, 14, 15, 16, 17, 18] (fun m fr w' => ∃ (v_1 : Int) (Ebs : Ents), Ebs = [] ∧ fr [] [(8, (Value.int .i64 v_1))] ∧ Step (ks [] O) w (ks Ebs O) w' ∧ St ⟨w, [], []⟩ O w' Ebs ∧ InK .i64 v_1 ∧ loop1 (m64_slices_Indexint_int__B0 s v) m v_1 = some x) (((s.length : Int) - 0).toNat + 1) ⟨0, _, rfl, ⟨Out.refl _ _, rfl, rfl, trivial⟩, Step.refl _ _, hs, (show InK .i64 0 from by decide), hm⟩ ?_ ?_
 · rintro _ _ ⟨_, _, _, _, _, _, _, hm⟩; exact loop1_z hm
 ·
  rintro m7 K6 hK6 ρ12 w8 ⟨v_1, Ebs, hEbs, hfr11, hst10, hs9, r_y2, hm⟩
  obtain ⟨sf4, hsf5, hm⟩ := loop1_s hm; unfold m64_slices_Indexint_int__B0 at hm
  subst hEbs; rw [hfr11.eq]; clear hfr11
  replace f_s := f_s.step hst10
  have ch13 := hst10
  refine Wp_seq ?_
  refine Wp_region ?_
  refine Rg_op rfl (op_lss rfl rfl ?_)
  refine Rg_nil ?_
  refine Wp_seq ?_
  refine Wp_cond rfl (fun hc14 => ?_) (fun hc14 => ?_)
  ·
   replace hm := bif_t hm hc14
   refine Wp_skip ?_
   refine Wp_seq ?_
   refine Wp_block ?_
   refine Wp_seq ?_
   refine Wp_region ?_
   refine Rg_op rfl (op_move (v := (Value.int .i64 v_1)) rfl ?_)
   refine Rg_op rfl (op_assign (v := (Value.int .i64 v_1)) rfl ?_)
   refine Rg_nil ?_
   refine Wp_seq ?_
   refine Wp_region ?_
   refine Rg_op rfl (op_move (v := (Value.int .i64 v)) rfl ?_)
   refine Rg_op rfl (op_move (v := (Value.slice a_s s.length c_s)) rfl ?_)
   refine Rg_op rfl (op_move (v := (Value.int .i64 v_1)) rfl ?_)
   replace hm := ck_some hm; obtain ⟨hc15, hm⟩ := hm
   refine Rg_op rfl (op_indexAddr (q := (rInt .i64)) ty22 ty3 rfl rfl f_s rfl hc15.1 hc15.2 ?_)
   intro p16 f17
   refine Rg_op rfl (op_loadP ty3 rfl f17 rfl ?_)
   intro v18 h19
   obtain ⟨rfl, r_y20⟩ := un_int h19
   refine Rg_op rfl (op_eql rfl rfl ?_)
   refine Rg_nil ?_
   refine Wp_cond rfl (fun hc21 => ?_) (fun hc21 => ?_)
   ·
    replace hm := bif_t hm hc21
    refine Wp_seq ?_
    clear f_s f17
    refine Wp_region ?_
    refine Rg_op rfl (op_move (v := (Value.int .i64 v_1)) rfl ?_)
    refine Rg_op rfl (op_assign (v := (Value.int .i64 v_1)) rfl ?_)
    refine Rg_nil ?_
    refine Wp_ret ?_
    have hz := step_all hs9
    refine ⟨_, (show Closes [] _ _ from rfl), [(Value.int .i64 v_1)], ⟨rfl, trivial⟩, hs9.ext, ?_⟩
    exact Vr.eq (a := (vI .i64)) (x := v_1) ⟨rfl, r_y2⟩ (Option.some.inj hm)
   ·
    replace hm := bif_f hm hc21
    refine Wp_skip ?_
    clear f17
    refine Wp_region ?_
    refine Rg_op rfl (op_addw rfl rfl ?_)
    refine Rg_op rfl (op_move (v := (Value.int .i64 (IntKind.wrap .i64 (v_1 + 1)))) rfl ?_)
    refine Rg_nil ?_
    exact hK6 _ _ ⟨(IntKind.wrap .i64 (v_1 + 1)), _, rfl, ⟨(by repeat (first | with_reducible exact Out.refl _ _ | refine Out.upd ?_ rfl | refine Out.updL ?_ rfl | refine Out.mix' ?_ rfl | exact Out.refl _ _)), rfl, rfl, trivial⟩, ch13, hs9, (inK_wrap .i64 _), jnE1 hsf5 hm⟩
  ·
   replace hm := bif_f hm hc14
   refine Wp_exit ?_
   refine Wp_seq ?_
   clear f_s
   refine Wp_region ?_
   refine Rg_op rfl (op_assign (v := (Value.int .i64 (-1))) rfl ?_)
   refine Rg_nil ?_
   refine Wp_ret ?_
   have hz := step_all hs9
   refine ⟨_, (show Closes [] _ _ from rfl), [(Value.int .i64 (-1))], ⟨rfl, trivial⟩, hs9.ext, ?_⟩
   exact Vr.eq (a := (vI .i64)) (x := (-1)) ⟨rfl, (show InK .i64 (-1) from by decide)⟩ (Option.some.inj hm)

end Go.Fx



set_option linter.unusedVariables false
set_option linter.unusedSimpArgs false
set_option maxRecDepth 100000
set_option maxHeartbeats 0
namespace Go.Fx
open Go Go.RowKit Go.Proofs
def m43_slices_Containsint_int_ (s : List Int) (v : Int) : Option Bool :=
 (m64_slices_Indexint_int_ s v).bind fun index_1 =>
 some (decide (0 ≤ index_1))

theorem c43_slices_Containsint_int_ {w : World} {O : List Nat} {s : List Int} {v : Int} {a_s : Option Addr} {c_s : Nat} (hO : ∀ k ∈ O, k < w.heap.size) (f_s : SlR (rInt .i64) w O a_s c_s s) (r_v : InK .i64 v) {x : Bool} (hm : m43_slices_Containsint_int_ s v = some x) :
  Ok Try.prog 43 [(Value.slice a_s s.length c_s), (Value.int .i64 v)] w O vB x := by
 unfold m43_slices_Containsint_int_ at hm
 refine Fn_of_Wp (n := 9) (xs := [.tmp 4]) Try.func43 rfl Try.ntmps43 Try.results43 rfl ?_
 have hs := St.start hO
 refine Wp_seq ?_
 refine Wp_region ?_
 refine Rg_op rfl (op_assign (v := (Value.bool false)) rfl ?_)
 refine Rg_nil ?_
 refine Wp_seq ?_
 refine Wp_region ?_
 refine Rg_op rfl (op_move (v := (Value.slice a_s s.length c_s)) rfl ?_)
 refine Rg_op rfl (op_move (v := (Value.int .i64 v)) rfl ?_)
 replace hm := bd hm; obtain ⟨index_1, hv1, hm⟩ := hm
 refine Rg_op rfl (op_call Try.call64 (c64_slices_Indexint_int_ (s := s) (v := v) hs.ltw f_s r_v hv1) rfl ?_)
 rintro v2 w3 ⟨hx4, h5⟩
 have hs6 := hs.call hx4
 have p7 := Step.ext (O := ks [] O) hx4
 clear hx4
 replace f_s := f_s.step p7; clear p7
 obtain ⟨rfl, r_y8⟩ := h5
 refine Rg_op rfl (op_geq rfl rfl ?_)
 refine Rg_op rfl (op_assign (v := (Value.bool (decide (0 ≤ index_1)))) rfl ?_)
 refine Rg_nil ?_
 refine Wp_ret ?_
 have hz := step_all hs6
 replace f_s := f_s.step hz
 refine ⟨_, (show Closes [] _ _ from rfl), [(Value.bool (decide (0 ≤ index_1)))], ⟨rfl, trivial⟩, hs6.ext, ?_⟩
 exact Vr.eq (a := vB) (x := (decide (0 ≤ index_1))) rfl (Option.some.inj hm)

end Go.Fx



set_option linter.unusedVariables false
set_option linter.unusedSimpArgs false
set_option maxRecDepth 100000
set_option maxHeartbeats 0
namespace Go.Fx
open Go Go.RowKit Go.Proofs
def m47_coalition_allowed_B0 (r_ : XRound) (slots : List Int) (sf14 : Int → Option Bool) (v_1 : Int) : Option Bool :=
 bif (decide (v_1 < (slots.length : Int))) then
  ck ((0 : Int) ≤ v_1 ∧ v_1 < (slots.length : Int)) <|
  jn (fun (v_2 : Bool) =>
   bif v_2 then
    some false
   else
    sf14 (IntKind.wrap .i64 (v_1 + 1)))
  (fun k33 =>
   bif (decide ((slots.getD v_1.toNat default) < 0)) then
    k33 true
   else
    bif (decide (r_.slots ≤ (slots.getD v_1.toNat default))) then
     k33 true
    else
     ck ((0 : Int) ≤ v_1 ∧ v_1 < (r_.costs.length : Int)) <|
     ck ((0 : Int) ≤ (slots.getD v_1.toNat default) ∧ (slots.getD v_1.toNat default) < ((r_.costs.getD v_1.toNat default).length : Int)) <|
     bif (decide (((r_.costs.getD v_1.toNat default).getD (slots.getD v_1.toNat default).toNat default) < 0)) then
      k33 true
     else
      ck ((0 : Int) ≤ v_1 ∧ v_1 ≤ (slots.length : Int)) <|
      (m43_slices_Containsint_int_ ((slots.drop 0).take (v_1.toNat - 0)) (slots.getD v_1.toNat default)).bind fun contains_1 =>
      k33 contains_1)
 else
  some true

def m47_coalition_allowed (r_ : XRound) (slots : List Int) : Option Bool :=
 bif (decide ((slots.length : Int) ≠ (r_.owners.length : Int))) then
  some false
 else
  loop1 (m47_coalition_allowed_B0 r_ slots) (((slots.length : Int) - 0).toNat + 1) 0

theorem c47_coalition_allowed {w : World} {O : List Nat} {r_ : XRound} {slots : List Int} {a_r__owners : Option Addr} {c_r__owners : Nat} {a_r__costs : Option Addr} {c_r__costs : Nat} {a_slots : Option Addr} {c_slots : Nat} (hO : ∀ k ∈ O, k < w.heap.size) (r_r__slots : InK .i64 r_.slots) (f_r__owners : SlR (rInt .i64) w O a_r__owners c_r__owners r_.owners) (f_r__costs : SlR (rSl (rInt .i64)) w O a_r__costs c_r__costs r_.costs) (f_slots : SlR (rInt .i64) w O a_slots c_slots slots) {x : Bool} (hm : m47_coalition_allowed r_ slots = some x) :
  Ok Try.prog 47 [(Value.agg [(Value.int .i64 r_.slots), (Value.slice a_r__owners r_.owners.length c_r__owners), (Value.slice a_r__costs r_.costs.length c_r__costs)].toArray), (Value.slice a_slots slots.length c_slots)] w O vB x := by
 unfold m47_coalition_allowed at hm
 refine Fn_of_Wp (n := 47) (xs := [.tmp 4]) Try.func47 rfl Try.ntmps47 Try.results47 rfl ?_
 have hs := St.start hO
 refine Wp_seq ?_
 refine Wp_region ?_
 refine Rg_op rfl (op_box (cs := [(Value.int .i64 r_.slots), (Value.slice a_r__owners r_.owners.length c_r__owners), (Value.slice a_r__costs r_.costs.length c_r__costs)]) hs rfl rfl ?_)
 intro b1 w2 _ p3 hs4
 replace f_r__owners := f_r__owners.step p3; replace f_r__costs := f_r__costs.step p3; replace f_slots := f_slots.step p3; clear p3
 refine Rg_op rfl (op_assign (v := (Value.bool false)) rfl ?_)
 refine Rg_nil ?_
 refine Wp_seq ?_
 refine Wp_seq ?_
 refine Wp_region ?_
 refine Rg_op rfl (op_move (v := (Value.slice a_slots slots.length c_slots)) rfl ?_)
 refine Rg_op rfl (op_len Try.underlying22 rfl ?_)
 have rl6 := inK_len f_slots
 refine Rg_op rfl (op_fieldAddr ty25 rfl ty22 (by decide) rfl (rfl : _ = (⟨_, 1, none⟩ : Addr)) ?_)
 refine Rg_op rfl (op_load (cs := [(Value.int .i64 r_.slots), (Value.slice a_r__owners r_.owners.length c_r__owners), (Value.slice a_r__costs r_.costs.length c_r__costs)]) (i := 0) ty22 hs4 rfl rfl rfl ?_)
 refine Rg_op rfl (op_len Try.underlying22 rfl ?_)
 have rl7 := inK_len f_r__owners
 refine Rg_op rfl (op_neq rfl rfl ?_)
 refine Rg_nil ?_
 refine Wp_cond rfl (fun hc8 => ?_) (fun hc8 => ?_)
 ·
  replace hm := bif_t hm hc8
  refine Wp_seq ?_
  obtain ⟨hs9, p10⟩ := hs4.sub (bs' := []) (.cons _ List.Sublist.slnil)
  clear f_r__owners f_r__costs f_slots
  clear p10 hs4
  refine Wp_region ?_
  refine Rg_op rfl (op_assign (v := (Value.bool false)) rfl ?_)
  refine Rg_nil ?_
  refine Wp_ret ?_
  have hz := step_all hs9
  refine ⟨_, (show Closes [] _ _ from rfl), [(Value.bool false)], ⟨rfl, trivial⟩, hs9.ext, ?_⟩
  exact Vr.eq (a := vB) (x := false) rfl (Option.some.inj hm)
 ·
  replace hm := bif_f hm hc8
  refine Wp_skip ?_
  refine Wp_seq ?_
  refine Wp_seq ?_
  refine Wp_region ?_
  refine Rg_op rfl (op_move (v := (Value.slice a_slots slots.length c_slots)) rfl ?_)
  refine Rg_op rfl (op_len Try.underlying22 rfl ?_)
  have rl11 := inK_len f_slots
  refine Rg_op rfl (op_move (v := (Value.int .i64 0)) rfl ?_)
  refine Rg_nil ?_
  refine Wp_block ?_
  refine Wp_reset [] [(1, (Value.slice a_slots slots.length c_slots)), (2, (Value.pointer (some ⟨b1, 0, none⟩))), (13, (Value.slice a_slots slots.length c_slots)), (14, (Value.int .i64 (slots.length : Int))), (15, (Value.int .i64 0))] rfl ⟨rfl, rfl, rfl, rfl, rfl, trivial⟩ fun ξ13 => ?_
  refine Wp_loopM [4, 5, 6, 15, 16, 17, 18, 19, 20, 21, 22, 23, 24, 25, 26, 27, 28, 29, 30, 31, 32, 33, 34, 35, 36, 37, 38, 39, 40, 41, 42, 43, 44, 45, 46] (fun m fr w' => ∃ (v_1 : Int) (Ebs : Ents), Ebs = [(some b1, Obj.cells [(Value.int .i64 r_.slots), (Value.slice a_r__owners r_.owners.length c_r__owners), (Value.slice a_r__costs r_.costs.length c_r__costs)].toArray 25)] ∧ fr [] [(15, (Value.int .i64 v_1))] ∧ Step (ks [(some b1, Obj.cells [(Value.int .i64 r_.slots), (Value.slice a_r__owners r_.owners.length c_r__owners), (Value.slice a_r__costs r_.costs.length c_r__costs)].toArray 25)] O) w2 (ks Ebs O) w' ∧ St ⟨w, [], []⟩ O w' Ebs ∧ InK .i64 v_1 ∧ loop1 (m47_coalition_allowed_B0 r_ slots) m v_1 = some x) (((slots.length : Int) - 0).toNat + 1) ⟨0, _, rfl, ⟨Out.refl _ _, rfl, rfl, trivial⟩, Step.refl _ _, hs4, (show InK .i64 0 from by decide), hm⟩ ?_ ?_
  · rintro _ _ ⟨_, _, _, _, _, _, _, hm⟩; exact loop1_z hm
  ·
   rintro m17 K16 hK16 ρ22 w18 ⟨v_1, Ebs, hEbs, hfr21, hst20, hs19, r_y12, hm⟩
   obtain ⟨sf14, hsf15, hm⟩ := loop1_s hm; unfold m47_coalition_allowed_B0 at hm
   subst hEbs; rw [hfr21.eq]; clear hfr21
   replace f_r__owners := f_r__owners.step hst20; replace f_r__costs := f_r__costs.step hst20; replace f_slots := f_slots.step hst20
   have ch23 := hst20
   refine Wp_seq ?_
   refine Wp_region ?_
   refine Rg_op rfl (op_lss rfl rfl ?_)
   refine Rg_nil ?_
   refine Wp_seq ?_
   refine Wp_cond rfl (fun hc24 => ?_) (fun hc24 => ?_)
   ·
    replace hm := bif_t hm hc24
    refine Wp_skip ?_
    refine Wp_seq ?_
    refine Wp_block ?_
    refine Wp_seq ?_
    refine Wp_region ?_
    refine Rg_op rfl (op_move (v := (Value.int .i64 v_1)) rfl ?_)
    replace hm := ck_some hm; obtain ⟨hc25, hm⟩ := hm
    refine Rg_op rfl (op_indexAddr (q := (rInt .i64)) ty22 ty3 rfl rfl f_slots rfl hc25.1 hc25.2 ?_)
    intro p26 f27
    refine Rg_op rfl (op_loadP ty3 rfl f27 rfl ?_)
    intro v28 h29
    obtain ⟨rfl, r_y30⟩ := un_int h29
    refine Rg_op rfl (op_assign (v := (Value.int .i64 v_1)) rfl ?_)
    refine Rg_op rfl (op_assign (v := (Value.int .i64 (slots.getD v_1.toNat default))) rfl ?_)
    refine Rg_nil ?_
    refine Wp_reset2 [4, 5, 6, 15, 16, 17, 18, 19, 20, 21, 22, 23, 24, 25, 26, 27, 28, 29, 30, 31, 32, 33, 34, 35, 36, 37, 38, 39, 40, 41, 42, 43, 44, 45, 46] [] (updL ⟨ξ13, []⟩ [(1, (Value.slice a_slots slots.length c_slots)), (2, (Value.pointer (some ⟨b1, 0, none⟩))), (13, (Value.slice a_slots slots.length c_slots)), (14, (Value.int .i64 (slots.length : Int))), (15, (Value.int .i64 0))]) [(5, (Value.int .i64 v_1)), (6, (Value.int .i64 (slots.getD v_1.toNat default))), (15, (Value.int .i64 v_1))] (by repeat (first | with_reducible exact Out.refl _ _ | refine Out.upd ?_ rfl | refine Out.updL ?_ rfl | refine Out.mix' ?_ rfl | exact Out.refl _ _)) rfl ⟨rfl, rfl, rfl, trivial⟩ fun ξ31 => ?_
    replace hm := jn_elim hm; obtain ⟨k33, hk34, hm⟩ := hm
    refine Wp_seqJ [20, 21, 22, 23, 24, 25, 26, 27, 28, 29, 30, 31, 32, 33, 34, 35, 36, 37, 38, 39, 40, 41, 42, 43, 44, 45] (fun fr w' => ∃ (v_2 : Bool) (Ebs : Ents), Ebs = [(some b1, Obj.cells [(Value.int .i64 r_.slots), (Value.slice a_r__owners r_.owners.length c_r__owners), (Value.slice a_r__costs r_.costs.length c_r__costs)].toArray 25)] ∧ fr [] [(45, (Value.bool v_2))] ∧ Step (ks [(some b1, Obj.cells [(Value.int .i64 r_.slots), (Value.slice a_r__owners r_.owners.length c_r__owners), (Value.slice a_r__costs r_.costs.length c_r__costs)].toArray 25)] O) w18 (ks Ebs O) w' ∧ St ⟨w, [], []⟩ O w' Ebs ∧ k33 v_2 = some x) ?_ ?_
    ·
     rintro ρ40 w36 ⟨v_2, Ebs, hEbs, hfr39, hst38, hs37, hm⟩
     replace hm := jnE1 hk34 hm
     subst hEbs; rw [hfr39.eq]; clear hfr39
     replace f_r__owners := f_r__owners.step hst38; replace f_r__costs := f_r__costs.step hst38; replace f_slots := f_slots.step hst38; replace f27 := f27.step hst38; replace ch23 := ch23.trans hst38; clear hst38 hs19
     refine Wp_cond rfl (fun hc41 => ?_) (fun hc41 => ?_)
     ·
      replace hm := bif_t hm hc41
      refine Wp_seq ?_
      clear f_slots f27
      refine Wp_region ?_
      refine Rg_op rfl (op_assign (v := (Value.bool false)) rfl ?_)
      refine Rg_nil ?_
      refine Wp_ret ?_
      have hz := step_all hs37
      replace f_r__owners := f_r__owners.step hz; replace f_r__costs := f_r__costs.step hz
      refine ⟨_, (show Closes [] _ _ from rfl), [(Value.bool false)], ⟨rfl, trivial⟩, hs37.ext, ?_⟩
      exact Vr.eq (a := vB) (x := false) rfl (Option.some.inj hm)
     ·
      replace hm := bif_f hm hc41
      refine Wp_skip ?_
      clear f27
      refine Wp_region ?_
      refine Rg_op rfl (op_addw rfl rfl ?_)
      refine Rg_op rfl (op_move (v := (Value.int .i64 (IntKind.wrap .i64 (v_1 + 1)))) rfl ?_)
      refine Rg_nil ?_
      exact hK16 _ _ ⟨(IntKind.wrap .i64 (v_1 + 1)), _, rfl, ⟨(by repeat (first | with_reducible exact Out.refl _ _ | refine Out.upd ?_ rfl | refine Out.updL ?_ rfl | refine Out.mix' ?_ rfl | exact Out.refl _ _)), rfl, rfl, trivial⟩, ch23, hs37, (inK_wrap .i64 _), jnE1 hsf15 hm⟩
    ·
     intro K35 hK35
     have ch42 := Step.refl (ks [(some b1, Obj.cells [(Value.int .i64 r_.slots), (Value.slice a_r__owners r_.owners.length c_r__owners), (Value.slice a_r__costs r_.costs.length c_r__costs)].toArray 25)] O) w18
     clear f27
     refine Wp_region ?_
     refine Rg_op rfl (op_move (v := (Value.int .i64 (slots.getD v_1.toNat default))) rfl ?_)
     refine Rg_op rfl (op_lss rfl rfl ?_)
     refine Rg_op rfl (op_move (v := (Value.bool (decide ((slots.getD v_1.toNat default) < 0)))) rfl ?_)
     refine Rg_case (fun hg43 => ?_) (fun hg43 => ?_)
     ·
      replace hm := bif_t hm hg43
      iterate 4 refine Rg_opx rfl (asB_ne rfl rfl) rfl ?_
      refine Rg_op rfl (op_pick_t (v := (Value.bool true)) rfl rfl ?_)
      refine Rg_op rfl (op_move (v := (Value.bool true)) rfl ?_)
      iterate 9 refine Rg_opx rfl (asB_ne rfl rfl) rfl ?_
      refine Rg_op rfl (op_pick_t (v := (Value.bool true)) rfl rfl ?_)
      refine Rg_op rfl (op_move (v := (Value.bool true)) rfl ?_)
      iterate 5 refine Rg_opx rfl (asB_ne rfl rfl) rfl ?_
      refine Rg_op rfl (op_pick_t (v := (Value.bool true)) rfl rfl ?_)
      refine Rg_nil ?_
      exact hK35 _ _ ⟨true, _, rfl, ⟨(by repeat (first | with_reducible exact Out.refl _ _ | refine Out.upd ?_ rfl | refine Out.updL ?_ rfl | refine Out.mix' ?_ rfl | exact Out.refl _ _)), rfl, rfl, trivial⟩, ch42, hs19, hm⟩
     ·
      replace hm := bif_f hm hg43
      refine Rg_opg rfl rfl rfl (op_move (v := (Value.int .i64 (slots.getD v_1.toNat default))) rfl ?_)
      refine Rg_opg rfl rfl rfl (op_fieldAddr ty25 rfl ty3 (by decide) rfl (rfl : _ = (⟨_, 0, none⟩ : Addr)) ?_)
      refine Rg_opg rfl rfl rfl (op_load (cs := [(Value.int .i64 r_.slots), (Value.slice a_r__owners r_.owners.length c_r__owners), (Value.slice a_r__costs r_.costs.length c_r__costs)]) (i := 0) ty3 hs19 rfl rfl rfl ?_)
      refine Rg_opg rfl rfl rfl (op_geq rfl rfl ?_)
      refine Rg_op rfl (op_pick_f (v := (Value.bool (decide (r_.slots ≤ (slots.getD v_1.toNat default))))) rfl rfl ?_)
      refine Rg_op rfl (op_move (v := (Value.bool (decide (r_.slots ≤ (slots.getD v_1.toNat default))))) rfl ?_)
      refine Rg_case (fun hg44 => ?_) (fun hg44 => ?_)
      ·
       replace hm := bif_t hm hg44
       iterate 9 refine Rg_opx rfl (asB_ne rfl rfl) rfl ?_
       refine Rg_op rfl (op_pick_t (v := (Value.bool true)) rfl rfl ?_)
       refine Rg_op rfl (op_move (v := (Value.bool true)) rfl ?_)
       iterate 5 refine Rg_opx rfl (asB_ne rfl rfl) rfl ?_
       refine Rg_op rfl (op_pick_t (v := (Value.bool true)) rfl rfl ?_)
       refine Rg_nil ?_
       exact hK35 _ _ ⟨true, _, rfl, ⟨(by repeat (first | with_reducible exact Out.refl _ _ | refine Out.upd ?_ rfl | refine Out.updL ?_ rfl | refine Out.mix' ?_ rfl | exact Out.refl _ _)), rfl, rfl, trivial⟩, ch42, hs19, hm⟩
      ·
       replace hm := bif_f hm hg44
       refine Rg_opg rfl rfl rfl (op_fieldAddr ty25 rfl ty23 (by decide) rfl (rfl : _ = (⟨_, 2, none⟩ : Addr)) ?_)
       refine Rg_opg rfl rfl rfl (op_load (cs := [(Value.int .i64 r_.slots), (Value.slice a_r__owners r_.owners.length c_r__owners), (Value.slice a_r__costs r_.costs.length c_r__costs)]) (i := 0) ty23 hs19 rfl rfl rfl ?_)
       refine Rg_opg rfl rfl rfl (op_move (v := (Value.int .i64 v_1)) rfl ?_)
       replace hm := ck_some hm; obtain ⟨hc45, hm⟩ := hm
       refine Rg_opg rfl rfl rfl (op_indexAddr (q := (rSl (rInt .i64))) ty23 ty22 rfl rfl f_r__costs rfl hc45.1 hc45.2 ?_)
       intro p46 f47
       refine Rg_opg rfl rfl rfl (op_loadP ty22 rfl f47 rfl ?_)
       intro v48 h49
       obtain ⟨a_y50, c_y50, rfl, f_y50⟩ := un_sl h49
       refine Rg_opg rfl rfl rfl (op_move (v := (Value.int .i64 (slots.getD v_1.toNat default))) rfl ?_)
       replace hm := ck_some hm; obtain ⟨hc51, hm⟩ := hm
       refine Rg_opg rfl rfl rfl (op_indexAddr (q := (rInt .i64)) ty22 ty3 rfl rfl f_y50 rfl hc51.1 hc51.2 ?_)
       intro p52 f53
       refine Rg_opg rfl rfl rfl (op_loadP ty3 rfl f53 rfl ?_)
       intro v54 h55
       obtain ⟨rfl, r_y56⟩ := un_int h55
       refine Rg_opg rfl rfl rfl (op_lss rfl rfl ?_)
       refine Rg_op rfl (op_pick_f (v := (Value.bool (decide (((r_.costs.getD v_1.toNat default).getD (slots.getD v_1.toNat default).toNat default) < 0)))) rfl rfl ?_)
       refine Rg_op rfl (op_move (v := (Value.bool (decide (((r_.costs.getD v_1.toNat default).getD (slots.getD v_1.toNat default).toNat default) < 0)))) rfl ?_)
       refine Rg_case (fun hg57 => ?_) (fun hg57 => ?_)
       ·
        replace hm := bif_t hm hg57
        iterate 5 refine Rg_opx rfl (asB_ne rfl rfl) rfl ?_
        refine Rg_op rfl (op_pick_t (v := (Value.bool true)) rfl rfl ?_)
        refine Rg_nil ?_
        exact hK35 _ _ ⟨true, _, rfl, ⟨(by repeat (first | with_reducible exact Out.refl _ _ | refine Out.upd ?_ rfl | refine Out.updL ?_ rfl | refine Out.mix' ?_ rfl | exact Out.refl _ _)), rfl, rfl, trivial⟩, ch42, hs19, hm⟩
       ·
        replace hm := bif_f hm hg57
        refine Rg_opg rfl rfl rfl (op_move (v := (Value.slice a_slots slots.length c_slots)) rfl ?_)
        refine Rg_opg rfl rfl rfl (op_move (v := (Value.int .i64 v_1)) rfl ?_)
        replace hm := ck_some hm; obtain ⟨hc58, hm⟩ := hm
        refine Rg_opg rfl rfl rfl (op_slice (q := (rInt .i64)) (l := 0) (h := v_1.toNat) (m := c_slots) ty22 ty3 rfl f_slots rfl rfl (bndI rfl (by omega)) rfl (by decide) (by omega) (by omega) (by have h_ : slots.length ≤ c_slots := f_slots.le; omega) (by have h_ : slots.length ≤ c_slots := f_slots.le; omega) ?_)
        intro a59 f60
        refine Rg_opg rfl rfl rfl (op_move (v := (Value.int .i64 (slots.getD v_1.toNat default))) rfl ?_)
        replace hm := bd hm; obtain ⟨contains_1, hv61, hm⟩ := hm
        refine Rg_opg rfl rfl rfl (op_call Try.call43 (c43_slices_Containsint_int_ (s := ((slots.drop 0).take (v_1.toNat - 0))) (v := (slots.getD v_1.toNat default)) hs19.ltw f60 r_y30 hv61) rfl ?_)
        rintro v62 w63 ⟨hx64, h65⟩
        have hs66 := hs19.call hx64
        have p67 := Step.ext (O := ks [(some b1, Obj.cells [(Value.int .i64 r_.slots), (Value.slice a_r__owners r_.owners.length c_r__owners), (Value.slice a_r__costs r_.costs.length c_r__costs)].toArray 25)] O) hx64
        clear hx64
        replace f_r__owners := f_r__owners.step p67; replace f_r__costs := f_r__costs.step p67; replace f_slots := f_slots.step p67; replace f47 := f47.step p67; replace f_y50 := f_y50.step p67; replace f53 := f53.step p67; replace f60 := f60.step p67; replace ch23 := ch23.trans p67; replace ch42 := ch42.trans p67; clear p67 hs19
        obtain rfl := h65
        refine Rg_op rfl (op_pick_f (v := (Value.bool contains_1)) rfl rfl ?_)
        refine Rg_nil ?_
        exact hK35 _ _ ⟨contains_1, _, rfl, ⟨(by repeat (first | with_reducible exact Out.refl _ _ | refine Out.upd ?_ rfl | refine Out.updL ?_ rfl | refine Out.mix' ?_ rfl | exact Out.refl _ _)), rfl, rfl, trivial⟩, ch42, hs66, hm⟩
   ·
    replace hm := bif_f hm hc24
    refine Wp_exit ?_
    refine Wp_seq ?_
    obtain ⟨hs69, p70⟩ := hs19.sub (bs' := []) (.cons _ List.Sublist.slnil)
    clear f_r__owners f_r__costs f_slots
    replace ch23 := ch23.trans p70; clear p70 hs19
    refine Wp_region ?_
    refine Rg_op rfl (op_assign (v := (Value.bool true)) rfl ?_)
    refine Rg_nil ?_
    refine Wp_ret ?_
    have hz := step_all hs69
    refine ⟨_, (show Closes [] _ _ from rfl), [(Value.bool true)], ⟨rfl, trivial⟩, hs69.ext, ?_⟩
    exact Vr.eq (a := vB) (x := true) rfl (Option.some.inj hm)

end Go.Fx



set_option linter.unusedVariables false
set_option linter.unusedSimpArgs false
set_option maxRecDepth 100000
set_option maxHeartbeats 0
namespace Go.Fx
open Go Go.RowKit Go.Proofs
def m24_coalition_Allowed (r_ : XRound) (slots : List Int) : Option (Bool × Int) :=
 (m22_coalition_Check r_).bind fun check_1 =>
 bif (decide (check_1 ≠ 0)) then
  some (false, check_1)
 else
  (m47_coalition_allowed r_ slots).bind fun allowed_1 =>
  some (allowed_1, 0)

theorem c24_coalition_Allowed {w : World} {O : List Nat} {r_ : XRound} {slots : List Int} {a_r__owners : Option Addr} {c_r__owners : Nat} {a_r__costs : Option Addr} {c_r__costs : Nat} {a_slots : Option Addr} {c_slots : Nat} (hO : ∀ k ∈ O, k < w.heap.size) (r_r__slots : InK .i64 r_.slots) (f_r__owners : SlR (rInt .i64) w O a_r__owners c_r__owners r_.owners) (f_r__costs : SlR (rSl (rInt .i64)) w O a_r__costs c_r__costs r_.costs) (f_slots : SlR (rInt .i64) w O a_slots c_slots slots) {x : Bool × Int} (hm : m24_coalition_Allowed r_ slots = some x) :
  Ok Try.prog 24 [(Value.agg [(Value.int .i64 r_.slots), (Value.slice a_r__owners r_.owners.length c_r__owners), (Value.slice a_r__costs r_.costs.length c_r__costs)].toArray), (Value.slice a_slots slots.length c_slots)] w O (vT2 vB (vI .i64)) x := by
 unfold m24_coalition_Allowed at hm
 refine Fn_of_Wp (n := 15) (xs := [.tmp 4, .tmp 5]) Try.func24 rfl Try.ntmps24 Try.results24 rfl ?_
 have hs := St.start hO
 refine Wp_seq ?_
 refine Wp_region ?_
 refine Rg_op rfl (op_box (cs := [(Value.int .i64 r_.slots), (Value.slice a_r__owners r_.owners.length c_r__owners), (Value.slice a_r__costs r_.costs.length c_r__costs)]) hs rfl rfl ?_)
 intro b1 w2 _ p3 hs4
 replace f_r__owners := f_r__owners.step p3; replace f_r__costs := f_r__costs.step p3; replace f_slots := f_slots.step p3; clear p3
 refine Rg_op rfl (op_assign (v := (Value.bool false)) rfl ?_)
 refine Rg_op rfl (op_assign (v := (Value.int .i64 0)) rfl ?_)
 refine Rg_nil ?_
 refine Wp_seq ?_
 refine Wp_seq ?_
 refine Wp_region ?_
 refine Rg_op rfl (op_loadA (cs := [(Value.int .i64 r_.slots), (Value.slice a_r__owners r_.owners.length c_r__owners), (Value.slice a_r__costs r_.costs.length c_r__costs)]) (vs := [(Value.int .i64 r_.slots), (Value.slice a_r__owners r_.owners.length c_r__owners), (Value.slice a_r__costs r_.costs.length c_r__costs)]) (i := 0) ty25 hs4 rfl rfl rfl rfl ?_)
 replace hm := bd hm; obtain ⟨check_1, hv6, hm⟩ := hm
 refine Rg_op rfl (op_call Try.call22 (c22_coalition_Check (r_ := r_) hs4.ltw r_r__slots f_r__owners f_r__costs hv6) rfl ?_)
 rintro v7 w8 ⟨hx9, h10⟩
 have hs11 := hs4.call hx9
 have p12 := Step.ext (O := ks [(some b1, Obj.cells [(Value.int .i64 r_.slots), (Value.slice a_r__owners r_.owners.length c_r__owners), (Value.slice a_r__costs r_.costs.length c_r__costs)].toArray 25)] O) hx9
 clear hx9
 replace f_r__owners := f_r__owners.step p12; replace f_r__costs := f_r__costs.step p12; replace f_slots := f_slots.step p12; clear p12 hs4
 obtain ⟨rfl, r_y13⟩ := h10
 refine Rg_op rfl (op_assign (v := (Value.int .i64 check_1)) rfl ?_)
 refine Rg_nil ?_
 refine Wp_seq ?_
 refine Wp_region ?_
 refine Rg_op rfl (op_move (v := (Value.int .i64 check_1)) rfl ?_)
 refine Rg_op rfl (op_neq rfl rfl ?_)
 refine Rg_nil ?_
 refine Wp_cond rfl (fun hc14 => ?_) (fun hc14 => ?_)
 ·
  replace hm := bif_t hm hc14
  refine Wp_seq ?_
  obtain ⟨hs15, p16⟩ := hs11.sub (bs' := []) (.cons _ List.Sublist.slnil)
  clear f_r__owners f_r__costs f_slots
  clear p16 hs11
  refine Wp_region ?_
  refine Rg_op rfl (op_move (v := (Value.int .i64 check_1)) rfl ?_)
  refine Rg_op rfl (op_assign (v := (Value.bool false)) rfl ?_)
  refine Rg_op rfl (op_assign (v := (Value.int .i64 check_1)) rfl ?_)
  refine Rg_nil ?_
  refine Wp_ret ?_
  have hz := step_all hs15
  refine ⟨_, (show Closes [] _ _ from rfl), [(Value.bool false), (Value.int .i64 check_1)], ⟨rfl, rfl, trivial⟩, hs15.ext, ?_⟩
  exact Vr.eq (a := (vT2 vB (vI .i64))) (x := (false, check_1)) (mkT2 rfl ⟨rfl, r_y13⟩) (Option.some.inj hm)
 ·
  replace hm := bif_f hm hc14
  refine Wp_skip ?_
  refine Wp_seq ?_
  refine Wp_region ?_
  refine Rg_op rfl (op_loadA (cs := [(Value.int .i64 r_.slots), (Value.slice a_r__owners r_.owners.length c_r__owners), (Value.slice a_r__costs r_.costs.length c_r__costs)]) (vs := [(Value.int .i64 r_.slots), (Value.slice a_r__owners r_.owners.length c_r__owners), (Value.slice a_r__costs r_.costs.length c_r__costs)]) (i := 0) ty25 hs11 rfl rfl rfl rfl ?_)
  refine Rg_op rfl (op_move (v := (Value.slice a_slots slots.length c_slots)) rfl ?_)
  replace hm := bd hm; obtain ⟨allowed_1, hv17, hm⟩ := hm
  refine Rg_op rfl (op_call Try.call47 (c47_coalition_allowed (r_ := r_) (slots := slots) hs11.ltw r_r__slots f_r__owners f_r__costs f_slots hv17) rfl ?_)
  rintro v18 w19 ⟨hx20, h21⟩
  have hs22 := hs11.call hx20
  have p23 := Step.ext (O := ks [(some b1, Obj.cells [(Value.int .i64 r_.slots), (Value.slice a_r__owners r_.owners.length c_r__owners), (Value.slice a_r__costs r_.costs.length c_r__costs)].toArray 25)] O) hx20
  clear hx20
  replace f_r__owners := f_r__owners.step p23; replace f_r__costs := f_r__costs.step p23; replace f_slots := f_slots.step p23; clear p23 hs11
  obtain rfl := h21
  refine Rg_op rfl (op_assign (v := (Value.bool allowed_1)) rfl ?_)
  refine Rg_op rfl (op_assign (v := (Value.int .i64 0)) rfl ?_)
  refine Rg_nil ?_
  refine Wp_ret ?_
  have hz := step_all hs22
  replace f_r__owners := f_r__owners.step hz; replace f_r__costs := f_r__costs.step hz; replace f_slots := f_slots.step hz
  refine ⟨_, (show Closes [] _ _ from rfl), [(Value.bool allowed_1), (Value.int .i64 0)], ⟨rfl, rfl, trivial⟩, hs22.ext, ?_⟩
  exact Vr.eq (a := (vT2 vB (vI .i64))) (x := (allowed_1, 0)) (mkT2 rfl ⟨rfl, (show InK .i64 0 from by decide)⟩) (Option.some.inj hm)

end Go.Fx



set_option linter.unusedVariables false
set_option linter.unusedSimpArgs false
set_option maxRecDepth 100000
set_option maxHeartbeats 0
namespace Go.Fx
open Go Go.RowKit Go.Proofs
def m39_coalition_check (r_ : XRound) (slots : List Int) : Option Int :=
 (m24_coalition_Allowed r_ slots).bind fun allowed_1 =>
 jn (fun (v_1 : Bool) =>
  bif v_1 then
   some 370
  else
   some 0)
 (fun k21 =>
  bif (decide (allowed_1.2 ≠ 0)) then
   k21 true
  else
   k21 (!allowed_1.1))

theorem c39_coalition_check {w : World} {O : List Nat} {r_ : XRound} {slots : List Int} {a_r__owners : Option Addr} {c_r__owners : Nat} {a_r__costs : Option Addr} {c_r__costs : Nat} {a_slots : Option Addr} {c_slots : Nat} (hO : ∀ k ∈ O, k < w.heap.size) (r_r__slots : InK .i64 r_.slots) (f_r__owners : SlR (rInt .i64) w O a_r__owners c_r__owners r_.owners) (f_r__costs : SlR (rSl (rInt .i64)) w O a_r__costs c_r__costs r_.costs) (f_slots : SlR (rInt .i64) w O a_slots c_slots slots) {x : Int} (hm : m39_coalition_check r_ slots = some x) :
  Ok Try.prog 39 [(Value.agg [(Value.int .i64 r_.slots), (Value.slice a_r__owners r_.owners.length c_r__owners), (Value.slice a_r__costs r_.costs.length c_r__costs)].toArray), (Value.slice a_slots slots.length c_slots)] w O (vI .i64) x := by
 unfold m39_coalition_check at hm
 refine Fn_of_Wp (n := 19) (xs := [.tmp 4]) Try.func39 rfl Try.ntmps39 Try.results39 rfl ?_
 have hs := St.start hO
 refine Wp_seq ?_
 refine Wp_region ?_
 refine Rg_op rfl (op_box (cs := [(Value.int .i64 r_.slots), (Value.slice a_r__owners r_.owners.length c_r__owners), (Value.slice a_r__costs r_.costs.length c_r__costs)]) hs rfl rfl ?_)
 intro b1 w2 _ p3 hs4
 replace f_r__owners := f_r__owners.step p3; replace f_r__costs := f_r__costs.step p3; replace f_slots := f_slots.step p3; clear p3
 refine Rg_op rfl (op_assign (v := (Value.int .i64 0)) rfl ?_)
 refine Rg_nil ?_
 refine Wp_seq ?_
 refine Wp_seq ?_
 refine Wp_region ?_
 refine Rg_op rfl (op_loadA (cs := [(Value.int .i64 r_.slots), (Value.slice a_r__owners r_.owners.length c_r__owners), (Value.slice a_r__costs r_.costs.length c_r__costs)]) (vs := [(Value.int .i64 r_.slots), (Value.slice a_r__owners r_.owners.length c_r__owners), (Value.slice a_r__costs r_.costs.length c_r__costs)]) (i := 0) ty25 hs4 rfl rfl rfl rfl ?_)
 refine Rg_op rfl (op_move (v := (Value.slice a_slots slots.length c_slots)) rfl ?_)
 replace hm := bd hm; obtain ⟨allowed_1, hv6, hm⟩ := hm
 refine Rg_op rfl (op_call Try.call24 (c24_coalition_Allowed (r_ := r_) (slots := slots) hs4.ltw r_r__slots f_r__owners f_r__costs f_slots hv6) rfl ?_)
 rintro v7 w8 ⟨hx9, h10⟩
 have hs11 := hs4.call hx9
 have p12 := Step.ext (O := ks [(some b1, Obj.cells [(Value.int .i64 r_.slots), (Value.slice a_r__owners r_.owners.length c_r__owners), (Value.slice a_r__costs r_.costs.length c_r__costs)].toArray 25)] O) hx9
 clear hx9
 replace f_r__owners := f_r__owners.step p12; replace f_r__costs := f_r__costs.step p12; replace f_slots := f_slots.step p12; clear p12 hs4
 obtain ⟨v13, v14, rfl, h15, h16⟩ := h10
 obtain rfl := h15
 obtain ⟨rfl, r_y18⟩ := h16
 refine Rg_op rfl (op_move (v := (Value.tuple [(Value.bool allowed_1.1), (Value.int .i64 allowed_1.2)].toArray)) rfl ?_)
 refine Rg_op rfl (op_extract (v := (Value.bool allowed_1.1)) rfl rfl ?_)
 refine Rg_op rfl (op_extract (v := (Value.int .i64 allowed_1.2)) rfl rfl ?_)
 refine Rg_op rfl (op_assign (v := (Value.bool allowed_1.1)) rfl ?_)
 refine Rg_op rfl (op_assign (v := (Value.int .i64 allowed_1.2)) rfl ?_)
 refine Rg_nil ?_
 refine Wp_reset [] [(5, (Value.bool allowed_1.1)), (6, (Value.int .i64 allowed_1.2))] rfl ⟨rfl, rfl, trivial⟩ fun ξ19 => ?_
 replace hm := jn_elim hm; obtain ⟨k21, hk22, hm⟩ := hm
 refine Wp_seqJ [13, 14, 15, 16, 17, 18] (fun fr w' => ∃ (v_1 : Bool) (Ebs : Ents), Ebs = [(some b1, Obj.cells [(Value.int .i64 r_.slots), (Value.slice a_r__owners r_.owners.length c_r__owners), (Value.slice a_r__costs r_.costs.length c_r__costs)].toArray 25)] ∧ fr [] [(18, (Value.bool v_1))] ∧ Step (ks [(some b1, Obj.cells [(Value.int .i64 r_.slots), (Value.slice a_r__owners r_.owners.length c_r__owners), (Value.slice a_r__costs r_.costs.length c_r__costs)].toArray 25)] O) w8 (ks Ebs O) w' ∧ St ⟨w, [], []⟩ O w' Ebs ∧ k21 v_1 = some x) ?_ ?_
 ·
  rintro ρ28 w24 ⟨v_1, Ebs, hEbs, hfr27, hst26, hs25, hm⟩
  replace hm := jnE1 hk22 hm
  subst hEbs; rw [hfr27.eq]; clear hfr27
  replace f_r__owners := f_r__owners.step hst26; replace f_r__costs := f_r__costs.step hst26; replace f_slots := f_slots.step hst26; clear hst26 hs11
  refine Wp_cond rfl (fun hc29 => ?_) (fun hc29 => ?_)
  ·
   replace hm := bif_t hm hc29
   refine Wp_seq ?_
   obtain ⟨hs30, p31⟩ := hs25.sub (bs' := []) (.cons _ List.Sublist.slnil)
   clear f_r__owners f_r__costs f_slots
   clear p31 hs25
   refine Wp_region ?_
   refine Rg_op rfl (op_assign (v := (Value.int .i64 370)) rfl ?_)
   refine Rg_nil ?_
   refine Wp_ret ?_
   have hz := step_all hs30
   refine ⟨_, (show Closes [] _ _ from rfl), [(Value.int .i64 370)], ⟨rfl, trivial⟩, hs30.ext, ?_⟩
   exact Vr.eq (a := (vI .i64)) (x := 370) ⟨rfl, (show InK .i64 370 from by decide)⟩ (Option.some.inj hm)
  ·
   replace hm := bif_f hm hc29
   refine Wp_skip ?_
   refine Wp_seq ?_
   obtain ⟨hs32, p33⟩ := hs25.sub (bs' := []) (.cons _ List.Sublist.slnil)
   clear f_r__owners f_r__costs f_slots
   clear p33 hs25
   refine Wp_region ?_
   refine Rg_op rfl (op_assign (v := (Value.int .i64 0)) rfl ?_)
   refine Rg_nil ?_
   refine Wp_ret ?_
   have hz := step_all hs32
   refine ⟨_, (show Closes [] _ _ from rfl), [(Value.int .i64 0)], ⟨rfl, trivial⟩, hs32.ext, ?_⟩
   exact Vr.eq (a := (vI .i64)) (x := 0) ⟨rfl, (show InK .i64 0 from by decide)⟩ (Option.some.inj hm)
 ·
  intro K23 hK23
  have ch34 := Step.refl (ks [(some b1, Obj.cells [(Value.int .i64 r_.slots), (Value.slice a_r__owners r_.owners.length c_r__owners), (Value.slice a_r__costs r_.costs.length c_r__costs)].toArray 25)] O) w8
  clear f_slots
  refine Wp_region ?_
  refine Rg_op rfl (op_move (v := (Value.int .i64 allowed_1.2)) rfl ?_)
  refine Rg_op rfl (op_neq rfl rfl ?_)
  refine Rg_op rfl (op_move (v := (Value.bool (decide (allowed_1.2 ≠ 0)))) rfl ?_)
  refine Rg_case (fun hg35 => ?_) (fun hg35 => ?_)
  ·
   replace hm := bif_t hm hg35
   iterate 2 refine Rg_opx rfl (asB_ne rfl rfl) rfl ?_
   refine Rg_op rfl (op_pick_t (v := (Value.bool true)) rfl rfl ?_)
   refine Rg_nil ?_
   exact hK23 _ _ ⟨true, _, rfl, ⟨(by repeat (first | with_reducible exact Out.refl _ _ | refine Out.upd ?_ rfl | refine Out.updL ?_ rfl | refine Out.mix' ?_ rfl | exact Out.refl _ _)), rfl, rfl, trivial⟩, ch34, hs11, hm⟩
  ·
   replace hm := bif_f hm hg35
   refine Rg_opg rfl rfl rfl (op_move (v := (Value.bool allowed_1.1)) rfl ?_)
   refine Rg_opg rfl rfl rfl (op_not rfl ?_)
   refine Rg_op rfl (op_pick_f (v := (Value.bool (!allowed_1.1))) rfl rfl ?_)
   refine Rg_nil ?_
   exact hK23 _ _ ⟨(!allowed_1.1), _, rfl, ⟨(by repeat (first | with_reducible exact Out.refl _ _ | refine Out.upd ?_ rfl | refine Out.updL ?_ rfl | refine Out.mix' ?_ rfl | exact Out.refl _ _)), rfl, rfl, trivial⟩, ch34, hs11, hm⟩

end Go.Fx



set_option linter.unusedVariables false
set_option linter.unusedSimpArgs false
set_option maxRecDepth 100000
set_option maxHeartbeats 0
namespace Go.Fx
open Go Go.RowKit Go.Proofs
def m41_coalition_costs_B0 (r_ : XRound) (flights : List Int) (slots : List Int) (sf18 : (List Int) → Int → Option (List Int)) (out_1 : List Int) (v_1 : Int) : Option (List Int) :=
 bif (decide (v_1 < (flights.length : Int))) then
  ck ((0 : Int) ≤ v_1 ∧ v_1 < (flights.length : Int)) <|
  ck ((0 : Int) ≤ (flights.getD v_1.toNat default) ∧ (flights.getD v_1.toNat default) < (r_.owners.length : Int)) <|
  ck ((0 : Int) ≤ (r_.owners.getD (flights.getD v_1.toNat default).toNat default) ∧ (r_.owners.getD (flights.getD v_1.toNat default).toNat default) < (out_1.length : Int)) <|
  ck ((0 : Int) ≤ (flights.getD v_1.toNat default) ∧ (flights.getD v_1.toNat default) < (r_.costs.length : Int)) <|
  ck ((0 : Int) ≤ v_1 ∧ v_1 < (slots.length : Int)) <|
  ck ((0 : Int) ≤ (slots.getD v_1.toNat default) ∧ (slots.getD v_1.toNat default) < ((r_.costs.getD (flights.getD v_1.toNat default).toNat default).length : Int)) <|
  ck ((0 : Int) ≤ (r_.owners.getD (flights.getD v_1.toNat default).toNat default) ∧ (r_.owners.getD (flights.getD v_1.toNat default).toNat default) < (out_1.length : Int)) <|
  sf18 (out_1.set (r_.owners.getD (flights.getD v_1.toNat default).toNat default).toNat (IntKind.wrap .i64 ((out_1.getD (r_.owners.getD (flights.getD v_1.toNat default).toNat default).toNat default) + ((r_.costs.getD (flights.getD v_1.toNat default).toNat default).getD (slots.getD v_1.toNat default).toNat default)))) (IntKind.wrap .i64 (v_1 + 1))
 else
  some out_1

def m41_coalition_costs (r_ : XRound) (flights : List Int) (slots : List Int) : Option (List Int) :=
 ck ((0 : Int) ≤ (8 : Int) ∧ (8 : Int) ≤ (8 : Int) ∧ (8 : Int) * 8 ≤ 281474976710656 ∧ (8 : Int) ≤ 281474976710656) <|
 loop2 (m41_coalition_costs_B0 r_ flights slots) (((flights.length : Int) - 0).toNat + 1) (List.replicate 8 (0 : Int)) 0

theorem g41_coalition_costs {w : World} {O : List Nat} {r_ : XRound} {flights : List Int} {slots : List Int} {a_r__owners : Option Addr} {c_r__owners : Nat} {a_r__costs : Option Addr} {c_r__costs : Nat} {a_flights : Option Addr} {c_flights : Nat} {a_slots : Option Addr} {c_slots : Nat} (hO : ∀ k ∈ O, k < w.heap.size) (r_r__slots : InK .i64 r_.slots) (f_r__owners : SlR (rInt .i64) w O a_r__owners c_r__owners r_.owners) (f_r__costs : SlR (rSl (rInt .i64)) w O a_r__costs c_r__costs r_.costs) (f_flights : SlR (rInt .i64) w O a_flights c_flights flights) (f_slots : SlR (rInt .i64) w O a_slots c_slots slots) {x : (List Int)} (hm : m41_coalition_costs r_ flights slots = some x) :
  OkG Try.prog 41 [(Value.agg [(Value.int .i64 r_.slots), (Value.slice a_r__owners r_.owners.length c_r__owners), (Value.slice a_r__costs r_.costs.length c_r__costs)].toArray), (Value.slice a_flights flights.length c_flights), (Value.slice a_slots slots.length c_slots)] w O (rInt .i64) 3 x := by
 unfold m41_coalition_costs at hm
 refine Fn_of_Wp (n := 41) (xs := [.tmp 6]) Try.func41 rfl Try.ntmps41 Try.results41 rfl ?_
 have hs := St.start hO
 refine Wp_seq ?_
 refine Wp_region ?_
 refine Rg_op rfl (op_box (cs := [(Value.int .i64 r_.slots), (Value.slice a_r__owners r_.owners.length c_r__owners), (Value.slice a_r__costs r_.costs.length c_r__costs)]) hs rfl rfl ?_)
 intro b1 w2 _ p3 hs4
 replace f_r__owners := f_r__owners.step p3; replace f_r__costs := f_r__costs.step p3; replace f_flights := f_flights.step p3; replace f_slots := f_slots.step p3; clear p3
 refine Rg_op rfl (op_assign (v := (Value.slice none 0 0)) rfl ?_)
 refine Rg_nil ?_
 refine Wp_seq ?_
 refine Wp_region ?_
 replace hm := ck_some hm; obtain ⟨hc6, hm⟩ := hm
 refine Rg_op rfl (op_makeSliceI (q := (rInt .i64)) (v := (Value.int .i64 0)) (x0 := (0 : Int)) ty22 ty3 hs4 rfl rfl hc6 rfl (fun _ _ => (mk_int (show InK .i64 0 from by decide))) ?_)
 intro b7 w8 hx12 p9 hs10 f11
 replace f_r__owners := f_r__owners.step p9; replace f_r__costs := f_r__costs.step p9; replace f_flights := f_flights.step p9; replace f_slots := f_slots.step p9; clear p9 hs4
 refine Rg_op rfl (op_assign (v := (Value.slice (some ⟨b7, 0, none⟩) (List.replicate 8 (0 : Int)).length 8)) rfl ?_)
 refine Rg_nil ?_
 refine Wp_seq ?_
 refine Wp_seq ?_
 refine Wp_region ?_
 refine Rg_op rfl (op_move (v := (Value.slice a_flights flights.length c_flights)) rfl ?_)
 refine Rg_op rfl (op_len Try.underlying22 rfl ?_)
 have rl14 := inK_len f_flights
 refine Rg_op rfl (op_move (v := (Value.int .i64 0)) rfl ?_)
 refine Rg_nil ?_
 refine Wp_block ?_
 refine Wp_reset [] [(2, (Value.slice a_slots slots.length c_slots)), (3, (Value.pointer (some ⟨b1, 0, none⟩))), (7, (Value.slice (some ⟨b7, 0, none⟩) (List.replicate 8 (0 : Int)).length 8)), (11, (Value.slice a_flights flights.length c_flights)), (12, (Value.int .i64 (flights.length : Int))), (13, (Value.int .i64 0))] rfl ⟨rfl, rfl, rfl, rfl, rfl, rfl, trivial⟩ fun ξ17 => ?_
 refine Wp_loopM [7, 8, 9, 13, 14, 15, 16, 17, 18, 19, 20, 21, 22, 23, 24, 25, 26, 27, 28, 29, 30, 31, 32, 33, 34, 35, 36, 37, 38, 39] (fun m fr w' => ∃ (out_1 : List Int) (v_1 : Int) (a_g15 : Option Addr) (c_g15 : Nat) (k_g15 : Option Nat) (o_g15 : Obj) (Ebs : Ents), Ebs = [(k_g15, o_g15), (some b1, Obj.cells [(Value.int .i64 r_.slots), (Value.slice a_r__owners r_.owners.length c_r__owners), (Value.slice a_r__costs r_.costs.length c_r__costs)].toArray 25)] ∧ fr [] [(7, (Value.slice a_g15 out_1.length c_g15)), (13, (Value.int .i64 v_1))] ∧ Step (ks [(some b7, Obj.cells (List.replicate 8 (Value.int .i64 0)).toArray 3), (some b1, Obj.cells [(Value.int .i64 r_.slots), (Value.slice a_r__owners r_.owners.length c_r__owners), (Value.slice a_r__costs r_.costs.length c_r__costs)].toArray 25)] O) w8 (ks Ebs O) w' ∧ St ⟨w, [], []⟩ O w' Ebs ∧ Gs (rInt .i64) 3 w' (ks Ebs O) a_g15 c_g15 out_1 k_g15 o_g15 ∧ InK .i64 v_1 ∧ loop2 (m41_coalition_costs_B0 r_ flights slots) m out_1 v_1 = some x) (((flights.length : Int) - 0).toNat + 1) ⟨(List.replicate 8 (0 : Int)), 0, (some ⟨b7, 0, none⟩), 8, (some b7), (Obj.cells (List.replicate 8 (Value.int .i64 0)).toArray 3), _, rfl, ⟨Out.refl _ _, rfl, rfl, rfl, trivial⟩, Step.refl _ _, hs10, f11, (show InK .i64 0 from by decide), hm⟩ ?_ ?_
 · rintro _ _ ⟨_, _, _, _, _, _, _, _, _, _, _, _, _, hm⟩; exact loop2_z hm
 ·
  rintro m21 K20 hK20 ρ26 w22 ⟨out_1, v_1, a_g15, c_g15, k_g15, o_g15, Ebs, hEbs, hfr25, hst24, hs23, f_g15, r_y16, hm⟩
  obtain ⟨sf18, hsf19, hm⟩ := loop2_s hm; unfold m41_coalition_costs_B0 at hm
  subst hEbs; rw [hfr25.eq]; clear hfr25
  replace f_r__owners := f_r__owners.step hst24; replace f_r__costs := f_r__costs.step hst24; replace f_flights := f_flights.step hst24; replace f_slots := f_slots.step hst24; replace f11 := f11.step hst24
  have ch27 := hst24
  refine Wp_seq ?_
  clear f11
  refine Wp_region ?_
  refine Rg_op rfl (op_lss rfl rfl ?_)
  refine Rg_nil ?_
  refine Wp_seq ?_
  refine Wp_cond rfl (fun hc28 => ?_) (fun hc28 => ?_)
  ·
   replace hm := bif_t hm hc28
   refine Wp_skip ?_
   refine Wp_seq ?_
   refine Wp_block ?_
   refine Wp_seq ?_
   refine Wp_region ?_
   refine Rg_op rfl (op_move (v := (Value.int .i64 v_1)) rfl ?_)
   replace hm := ck_some hm; obtain ⟨hc29, hm⟩ := hm
   refine Rg_op rfl (op_indexAddr (q := (rInt .i64)) ty22 ty3 rfl rfl f_flights rfl hc29.1 hc29.2 ?_)
   intro p30 f31
   refine Rg_op rfl (op_loadP ty3 rfl f31 rfl ?_)
   intro v32 h33
   obtain ⟨rfl, r_y34⟩ := un_int h33
   refine Rg_op rfl (op_assign (v := (Value.int .i64 v_1)) rfl ?_)
   refine Rg_op rfl (op_assign (v := (Value.int .i64 (flights.getD v_1.toNat default))) rfl ?_)
   refine Rg_nil ?_
   clear f31
   refine Wp_drawR (g0 := []) (m := 19) (fl := []) (TS_inv hs23) rfl (.inl rfl) rfl (by decide +kernel) ?_  -- 5
   refine Dw_eq (Value.slice a_g15 out_1.length c_g15) (fun ρ35 w36 g hle hi ht => ?_) ?_
   ·
    obtain ⟨-, hst, -⟩ := hle
    refine StepOp_plain (op_move (v := (Value.slice a_g15 out_1.length c_g15)) (ht 7 rfl) ?_)
    exact Goes.same hi rfl
   refine Dw_eq (Value.pointer (some ⟨b1, 1, none⟩)) (fun ρ38 w39 g hle hi ht => ?_) ?_
   ·
    obtain ⟨-, hst, -⟩ := hle
    refine StepOp_plain (op_fieldAddr ty25 rfl ty22 (by decide) (ht 3 rfl) (rfl : _ = (⟨_, 1, none⟩ : Addr)) ?_)
    exact Goes.same hi rfl
   refine Dw_eq (Value.slice a_r__owners r_.owners.length c_r__owners) (fun ρ41 w42 g hle hi ht => ?_) ?_
   ·
    obtain ⟨-, hst, -⟩ := hle
    have hsn := (Step.nx hi).1
    refine StepOp_plain (op_load (cs := [(Value.int .i64 r_.slots), (Value.slice a_r__owners r_.owners.length c_r__owners), (Value.slice a_r__costs r_.costs.length c_r__costs)]) (i := 1) ty22 hsn (ht 19 rfl) rfl rfl ?_)
    exact Goes.same hi rfl
   refine Dw_eq (Value.int .i64 (flights.getD v_1.toNat default)) (fun ρ44 w45 g hle hi ht => ?_) ?_
   ·
    obtain ⟨-, hst, -⟩ := hle
    refine StepOp_plain (op_move (v := (Value.int .i64 (flights.getD v_1.toNat default))) (ht 9 rfl) ?_)
    exact Goes.same hi rfl
   replace hm := ck_some hm; obtain ⟨hc50, hm⟩ := hm
   refine Dw_op (VP O [(k_g15, o_g15), (some b1, Obj.cells [(Value.int .i64 r_.slots), (Value.slice a_r__owners r_.owners.length c_r__owners), (Value.slice a_r__costs r_.costs.length c_r__costs)].toArray 25)] (rInt .i64) (r_.owners.getD (flights.getD v_1.toNat default).toNat default)) (VP.stab _ _) (fun ρ47 w48 g hle hi ht => ?_) ?_
   ·
    obtain ⟨-, hst, -⟩ := hle
    replace f_r__owners := f_r__owners.step hst
    refine StepOp_plain (op_indexAddr (q := (rInt .i64)) ty22 ty3 (ht 20 rfl) (ht 21 rfl) f_r__owners rfl hc50.1 hc50.2 ?_)
    intro p51 f52
    exact Goes.same hi ⟨_, rfl, f52⟩
   refine Dw_op (VD O [(k_g15, o_g15), (some b1, Obj.cells [(Value.int .i64 r_.slots), (Value.slice a_r__owners r_.owners.length c_r__owners), (Value.slice a_r__costs r_.costs.length c_r__costs)].toArray 25)] (vI .i64) (r_.owners.getD (flights.getD v_1.toNat default).toNat default)) (VD.stab _ _) (fun ρ53 w54 g hle hi ht => ?_) ?_
   ·
    obtain ⟨-, hst, -⟩ := hle
    obtain ⟨p56, q57, f58⟩ := ht 22 rfl
    refine StepOp_plain (op_loadP ty3 q57 f58 rfl ?_)
    intro v59 h60
    obtain ⟨rfl, r_y61⟩ := un_int h60
    exact Goes.same hi (show Vr.vd (vI .i64) _ _ _ _ from ⟨rfl, r_y61⟩)
   replace hm := ck_some hm; obtain ⟨hc68, hm⟩ := hm
   obtain ⟨b69, rfl, rfl⟩ := f_g15.at_ (by omega)
   refine Dw_eq (Value.pointer (some ⟨b69, (r_.owners.getD (flights.getD v_1.toNat default).toNat default).toNat * 1, none⟩)) (fun ρ62 w63 g hle hi ht => ?_) ?_
   ·
    obtain ⟨-, hst, -⟩ := hle
    replace f_g15 := f_g15.step hst
    have h65 : Vr.vd (vI .i64) _ _ _ _ := ht 23 rfl
    obtain ⟨q66, r_y67⟩ := h65
    refine StepOp_plain (op_indexAddrG ty22 ty3 (ht 18 rfl) q66 f_g15 hc68 ?_)
    rintro _ ⟨⟩ -
    exact Goes.same hi rfl
   refine Dw_op (VD O [(some b69, o_g15), (some b1, Obj.cells [(Value.int .i64 r_.slots), (Value.slice a_r__owners r_.owners.length c_r__owners), (Value.slice a_r__costs r_.costs.length c_r__costs)].toArray 25)] (vI .i64) (out_1.getD (r_.owners.getD (flights.getD v_1.toNat default).toNat default).toNat default)) (VD.stab _ _) (fun ρ70 w71 g hle hi ht => ?_) ?_
   ·
    obtain ⟨-, hst, -⟩ := hle
    replace f_g15 := f_g15.step hst
    have hsn := (Step.nx hi).1
    refine StepOp_plain (op_loadG (i := 0) ty3 rfl hsn rfl (ht 24 rfl) f_g15 hc68 ?_)
    intro v73 h74
    obtain ⟨rfl, r_y75⟩ := un_int h74
    exact Goes.same hi (show Vr.vd (vI .i64) _ _ _ _ from ⟨rfl, r_y75⟩)
   refine Dw_eq (Value.pointer (some ⟨b1, 2, none⟩)) (fun ρ76 w77 g hle hi ht => ?_) ?_
   ·
    obtain ⟨-, hst, -⟩ := hle
    refine StepOp_plain (op_fieldAddr ty25 rfl ty23 (by decide) (ht 3 rfl) (rfl : _ = (⟨_, 2, none⟩ : Addr)) ?_)
    exact Goes.same hi rfl
   refine Dw_eq (Value.slice a_r__costs r_.costs.length c_r__costs) (fun ρ79 w80 g hle hi ht => ?_) ?_
   ·
    obtain ⟨-, hst, -⟩ := hle
    have hsn := (Step.nx hi).1
    refine StepOp_plain (op_load (cs := [(Value.int .i64 r_.slots), (Value.slice a_r__owners r_.owners.length c_r__owners), (Value.slice a_r__costs r_.costs.length c_r__costs)]) (i := 1) ty23 hsn (ht 26 rfl) rfl rfl ?_)
    exact Goes.same hi rfl
   refine Dw_eq (Value.int .i64 (flights.getD v_1.toNat default)) (fun ρ82 w83 g hle hi ht => ?_) ?_
   ·
    obtain ⟨-, hst, -⟩ := hle
    refine StepOp_plain (op_move (v := (Value.int .i64 (flights.getD v_1.toNat default))) (ht 9 rfl) ?_)
    exact Goes.same hi rfl
   replace hm := ck_some hm; obtain ⟨hc88, hm⟩ := hm
   refine Dw_op (VP O [(some b69, o_g15), (some b1, Obj.cells [(Value.int .i64 r_.slots), (Value.slice a_r__owners r_.owners.length c_r__owners), (Value.slice a_r__costs r_.costs.length c_r__costs)].toArray 25)] (rSl (rInt .i64)) (r_.costs.getD (flights.getD v_1.toNat default).toNat default)) (VP.stab _ _) (fun ρ85 w86 g hle hi ht => ?_) ?_
   ·
    obtain ⟨-, hst, -⟩ := hle
    replace f_r__costs := f_r__costs.step hst
    refine StepOp_plain (op_indexAddr (q := (rSl (rInt .i64))) ty23 ty22 (ht 27 rfl) (ht 28 rfl) f_r__costs rfl hc88.1 hc88.2 ?_)
    intro p89 f90
    exact Goes.same hi ⟨_, rfl, f90⟩
   refine Dw_op (VD O [(some b69, o_g15), (some b1, Obj.cells [(Value.int .i64 r_.slots), (Value.slice a_r__owners r_.owners.length c_r__owners), (Value.slice a_r__costs r_.costs.length c_r__costs)].toArray 25)] (vC (rSl (rInt .i64))) (r_.costs.getD (flights.getD v_1.toNat default).toNat default)) (VD.stab _ _) (fun ρ91 w92 g hle hi ht => ?_) ?_
   ·
    obtain ⟨-, hst, -⟩ := hle
    obtain ⟨p94, q95, f96⟩ := ht 29 rfl
    refine StepOp_plain (op_loadP ty22 q95 f96 rfl ?_)
    intro v97 h98
    obtain ⟨a_y99, c_y99, rfl, f_y99⟩ := un_sl h98
    exact Goes.same hi (show Vr.vd (vC (rSl (rInt .i64))) _ _ _ _ from (mkC (mk_sl f_y99)))
   refine Dw_eq (Value.slice a_slots slots.length c_slots) (fun ρ100 w101 g hle hi ht => ?_) ?_
   ·
    obtain ⟨-, hst, -⟩ := hle
    refine StepOp_plain (op_move (v := (Value.slice a_slots slots.length c_slots)) (ht 2 rfl) ?_)
    exact Goes.same hi rfl
   refine Dw_eq (Value.int .i64 v_1) (fun ρ103 w104 g hle hi ht => ?_) ?_
   ·
    obtain ⟨-, hst, -⟩ := hle
    refine StepOp_plain (op_move (v := (Value.int .i64 v_1)) (ht 8 rfl) ?_)
    exact Goes.same hi rfl
   replace hm := ck_some hm; obtain ⟨hc109, hm⟩ := hm
   refine Dw_op (VP O [(some b69, o_g15), (some b1, Obj.cells [(Value.int .i64 r_.slots), (Value.slice a_r__owners r_.owners.length c_r__owners), (Value.slice a_r__costs r_.costs.length c_r__costs)].toArray 25)] (rInt .i64) (slots.getD v_1.toNat default)) (VP.stab _ _) (fun ρ106 w107 g hle hi ht => ?_) ?_
   ·
    obtain ⟨-, hst, -⟩ := hle
    replace f_slots := f_slots.step hst
    refine StepOp_plain (op_indexAddr (q := (rInt .i64)) ty22 ty3 (ht 31 rfl) (ht 32 rfl) f_slots rfl hc109.1 hc109.2 ?_)
    intro p110 f111
    exact Goes.same hi ⟨_, rfl, f111⟩
   refine Dw_op (VD O [(some b69, o_g15), (some b1, Obj.cells [(Value.int .i64 r_.slots), (Value.slice a_r__owners r_.owners.length c_r__owners), (Value.slice a_r__costs r_.costs.length c_r__costs)].toArray 25)] (vI .i64) (slots.getD v_1.toNat default)) (VD.stab _ _) (fun ρ112 w113 g hle hi ht => ?_) ?_
   ·
    obtain ⟨-, hst, -⟩ := hle
    obtain ⟨p115, q116, f117⟩ := ht 33 rfl
    refine StepOp_plain (op_loadP ty3 q116 f117 rfl ?_)
    intro v118 h119
    obtain ⟨rfl, r_y120⟩ := un_int h119
    exact Goes.same hi (show Vr.vd (vI .i64) _ _ _ _ from ⟨rfl, r_y120⟩)
   replace hm := ck_some hm; obtain ⟨hc130, hm⟩ := hm
   refine Dw_op (VP O [(some b69, o_g15), (some b1, Obj.cells [(Value.int .i64 r_.slots), (Value.slice a_r__owners r_.owners.length c_r__owners), (Value.slice a_r__costs r_.costs.length c_r__costs)].toArray 25)] (rInt .i64) ((r_.costs.getD (flights.getD v_1.toNat default).toNat default).getD (slots.getD v_1.toNat default).toNat default)) (VP.stab _ _) (fun ρ121 w122 g hle hi ht => ?_) ?_
   ·
    obtain ⟨-, hst, -⟩ := hle
    have h124 : Vr.vd (vI .i64) _ _ _ _ := ht 34 rfl
    obtain ⟨q125, r_y126⟩ := h124
    have h127 : Vr.vd (vC (rSl (rInt .i64))) _ _ _ _ := ht 30 rfl
    obtain ⟨a_y129, c_y129, q128, f_y129⟩ := un_sl h127
    refine StepOp_plain (op_indexAddr (q := (rInt .i64)) ty22 ty3 q128 q125 f_y129 rfl hc130.1 hc130.2 ?_)
    intro p131 f132
    exact Goes.same hi ⟨_, rfl, f132⟩
   refine Dw_op (VD O [(some b69, o_g15), (some b1, Obj.cells [(Value.int .i64 r_.slots), (Value.slice a_r__owners r_.owners.length c_r__owners), (Value.slice a_r__costs r_.costs.length c_r__costs)].toArray 25)] (vI .i64) ((r_.costs.getD (flights.getD v_1.toNat default).toNat default).getD (slots.getD v_1.toNat default).toNat default)) (VD.stab _ _) (fun ρ133 w134 g hle hi ht => ?_) ?_
   ·
    obtain ⟨-, hst, -⟩ := hle
    obtain ⟨p136, q137, f138⟩ := ht 35 rfl
    refine StepOp_plain (op_loadP ty3 q137 f138 rfl ?_)
    intro v139 h140
    obtain ⟨rfl, r_y141⟩ := un_int h140
    exact Goes.same hi (show Vr.vd (vI .i64) _ _ _ _ from ⟨rfl, r_y141⟩)
   refine Dw_nil fun w146 g147 hl148 hi149 => ?_
   obtain ⟨-, hst150, -⟩ := hl148
   obtain ⟨hs152, p151⟩ := Step.nx hi149
   rintro v153 h154
   replace h154 : Vr.vd (vI .i64) _ _ _ _ := h154
   obtain ⟨rfl, r_y155⟩ := h154
   rintro _ ⟨p156, rfl, f157⟩
   rintro v158 h159
   replace h159 : Vr.vd (vI .i64) _ _ _ _ := h159
   obtain ⟨rfl, r_y160⟩ := h159
   rintro _ ⟨p161, rfl, f162⟩
   rintro _ rfl
   rintro _ rfl
   rintro v163 h164
   replace h164 : Vr.vd (vC (rSl (rInt .i64))) _ _ _ _ := h164
   obtain ⟨a_y165, c_y165, rfl, f_y165⟩ := un_sl h164
   rintro _ ⟨p166, rfl, f167⟩
   rintro _ rfl
   rintro _ rfl
   rintro _ rfl
   rintro v168 h169
   replace h169 : Vr.vd (vI .i64) _ _ _ _ := h169
   obtain ⟨rfl, r_y170⟩ := h169
   rintro _ rfl
   rintro v171 h172
   replace h172 : Vr.vd (vI .i64) _ _ _ _ := h172
   obtain ⟨rfl, r_y173⟩ := h172
   rintro _ ⟨p174, rfl, f175⟩
   rintro _ rfl
   rintro _ rfl
   rintro _ rfl
   rintro _ rfl
   have p176 : Step (ks [(some b69, o_g15), (some b1, Obj.cells [(Value.int .i64 r_.slots), (Value.slice a_r__owners r_.owners.length c_r__owners), (Value.slice a_r__costs r_.costs.length c_r__costs)].toArray 25)] O) w22 (ks [(some b69, o_g15), (some b1, Obj.cells [(Value.int .i64 r_.slots), (Value.slice a_r__owners r_.owners.length c_r__owners), (Value.slice a_r__costs r_.costs.length c_r__costs)].toArray 25)] O) w146 := hst150.trans p151
   replace f157 := f157.step p151; replace f162 := f162.step p151; replace f_y165 := f_y165.step p151; replace f167 := f167.step p151; replace f175 := f175.step p151; replace f_r__owners := f_r__owners.step p176; replace f_r__costs := f_r__costs.step p176; replace f_flights := f_flights.step p176; replace f_slots := f_slots.step p176; replace f_g15 := f_g15.step p176; replace ch27 := ch27.trans p176; clear p176 hs23
   refine Rg_op rfl (op_addw rfl rfl ?_)
   replace hm := ck_some hm; obtain ⟨hc177, hm⟩ := hm
   refine Rg_op rfl (op_indexAddrG ty22 ty3 rfl rfl f_g15 hc177 ?_)
   rintro _ ⟨⟩ -
   refine Rg_op_ (op_storeG (vs := [(Value.int .i64 (IntKind.wrap .i64 ((out_1.getD (r_.owners.getD (flights.getD v_1.toNat default).toNat default).toNat default) + ((r_.costs.getD (flights.getD v_1.toNat default).toNat default).getD (slots.getD v_1.toNat default).toNat default))))]) (i := 0) ty3 rfl hs152 rfl rfl rfl rfl f_g15 hc177 (mk_int (inK_wrap .i64 _)) ?_)
   intro w179 o182 p180 hs181 f183
   replace f_r__owners := f_r__owners.step p180; replace f_r__costs := f_r__costs.step p180; replace f_flights := f_flights.step p180; replace f_slots := f_slots.step p180; replace f157 := f157.step p180; replace f162 := f162.step p180; replace f_y165 := f_y165.step p180; replace f167 := f167.step p180; replace f175 := f175.step p180; replace ch27 := ch27.trans p180; clear p180 hs152
   refine Rg_nil ?_
   clear f157 f162 f_y165 f167 f175
   refine Wp_region ?_
   refine Rg_op rfl (op_addw rfl rfl ?_)
   refine Rg_op rfl (op_move (v := (Value.int .i64 (IntKind.wrap .i64 (v_1 + 1)))) rfl ?_)
   refine Rg_nil ?_
   exact hK20 _ _ ⟨(out_1.set (r_.owners.getD (flights.getD v_1.toNat default).toNat default).toNat (IntKind.wrap .i64 ((out_1.getD (r_.owners.getD (flights.getD v_1.toNat default).toNat default).toNat default) + ((r_.costs.getD (flights.getD v_1.toNat default).toNat default).getD (slots.getD v_1.toNat default).toNat default)))), (IntKind.wrap .i64 (v_1 + 1)), (some ⟨b69, 0, none⟩), c_g15, (some b69), o182, _, rfl, ⟨(by repeat (first | with_reducible exact Out.refl _ _ | refine Out.upd ?_ rfl | refine Out.updL ?_ rfl | refine Out.mix' ?_ rfl | exact Out.refl _ _)), rfl, (eqlenV (show out_1.length = (out_1.set (r_.owners.getD (flights.getD v_1.toNat default).toNat default).toNat (IntKind.wrap .i64 ((out_1.getD (r_.owners.getD (flights.getD v_1.toNat default).toNat default).toNat default) + ((r_.costs.getD (flights.getD v_1.toNat default).toNat default).getD (slots.getD v_1.toNat default).toNat default)))).length from by first | (simp; done) | (simp; omega))), rfl, trivial⟩, ch27, hs181, f183, (inK_wrap .i64 _), jnE2 hsf19 hm⟩
  ·
   replace hm := bif_f hm hc28
   refine Wp_exit ?_
   refine Wp_seq ?_
   obtain ⟨hs184, p185⟩ := hs23.sub (bs' := [(k_g15, o_g15)]) (.cons_cons _ (.cons _ List.Sublist.slnil))
   clear f_r__owners f_r__costs f_flights f_slots
   replace f_g15 := f_g15.step p185; replace ch27 := ch27.trans p185; clear p185 hs23
   refine Wp_region ?_
   refine Rg_op rfl (op_move (v := (Value.slice a_g15 out_1.length c_g15)) rfl ?_)
   refine Rg_op rfl (op_assign (v := (Value.slice a_g15 out_1.length c_g15)) rfl ?_)
   refine Rg_nil ?_
   refine Wp_ret ?_
   refine ⟨_, (show Closes [] _ _ from rfl), [(Value.slice a_g15 out_1.length c_g15)], ⟨rfl, trivial⟩, hs184.ext, ?_⟩
   exact OkG.mk (i := 0) hs184 rfl f_g15 (Option.some.inj hm)
theorem c41_coalition_costs {w : World} {O : List Nat} {r_ : XRound} {flights : List Int} {slots : List Int} {a_r__owners : Option Addr} {c_r__owners : Nat} {a_r__costs : Option Addr} {c_r__costs : Nat} {a_flights : Option Addr} {c_flights : Nat} {a_slots : Option Addr} {c_slots : Nat} (hO : ∀ k ∈ O, k < w.heap.size) (r_r__slots : InK .i64 r_.slots) (f_r__owners : SlR (rInt .i64) w O a_r__owners c_r__owners r_.owners) (f_r__costs : SlR (rSl (rInt .i64)) w O a_r__costs c_r__costs r_.costs) (f_flights : SlR (rInt .i64) w O a_flights c_flights flights) (f_slots : SlR (rInt .i64) w O a_slots c_slots slots) {x : (List Int)} (hm : m41_coalition_costs r_ flights slots = some x) :
  Ok Try.prog 41 [(Value.agg [(Value.int .i64 r_.slots), (Value.slice a_r__owners r_.owners.length c_r__owners), (Value.slice a_r__costs r_.costs.length c_r__costs)].toArray), (Value.slice a_flights flights.length c_flights), (Value.slice a_slots slots.length c_slots)] w O (vC (rSl (rInt .i64))) x :=
 (g41_coalition_costs hO r_r__slots f_r__owners f_r__costs f_flights f_slots hm).ok hO

end Go.Fx



set_option linter.unusedVariables false
set_option linter.unusedSimpArgs false
set_option maxRecDepth 100000
set_option maxHeartbeats 0
namespace Go.Fx
open Go Go.RowKit Go.Proofs
def m58_slices_Cloneint_int_ (s : List Int) : Option (List Int) :=
 ck ((([] : List Int).length + s.length) * 8 ≤ 140737488355328) <|
 some (([] : List Int) ++ s)

theorem g58_slices_Cloneint_int_ {w : World} {O : List Nat} {s : List Int} {a_s : Option Addr} {c_s : Nat} (hO : ∀ k ∈ O, k < w.heap.size) (f_s : SlR (rInt .i64) w O a_s c_s s) {x : (List Int)} (hm : m58_slices_Cloneint_int_ s = some x) :
  OkG Try.prog 58 [(Value.slice a_s s.length c_s)] w O (rInt .i64) 3 x := by
 unfold m58_slices_Cloneint_int_ at hm
 refine Fn_of_Wp (n := 8) (xs := [.tmp 2]) Try.func58 rfl Try.ntmps58 Try.results58 rfl ?_
 have hs := St.start hO
 refine Wp_seq ?_
 refine Wp_region ?_
 refine Rg_op rfl (op_assign (v := (Value.slice none 0 0)) rfl ?_)
 refine Rg_nil ?_
 refine Wp_seq ?_
 refine Wp_seq ?_
 refine Wp_region ?_
 refine Rg_op rfl (op_move (v := (Value.slice a_s s.length c_s)) rfl ?_)
 refine Rg_op rfl (op_eqnil Try.underlying22 rfl rfl ?_)
 refine Rg_nil ?_
 rcases a_s with _ | ad1
 ·
  have hnil2 := (f_s.nil rfl).1
  refine Wp_cond_t rfl ?_
  refine Wp_seq ?_
  clear f_s
  refine Wp_region ?_
  refine Rg_op rfl (op_assign (v := (Value.slice none 0 0)) rfl ?_)
  refine Rg_nil ?_
  refine Wp_ret ?_
  refine ⟨_, (show Closes [] _ _ from rfl), [(Value.slice none 0 0)], ⟨rfl, trivial⟩, hs.ext, ?_⟩
  exact OkG.mkNil (by simp [ck, hnil2] at hm; first | exact hm | (subst hm; simp [hnil2]) | simpa using hm)
 ·
  refine Wp_cond_f rfl ?_
  refine Wp_skip ?_
  refine Wp_seq ?_
  refine Wp_region ?_
  refine Rg_op rfl (op_buildSlice (cs := []) (parts := []) ty22 ty3 hs (by decide) rfl ?_)
  intro b3 w4 hx7 p5 hs6
  replace f_s := f_s.step p5; clear p5
  refine Rg_op rfl (op_move (v := (Value.slice (some ad1) s.length c_s)) rfl ?_)
  have f9 := Gs.of_cells (p := (rInt .i64)) (e := 3) (bl := b3) (c := 0) (w := w4) (O := ks [(some b3, Obj.cells [].toArray 3)] O) (show Els (rInt .i64) _ _ [] [] from Els.nil) rfl (le_lit rfl)
  replace hm := ck_some hm; obtain ⟨hc10, hm⟩ := hm
  obtain ⟨ns11, he12, hr13⟩ := f_s.src
  refine Rg_op rfl (op_append (q := (rInt .i64)) (i := 0) (xs := ([] : List Int)) (ys := s) (news := ns11) ty22 ty3 rfl (by decide) hs6 rfl rfl f9 rfl hr13 he12 hc10 (by have := hc10; simp only [maxLen]; omega) ?_)
  intro a17 c18 k19 o20 w14 p15 hs16 f21
  replace f_s := f_s.step p15; clear p15 hs6
  refine Rg_op rfl (op_assign (v := (Value.slice a17 (([] : List Int) ++ s).length c18)) rfl ?_)
  refine Rg_nil ?_
  refine Wp_ret ?_
  refine ⟨_, (show Closes [] _ _ from rfl), [(Value.slice a17 (([] : List Int) ++ s).length c18)], ⟨rfl, trivial⟩, hs16.ext, ?_⟩
  exact OkG.mk (i := 0) hs16 rfl f21 (Option.some.inj hm)
theorem c58_slices_Cloneint_int_ {w : World} {O : List Nat} {s : List Int} {a_s : Option Addr} {c_s : Nat} (hO : ∀ k ∈ O, k < w.heap.size) (f_s : SlR (rInt .i64) w O a_s c_s s) {x : (List Int)} (hm : m58_slices_Cloneint_int_ s = some x) :
  Ok Try.prog 58 [(Value.slice a_s s.length c_s)] w O (vC (rSl (rInt .i64))) x :=
 (g58_slices_Cloneint_int_ hO f_s hm).ok hO

end Go.Fx



set_option linter.unusedVariables false
set_option linter.unusedSimpArgs false
set_option maxRecDepth 100000
set_option maxHeartbeats 0
namespace Go.Fx
open Go Go.RowKit Go.Proofs
def m80_coalition_deviations_1_1_B0 (begin : List Int) (fv0_ : List Int) (fv2_ : XRound) (fv3_ : (List Int) → Option (List (List Int))) (sf66 : Int → Option (List (List Int))) (v_1 : Int) : Option (List (List Int)) :=
 bif (decide (v_1 < (fv0_.length : Int))) then
  ck ((0 : Int) ≤ v_1 ∧ v_1 < (fv0_.length : Int)) <|
  ck ((0 : Int) ≤ (begin.length : Int) ∧ (begin.length : Int) < (fv0_.length : Int)) <|
  ck ((0 : Int) ≤ (fv0_.getD begin.length default) ∧ (fv0_.getD begin.length default) < (fv2_.costs.length : Int)) <|
  ck ((0 : Int) ≤ (fv0_.getD v_1.toNat default) ∧ (fv0_.getD v_1.toNat default) < ((fv2_.costs.getD (fv0_.getD begin.length default).toNat default).length : Int)) <|
  bif (decide (0 ≤ ((fv2_.costs.getD (fv0_.getD begin.length default).toNat default).getD (fv0_.getD v_1.toNat default).toNat default))) then
   (m43_slices_Containsint_int_ begin (fv0_.getD v_1.toNat default)).bind fun contains_1 =>
   bif (!contains_1) then
    ck ((0 : Int) ≤ (begin.length : Int) ∧ (begin.length : Int) ≤ (begin.length : Int)) <|
    ck ((((begin.drop 0).take (begin.length - 0)).length + [(fv0_.getD v_1.toNat default)].length) * 8 ≤ 140737488355328) <|
    ck (0 < [(fv0_.getD v_1.toNat default)].length) <|
    apl (fv3_ (((begin.drop 0).take (begin.length - 0)) ++ [(fv0_.getD v_1.toNat default)])) (
    sf66 (IntKind.wrap .i64 (v_1 + 1)))
   else
    sf66 (IntKind.wrap .i64 (v_1 + 1))
  else
   sf66 (IntKind.wrap .i64 (v_1 + 1))
 else
  some ([] : List (List Int))

def m80_coalition_deviations_1_1 (begin : List Int) (fv0_ : List Int) (fv2_ : XRound) (fv3_ : (List Int) → Option (List (List Int))) : Option (List (List Int)) :=
 bif (decide ((begin.length : Int) = (fv0_.length : Int))) then
  (m58_slices_Cloneint_int_ begin).bind fun clone_1 =>
  yl clone_1 (
  some ([] : List (List Int)))
 else
  loop1 (m80_coalition_deviations_1_1_B0 begin fv0_ fv2_ fv3_) (((fv0_.length : Int) - 0).toNat + 1) 0

theorem c80_coalition_deviations_1_1 {w1 : World} {O1 : List Nat} {l : Nat} {begin : List Int} {fv0_ : List Int} {fv2_ : XRound} {fv3_ : (List Int) → Option (List (List Int))} {a_begin : Option Addr} {c_begin : Nat} {p_fv0_ : Addr} {p_fv1_ : Addr} {p_fv2_ : Addr} {p_fv3_ : Addr} (hO1 : ∀ k ∈ O1, k < w1.heap.size) (f_begin : SlR (rInt .i64) w1 O1 a_begin c_begin begin) (f_fv0_ : PtR (rSl (rInt .i64)) w1 O1 p_fv0_ fv0_) (f_fv1_ : PtR (rVal (Value.func (.yield l) #[] #[]) rfl) w1 O1 p_fv1_ ()) (f_fv2_ : PtR rXRound w1 O1 p_fv2_ fv2_) (f_fv3_ : PtR (rSb Try.prog (enc1 (vC (rSl (rInt .i64)))) l (vC (rSl (rInt .i64)))) w1 O1 p_fv3_ fv3_) {J Jx : JP (List Int)} (hJ : Abides J) (hJx : Abides Jx) {L : List (List Int)} (hm : m80_coalition_deviations_1_1 begin fv0_ fv2_ fv3_ = some L) (hY : YieldsTo Try.prog (enc1 (vC (rSl (rInt .i64)))) L l J Jx) (h0 : J [] w1 O1 []) :
  Fn Try.prog 80 [(Value.slice a_begin begin.length c_begin), (Value.pointer (some p_fv0_)), (Value.pointer (some p_fv1_)), (Value.pointer (some p_fv2_)), (Value.pointer (some p_fv3_))] w1 fun u w2 => ∃ O2, (u = .bool true ∧ J L w2 O2 []) ∨ (u = .bool false ∧ ∃ pre, Jx pre w2 O2 []) := by
 unfold m80_coalition_deviations_1_1 at hm
 obtain ⟨x, hm, hL⟩ : ∃ x, _ = some x ∧ L = [] ++ x := ⟨L, hm, rfl⟩
 refine Fn_of_Wp (n := 57) (xs := [.tmp 6]) Try.func80 rfl Try.ntmps80 Try.results80 rfl ?_
 have hs := St.start hO1
 have hI := Itr.start h0
 refine Wp_seq ?_
 refine Wp_region ?_
 refine Rg_op rfl (op_assign (v := (Value.bool false)) rfl ?_)
 refine Rg_nil ?_
 refine Wp_seq ?_
 refine Wp_region ?_
 refine Rg_op rfl (op_move (v := (Value.slice a_begin begin.length c_begin)) rfl ?_)
 refine Rg_op rfl (op_len Try.underlying22 rfl ?_)
 have rl1 := inK_len f_begin
 refine Rg_op rfl (op_assign (v := (Value.int .i64 (begin.length : Int))) rfl ?_)
 refine Rg_nil ?_
 refine Wp_seq ?_
 refine Wp_seq ?_
 refine Wp_region ?_
 refine Rg_op rfl (op_move (v := (Value.int .i64 (begin.length : Int))) rfl ?_)
 refine Rg_op rfl (op_loadP ty22 rfl f_fv0_ rfl ?_)
 intro v2 h3
 obtain ⟨a_y4, c_y4, rfl, f_y4⟩ := un_sl h3
 refine Rg_op rfl (op_len Try.underlying22 rfl ?_)
 have rl5 := inK_len f_y4
 refine Rg_op rfl (op_eql rfl rfl ?_)
 refine Rg_nil ?_
 refine Wp_cond rfl (fun hc6 => ?_) (fun hc6 => ?_)
 ·
  replace hm := bif_t hm hc6
  refine Wp_seq ?_
  clear f_fv0_ f_fv2_ f_fv3_ f_y4
  refine Wp_drawR (g0 := []) (m := 3) (fl := []) (TS_inv hs) rfl (.inl rfl) rfl (by decide +kernel) ?_  -- 3
  refine Dw_eq (Value.func (.yield l) #[] #[]) (fun ρ7 w8 g hle hi ht => ?_) ?_
  ·
   obtain ⟨-, hst, -⟩ := hle
   replace f_fv1_ := f_fv1_.step hst
   refine StepOp_plain (op_loadP ty75 (ht 2 rfl) f_fv1_ rfl ?_)
   intro v10 h11
   obtain rfl := un_val h11
   exact Goes.same hi rfl
  refine Dw_eq (Value.slice a_begin begin.length c_begin) (fun ρ12 w13 g hle hi ht => ?_) ?_
  ·
   obtain ⟨-, hst, -⟩ := hle
   refine StepOp_plain (op_move (v := (Value.slice a_begin begin.length c_begin)) (ht 0 rfl) ?_)
   exact Goes.same hi rfl
  replace hm := bd hm; obtain ⟨clone_1, hv18, hm⟩ := hm
  refine Dw_op (VD O1 [] (vC (rSl (rInt .i64))) clone_1) (VD.stab _ _) (fun ρ15 w16 g hle hi ht => ?_) ?_
  ·
   obtain ⟨-, hst, -⟩ := hle
   replace f_begin := f_begin.step hst
   refine StepOp_plain (op_call Try.call58 (c58_slices_Cloneint_int_ (O := ks (ents g ++ []) O1) (s := begin) hi.ltw f_begin hv18) (by simp only [List.map, Array.toList, (show ev _ (.tmp 17) = _ from (ht 17 rfl))] <;> rfl) ?_)
   rintro v19 w20 ⟨hx21, h22⟩
   exact Goes.call hi hx21 h22
  refine Dw_nil fun w28 g29 hl30 hi31 => ?_
  obtain ⟨-, hst32, -⟩ := hl30
  obtain ⟨hs34, p33⟩ := Step.nx hi31
  rintro v35 h36
  replace h36 : Vr.vd (vC (rSl (rInt .i64))) _ _ _ _ := h36
  obtain ⟨a_y37, c_y37, rfl, f_y37⟩ := un_sl h36
  rintro _ rfl
  rintro _ rfl
  have p38 : Step (ks [] O1) w1 (ks [] O1) w28 := hst32.trans p33
  replace f_y37 := f_y37.step p33; replace f_begin := f_begin.step p38; replace f_fv1_ := f_fv1_.step p38; clear p38
  replace hm := yl_elim hm; obtain ⟨xr39, hm, hL40⟩ := hm
  rw [hL40] at hL
  refine Rg_op rfl (op_yield (pre := ([] : List _)) (a := clone_1) rfl rfl hY hJ hI hs34 ⟨xr39, by rw [hL]; simp⟩ (show (enc1 (vC (rSl (rInt .i64)))) _ _ _ _ from ⟨_, rfl, (mkC (mk_sl f_y37))⟩) ?_ ?_)
  ·
   intro w41 O42 hs43 p44 hI45
   replace f_begin := f_begin.step p44; replace f_fv1_ := f_fv1_.step p44; replace f_y37 := f_y37.step p44; clear p44 hs34
   have hL46 : L = (([] : List _) ++ [clone_1]) ++ xr39 := by rw [hL]; simp
   refine Rg_op rfl (op_assign (v := (Value.bool true)) rfl ?_)
   refine Rg_nil ?_
   refine Wp_ret ?_
   have h47 := hI45.fin hJ hs43
   rw [← Option.some.inj hm, List.append_nil] at hL46; rw [← hL46] at h47
   exact ⟨_, (show Closes [] _ _ from rfl), [Value.bool true], ⟨rfl, trivial⟩, _, .inl ⟨rfl, h47⟩⟩
  ·
   intro w48 O49 hs50 hI52
   refine Rg_op rfl (op_assign (v := (Value.bool false)) rfl ?_)
   refine Rg_nil ?_
   refine Wp_ret ?_
   exact ⟨_, (show Closes [] _ _ from rfl), [Value.bool false], ⟨rfl, trivial⟩, _, .inr ⟨rfl, _, hI52.fin hJx hs50⟩⟩
 ·
  replace hm := bif_f hm hc6
  refine Wp_skip ?_
  refine Wp_seq ?_
  refine Wp_seq ?_
  clear f_fv1_ f_y4
  refine Wp_region ?_
  refine Rg_op rfl (op_loadP ty22 rfl f_fv0_ rfl ?_)
  intro v53 h54
  obtain ⟨a_y55, c_y55, rfl, f_y55⟩ := un_sl h54
  refine Rg_op rfl (op_len Try.underlying22 rfl ?_)
  have rl56 := inK_len f_y55
  refine Rg_op rfl (op_move (v := (Value.int .i64 0)) rfl ?_)
  refine Rg_nil ?_
  refine Wp_block ?_
  refine Wp_reset [] [(0, (Value.slice a_begin begin.length c_begin)), (1, (Value.pointer (some p_fv0_))), (3, (Value.pointer (some p_fv2_))), (4, (Value.pointer (some p_fv3_))), (7, (Value.int .i64 (begin.length : Int))), (20, (Value.slice a_y55 fv0_.length c_y55)), (21, (Value.int .i64 (fv0_.length : Int))), (22, (Value.int .i64 0))] rfl ⟨rfl, rfl, rfl, rfl, rfl, rfl, rfl, rfl, trivial⟩ fun ξ65 => ?_
  refine Wp_loopM [6, 9, 22, 23, 24, 25, 26, 27, 28, 29, 30, 31, 32, 33, 34, 35, 36, 37, 38, 39, 40, 41, 42, 43, 44, 45, 46, 47, 48, 49, 50, 51, 52, 53, 54, 55, 56] (fun m fr w' => ∃ (v_1 : Int) (xr58 pre59 : List (List Int)) (wz60 : World) (Kz61 Oz62 : List Nat) (Ebs : Ents), Ebs = [] ∧ fr [] [(22, (Value.int .i64 v_1))] ∧ Step (ks [] O1) w1 (ks Ebs Oz62) w' ∧ St ⟨wz60, Kz61, []⟩ Oz62 w' Ebs ∧ InK .i64 v_1 ∧ Itr J pre59 ⟨wz60, Kz61, []⟩ Oz62 ∧ L = pre59 ++ xr58 ∧ loop1 (m80_coalition_deviations_1_1_B0 begin fv0_ fv2_ fv3_) m v_1 = some xr58) (((fv0_.length : Int) - 0).toNat + 1) ⟨0, x, ([] : List _), w1, [], O1, _, rfl, ⟨Out.refl _ _, rfl, rfl, trivial⟩, Step.refl _ _, hs, (show InK .i64 0 from by decide), hI, hL, hm⟩ ?_ ?_
  · rintro _ _ ⟨_, _, _, _, _, _, _, _, _, _, _, _, _, _, hm⟩; exact loop1_z hm
  ·
   rintro m69 K68 hK68 ρ74 w70 ⟨v_1, xr58, pre59, wz60, Kz61, Oz62, Ebs, hEbs, hfr73, hst72, hs71, r_y57, hI63, hL64, hm⟩
   obtain ⟨sf66, hsf67, hm⟩ := loop1_s hm; unfold m80_coalition_deviations_1_1_B0 at hm
   subst hEbs; rw [hfr73.eq]; clear hfr73
   replace f_begin := f_begin.step hst72; replace f_fv0_ := f_fv0_.step hst72; replace f_fv2_ := f_fv2_.step hst72; replace f_fv3_ := f_fv3_.step hst72; replace f_y55 := f_y55.step hst72
   have ch75 := hst72
   refine Wp_seq ?_
   refine Wp_region ?_
   refine Rg_op rfl (op_lss rfl rfl ?_)
   refine Rg_nil ?_
   refine Wp_seq ?_
   refine Wp_cond rfl (fun hc76 => ?_) (fun hc76 => ?_)
   ·
    replace hm := bif_t hm hc76
    refine Wp_skip ?_
    refine Wp_seq ?_
    refine Wp_block ?_
    refine Wp_seq ?_
    refine Wp_region ?_
    replace hm := ck_some hm; obtain ⟨hc77, hm⟩ := hm
    refine Rg_op rfl (op_indexAddr (q := (rInt .i64)) ty22 ty3 rfl rfl f_y55 rfl hc77.1 hc77.2 ?_)
    intro p78 f79
    refine Rg_op rfl (op_loadP ty3 rfl f79 rfl ?_)
    intro v80 h81
    obtain ⟨rfl, r_y82⟩ := un_int h81
    refine Rg_op rfl (op_assign (v := (Value.int .i64 (fv0_.getD v_1.toNat default))) rfl ?_)
    refine Rg_nil ?_
    refine Wp_seq ?_
    clear f79
    refine Wp_drawR (g0 := []) (m := 27) (fl := []) (TS_inv hs71) rfl (.inl rfl) rfl (by decide +kernel) ?_  -- 7
    refine Dw_op (VP Oz62 [] (rSl (rSl (rInt .i64))) fv2_.costs) (VP.stab _ _) (fun ρ83 w84 g hle hi ht => ?_) ?_
    ·
     obtain ⟨-, hst, -⟩ := hle
     replace f_fv2_ := f_fv2_.step hst
     refine StepOp_plain (op_fieldAddr ty25 rfl ty23 (by decide) (ht 3 rfl) rfl ?_)
     have f86 := f_fv2_.via.snd.snd
     exact Goes.same hi ⟨_, rfl, f86⟩
    refine Dw_op (VD Oz62 [] (vC (rSl (rSl (rInt .i64)))) fv2_.costs) (VD.stab _ _) (fun ρ87 w88 g hle hi ht => ?_) ?_
    ·
     obtain ⟨-, hst, -⟩ := hle
     obtain ⟨p90, q91, f92⟩ := ht 26 rfl
     refine StepOp_plain (op_loadP ty23 q91 f92 rfl ?_)
     intro v93 h94
     obtain ⟨a_y95, c_y95, rfl, f_y95⟩ := un_sl h94
     exact Goes.same hi (show Vr.vd (vC (rSl (rSl (rInt .i64)))) _ _ _ _ from (mkC (mk_sl f_y95)))
    refine Dw_op (VD Oz62 [] (vC (rSl (rInt .i64))) fv0_) (VD.stab _ _) (fun ρ96 w97 g hle hi ht => ?_) ?_
    ·
     obtain ⟨-, hst, -⟩ := hle
     replace f_fv0_ := f_fv0_.step hst
     refine StepOp_plain (op_loadP ty22 (ht 1 rfl) f_fv0_ rfl ?_)
     intro v99 h100
     obtain ⟨a_y101, c_y101, rfl, f_y101⟩ := un_sl h100
     exact Goes.same hi (show Vr.vd (vC (rSl (rInt .i64))) _ _ _ _ from (mkC (mk_sl f_y101)))
    refine Dw_eq (Value.int .i64 (begin.length : Int)) (fun ρ102 w103 g hle hi ht => ?_) ?_
    ·
     obtain ⟨-, hst, -⟩ := hle
     refine StepOp_plain (op_move (v := (Value.int .i64 (begin.length : Int))) (ht 7 rfl) ?_)
     exact Goes.same hi rfl
    replace hm := ck_some hm; obtain ⟨hc111, hm⟩ := hm
    refine Dw_op (VP Oz62 [] (rInt .i64) (fv0_.getD begin.length default)) (VP.stab _ _) (fun ρ105 w106 g hle hi ht => ?_) ?_
    ·
     obtain ⟨-, hst, -⟩ := hle
     have h108 : Vr.vd (vC (rSl (rInt .i64))) _ _ _ _ := ht 28 rfl
     obtain ⟨a_y110, c_y110, q109, f_y110⟩ := un_sl h108
     refine StepOp_plain (op_indexAddr (q := (rInt .i64)) ty22 ty3 q109 (ht 29 rfl) f_y110 rfl hc111.1 hc111.2 ?_)
     intro p112 f113
     exact Goes.same hi ⟨_, rfl, f113⟩
    refine Dw_op (VD Oz62 [] (vI .i64) (fv0_.getD begin.length default)) (VD.stab _ _) (fun ρ114 w115 g hle hi ht => ?_) ?_
    ·
     obtain ⟨-, hst, -⟩ := hle
     obtain ⟨p117, q118, f119⟩ := ht 30 rfl
     refine StepOp_plain (op_loadP ty3 q118 f119 rfl ?_)
     intro v120 h121
     obtain ⟨rfl, r_y122⟩ := un_int h121
     exact Goes.same hi (show Vr.vd (vI .i64) _ _ _ _ from ⟨rfl, r_y122⟩)
    replace hm := ck_some hm; obtain ⟨hc132, hm⟩ := hm
    refine Dw_op (VP Oz62 [] (rSl (rInt .i64)) (fv2_.costs.getD (fv0_.getD begin.length default).toNat default)) (VP.stab _ _) (fun ρ123 w124 g hle hi ht => ?_) ?_
    ·
     obtain ⟨-, hst, -⟩ := hle
     have h126 : Vr.vd (vC (rSl (rSl (rInt .i64)))) _ _ _ _ := ht 27 rfl
     obtain ⟨a_y128, c_y128, q127, f_y128⟩ := un_sl h126
     have h129 : Vr.vd (vI .i64) _ _ _ _ := ht 31 rfl
     obtain ⟨q130, r_y131⟩ := h129
     refine StepOp_plain (op_indexAddr (q := (rSl (rInt .i64))) ty23 ty22 q127 q130 f_y128 rfl hc132.1 hc132.2 ?_)
     intro p133 f134
     exact Goes.same hi ⟨_, rfl, f134⟩
    refine Dw_op (VD Oz62 [] (vC (rSl (rInt .i64))) (fv2_.costs.getD (fv0_.getD begin.length default).toNat default)) (VD.stab _ _) (fun ρ135 w136 g hle hi ht => ?_) ?_
    ·
     obtain ⟨-, hst, -⟩ := hle
     obtain ⟨p138, q139, f140⟩ := ht 32 rfl
     refine StepOp_plain (op_loadP ty22 q139 f140 rfl ?_)
     intro v141 h142
     obtain ⟨a_y143, c_y143, rfl, f_y143⟩ := un_sl h142
     exact Goes.same hi (show Vr.vd (vC (rSl (rInt .i64))) _ _ _ _ from (mkC (mk_sl f_y143)))
    refine Dw_eq (Value.int .i64 (fv0_.getD v_1.toNat default)) (fun ρ144 w145 g hle hi ht => ?_) ?_
    ·
     obtain ⟨-, hst, -⟩ := hle
     refine StepOp_plain (op_move (v := (Value.int .i64 (fv0_.getD v_1.toNat default))) (ht 9 rfl) ?_)
     exact Goes.same hi rfl
    replace hm := ck_some hm; obtain ⟨hc153, hm⟩ := hm
    refine Dw_op (VP Oz62 [] (rInt .i64) ((fv2_.costs.getD (fv0_.getD begin.length default).toNat default).getD (fv0_.getD v_1.toNat default).toNat default)) (VP.stab _ _) (fun ρ147 w148 g hle hi ht => ?_) ?_
    ·
     obtain ⟨-, hst, -⟩ := hle
     have h150 : Vr.vd (vC (rSl (rInt .i64))) _ _ _ _ := ht 33 rfl
     obtain ⟨a_y152, c_y152, q151, f_y152⟩ := un_sl h150
     refine StepOp_plain (op_indexAddr (q := (rInt .i64)) ty22 ty3 q151 (ht 34 rfl) f_y152 rfl hc153.1 hc153.2 ?_)
     intro p154 f155
     exact Goes.same hi ⟨_, rfl, f155⟩
    refine Dw_op (VD Oz62 [] (vI .i64) ((fv2_.costs.getD (fv0_.getD begin.length default).toNat default).getD (fv0_.getD v_1.toNat default).toNat default)) (VD.stab _ _) (fun ρ156 w157 g hle hi ht => ?_) ?_
    ·
     obtain ⟨-, hst, -⟩ := hle
     obtain ⟨p159, q160, f161⟩ := ht 35 rfl
     refine StepOp_plain (op_loadP ty3 q160 f161 rfl ?_)
     intro v162 h163
     obtain ⟨rfl, r_y164⟩ := un_int h163
     exact Goes.same hi (show Vr.vd (vI .i64) _ _ _ _ from ⟨rfl, r_y164⟩)
    refine Dw_eq (Value.bool (decide (0 ≤ ((fv2_.costs.getD (fv0_.getD begin.length default).toNat default).getD (fv0_.getD v_1.toNat default).toNat default)))) (fun ρ165 w166 g hle hi ht => ?_) ?_
    ·
     obtain ⟨-, hst, -⟩ := hle
     have h168 : Vr.vd (vI .i64) _ _ _ _ := ht 36 rfl
     obtain ⟨q169, r_y170⟩ := h168
     refine StepOp_plain (op_geq q169 rfl ?_)
     exact Goes.same hi rfl
    refine Dw_opB (decide (0 ≤ ((fv2_.costs.getD (fv0_.getD begin.length default).toNat default).getD (fv0_.getD v_1.toNat default).toNat default))) (fun ρ171 w172 g hle hi ht => ?_) (fun hg174 => ?_) (fun hg174 => ?_)
    ·
     obtain ⟨-, hst, -⟩ := hle
     refine StepOp_plain (op_move (v := (Value.bool (decide (0 ≤ ((fv2_.costs.getD (fv0_.getD begin.length default).toNat default).getD (fv0_.getD v_1.toNat default).toNat default))))) (ht 37 rfl) ?_)
     exact Goes.same hi rfl
    ·
     replace hm := bif_t hm hg174
     refine Dw_eq (Value.slice a_begin begin.length c_begin) (fun ρ175 w176 g hle hi ht => ?_) ?_
     ·
      obtain ⟨-, hst, -⟩ := hle
      refine StepOp_g rfl (ht 38 rfl) (op_move (v := (Value.slice a_begin begin.length c_begin)) (ht 0 rfl) ?_)
      exact Goes.same hi rfl
     refine Dw_eq (Value.int .i64 (fv0_.getD v_1.toNat default)) (fun ρ178 w179 g hle hi ht => ?_) ?_
     ·
      obtain ⟨-, hst, -⟩ := hle
      refine StepOp_g rfl (ht 38 rfl) (op_move (v := (Value.int .i64 (fv0_.getD v_1.toNat default))) (ht 9 rfl) ?_)
      exact Goes.same hi rfl
     replace hm := bd hm; obtain ⟨contains_1, hv184, hm⟩ := hm
     refine Dw_op (VD Oz62 [] vB contains_1) (VD.stab _ _) (fun ρ181 w182 g hle hi ht => ?_) ?_
     ·
      obtain ⟨-, hst, -⟩ := hle
      replace f_begin := f_begin.step hst
      refine StepOp_g rfl (ht 38 rfl) (op_call Try.call43 (c43_slices_Containsint_int_ (O := ks (ents g ++ []) Oz62) (s := begin) (v := (fv0_.getD v_1.toNat default)) hi.ltw f_begin r_y82 hv184) (by simp only [List.map, Array.toList, (show ev _ (.tmp 39) = _ from (ht 39 rfl)), (show ev _ (.tmp 40) = _ from (ht 40 rfl))] <;> rfl) ?_)
      rintro v185 w186 ⟨hx187, h188⟩
      exact Goes.call hi hx187 h188
     refine Dw_eq (Value.bool (!contains_1)) (fun ρ190 w191 g hle hi ht => ?_) ?_
     ·
      obtain ⟨-, hst, -⟩ := hle
      have h193 : Vr.vd vB _ _ _ _ := ht 41 rfl
      have q194 : _ = (Value.bool contains_1) := h193
      refine StepOp_g rfl (ht 38 rfl) (op_not q194 ?_)
      exact Goes.same hi rfl
     refine Dw_eq (Value.bool (!contains_1)) (fun ρ196 w197 g hle hi ht => ?_) ?_
     ·
      obtain ⟨-, hst, -⟩ := hle
      refine StepOp_plain (op_pick_t (v := (Value.bool (!contains_1))) (ht 38 rfl) (ht 42 rfl) ?_)
      exact Goes.same hi rfl
     refine Dw_opB (!contains_1) (fun ρ199 w200 g hle hi ht => ?_) (fun hg202 => ?_) (fun hg202 => ?_)
     ·
      obtain ⟨-, hst, -⟩ := hle
      refine StepOp_plain (op_move (v := (Value.bool (!contains_1))) (ht 43 rfl) ?_)
      exact Goes.same hi rfl
     ·
      replace hm := bif_t hm hg202
      refine Dw_op (VD Oz62 [] (vSb Try.prog (enc1 (vC (rSl (rInt .i64)))) l (vC (rSl (rInt .i64)))) fv3_) (VD.stab _ _) (fun ρ203 w204 g hle hi ht => ?_) ?_
      ·
       obtain ⟨-, hst, -⟩ := hle
       replace f_fv3_ := f_fv3_.step hst
       refine StepOp_g rfl (ht 44 rfl) (op_loadP ty75 (ht 4 rfl) f_fv3_ rfl ?_)
       intro v206 h207
       have F208 := un_sb h207; clear h207
       exact Goes.same hi (show Vr.vd (vSb Try.prog (enc1 (vC (rSl (rInt .i64)))) l (vC (rSl (rInt .i64)))) _ _ _ _ from F208)
      refine Dw_eq (Value.slice a_begin begin.length c_begin) (fun ρ209 w210 g hle hi ht => ?_) ?_
      ·
       obtain ⟨-, hst, -⟩ := hle
       refine StepOp_g rfl (ht 44 rfl) (op_move (v := (Value.slice a_begin begin.length c_begin)) (ht 0 rfl) ?_)
       exact Goes.same hi rfl
      refine Dw_eq (Value.int .i64 (begin.length : Int)) (fun ρ212 w213 g hle hi ht => ?_) ?_
      ·
       obtain ⟨-, hst, -⟩ := hle
       refine StepOp_g rfl (ht 44 rfl) (op_move (v := (Value.int .i64 (begin.length : Int))) (ht 7 rfl) ?_)
       exact Goes.same hi rfl
      refine Dw_eq (Value.int .i64 (begin.length : Int)) (fun ρ215 w216 g hle hi ht => ?_) ?_
      ·
       obtain ⟨-, hst, -⟩ := hle
       refine StepOp_g rfl (ht 44 rfl) (op_move (v := (Value.int .i64 (begin.length : Int))) (ht 7 rfl) ?_)
       exact Goes.same hi rfl
      replace hm := ck_some hm; obtain ⟨hc221, hm⟩ := hm
      refine Dw_op (VD Oz62 [] (vCl (rInt .i64)) ((begin.drop 0).take (begin.length - 0))) (VD.stab _ _) (fun ρ218 w219 g hle hi ht => ?_) ?_
      ·
       obtain ⟨-, hst, -⟩ := hle
       replace f_begin := f_begin.step hst
       refine StepOp_g rfl (ht 44 rfl) (op_slice (q := (rInt .i64)) (l := 0) (h := begin.length) (m := begin.length) ty22 ty3 (ht 46 rfl) f_begin rfl rfl (bndI (ht 47 rfl) (by omega)) (bndI (ht 48 rfl) (by omega)) (by decide) (by omega) (by omega) (by have h_ : begin.length ≤ c_begin := f_begin.le; omega) (by have h_ : begin.length ≤ c_begin := f_begin.le; omega) ?_)
       intro a222 f223
       exact Goes.same hi (show Vr.vd (vCl (rInt .i64)) _ _ _ _ from mkCl f223 (by simp <;> omega))
      refine Dw_eq (Value.int .i64 (fv0_.getD v_1.toNat default)) (fun ρ224 w225 g hle hi ht => ?_) ?_
      ·
       obtain ⟨-, hst, -⟩ := hle
       refine StepOp_g rfl (ht 44 rfl) (op_move (v := (Value.int .i64 (fv0_.getD v_1.toNat default))) (ht 9 rfl) ?_)
       exact Goes.same hi rfl
      refine Dw_op (VD Oz62 [] (vC (rSl (rInt .i64))) [(fv0_.getD v_1.toNat default)]) (VD.stab _ _) (fun ρ227 w228 g hle hi ht => ?_) ?_
      ·
       obtain ⟨-, hst, -⟩ := hle
       replace f_begin := f_begin.step hst; replace f_fv0_ := f_fv0_.step hst; replace f_fv2_ := f_fv2_.step hst; replace f_fv3_ := f_fv3_.step hst; replace f_y55 := f_y55.step hst
       refine StepOp_g rfl (ht 44 rfl) (op_buildSlice (cs := [(Value.int .i64 (fv0_.getD v_1.toNat default))]) (parts := [(0, .tmp 50)]) ty22 ty3 hi (by decide) (by simp only [List.map, (show ev _ (.tmp 50) = _ from (ht 50 rfl))]; rfl) ?_)
       intro b230 w231 hx234 p232 hs233
       replace f_begin := f_begin.step p232; replace f_fv0_ := f_fv0_.step p232; replace f_fv2_ := f_fv2_.step p232; replace f_fv3_ := f_fv3_.step p232; replace f_y55 := f_y55.step p232
       obtain ⟨hs236, p237, f238⟩ := St.publish (q := (rInt .i64)) (i := 0) (o := 0) (c := 1) (xs := [(fv0_.getD v_1.toNat default)]) hs233 rfl (show Els (rInt .i64) _ _ [(Value.int .i64 (fv0_.getD v_1.toNat default))] [(fv0_.getD v_1.toNat default)] from ⟨_, _, rfl, (mk_int r_y82), Els.nil⟩) (le_lit rfl) (le_lit rfl) (le_lit rfl)
       exact Goes.pub hi hs236 (Step.trans p232 p237) hx234 (show Vr.vd (vC (rSl (rInt .i64))) _ _ _ _ from mkC (mk_sl f238))
      replace hm := ck_some hm; obtain ⟨hc249, hm⟩ := hm
      replace hm := ck_some hm; obtain ⟨hc250, hm⟩ := hm
      refine Dw_op (VD Oz62 [] (vC (rSl (rInt .i64))) (((begin.drop 0).take (begin.length - 0)) ++ [(fv0_.getD v_1.toNat default)])) (VD.stab _ _) (fun ρ239 w240 g hle hi ht => ?_) ?_
      ·
       obtain ⟨-, hst, -⟩ := hle
       have h242 : Vr.vd (vCl (rInt .i64)) _ _ _ _ := ht 49 rfl
       obtain ⟨a244, q243, f245⟩ := h242
       have h246 : Vr.vd (vC (rSl (rInt .i64))) _ _ _ _ := ht 51 rfl
       obtain ⟨a_y248, c_y248, q247, f_y248⟩ := un_sl h246
       obtain ⟨ns251, he252, hr253⟩ := f_y248.src
       refine StepOp_g rfl (ht 44 rfl) (op_appendPX (q := (rInt .i64)) (xs := ((begin.drop 0).take (begin.length - 0))) (ys := [(fv0_.getD v_1.toNat default)]) (news := ns251) ty22 ty3 rfl (by decide) hi q243 f245 q247 hr253 he252 hc250 hc249 (by have := hc249; simp only [maxLen]; omega) ?_)
       intro a257 c258 w254 hx260 p255 hs256 f259; exact Goes.pub hi hs256 p255 hx260 (show Vr.vd (vC (rSl (rInt .i64))) _ _ _ _ from mkC (mk_sl f259))
      refine Dw_nil fun w265 g266 hl267 hi268 => ?_
      obtain ⟨-, hst269, -⟩ := hl267
      obtain ⟨hs271, p270⟩ := Step.nx hi268
      rintro v272 h273
      replace h273 : Vr.vd (vC (rSl (rInt .i64))) _ _ _ _ := h273
      obtain ⟨a_y274, c_y274, rfl, f_y274⟩ := un_sl h273
      rintro v275 h276
      replace h276 : Vr.vd (vC (rSl (rInt .i64))) _ _ _ _ := h276
      obtain ⟨a_y277, c_y277, rfl, f_y277⟩ := un_sl h276
      rintro _ rfl
      rintro v278 h279
      replace h279 : Vr.vd (vCl (rInt .i64)) _ _ _ _ := h279
      obtain ⟨a280, rfl, f281⟩ := h279
      rintro _ rfl
      rintro _ rfl
      rintro _ rfl
      rintro v282 h283
      replace h283 : Vr.vd (vSb Try.prog (enc1 (vC (rSl (rInt .i64)))) l (vC (rSl (rInt .i64)))) _ _ _ _ := h283
      have F285 := h283
      replace F285 : SubIt1 Try.prog (enc1 (vC (rSl (rInt .i64)))) l _ _ v282 (vC (rSl (rInt .i64))) fv3_ := F285
      rintro _ rfl
      rintro _ rfl
      rintro _ rfl
      rintro v286 h287
      replace h287 : Vr.vd vB _ _ _ _ := h287
      obtain rfl := h287
      rintro _ rfl
      rintro _ rfl
      rintro _ rfl
      rintro _ rfl
      rintro v289 h290
      replace h290 : Vr.vd (vI .i64) _ _ _ _ := h290
      obtain ⟨rfl, r_y291⟩ := h290
      rintro _ ⟨p292, rfl, f293⟩
      rintro _ rfl
      rintro v294 h295
      replace h295 : Vr.vd (vC (rSl (rInt .i64))) _ _ _ _ := h295
      obtain ⟨a_y296, c_y296, rfl, f_y296⟩ := un_sl h295
      rintro _ ⟨p297, rfl, f298⟩
      rintro v299 h300
      replace h300 : Vr.vd (vI .i64) _ _ _ _ := h300
      obtain ⟨rfl, r_y301⟩ := h300
      rintro _ ⟨p302, rfl, f303⟩
      rintro _ rfl
      rintro v304 h305
      replace h305 : Vr.vd (vC (rSl (rInt .i64))) _ _ _ _ := h305
      obtain ⟨a_y306, c_y306, rfl, f_y306⟩ := un_sl h305
      rintro v307 h308
      replace h308 : Vr.vd (vC (rSl (rSl (rInt .i64)))) _ _ _ _ := h308
      obtain ⟨a_y309, c_y309, rfl, f_y309⟩ := un_sl h308
      rintro _ ⟨p310, rfl, f311⟩
      have p312 : Step (ks [] Oz62) w70 (ks [] Oz62) w265 := hst269.trans p270
      replace f_y274 := f_y274.step p270; replace f_y277 := f_y277.step p270; replace f281 := f281.step p270; replace F285 := F285.step p270; replace f293 := f293.step p270; replace f_y296 := f_y296.step p270; replace f298 := f298.step p270; replace f303 := f303.step p270; replace f_y306 := f_y306.step p270; replace f_y309 := f_y309.step p270; replace f311 := f311.step p270; replace f_begin := f_begin.step p312; replace f_fv0_ := f_fv0_.step p312; replace f_fv2_ := f_fv2_.step p312; replace f_fv3_ := f_fv3_.step p312; replace f_y55 := f_y55.step p312; replace ch75 := ch75.trans p312; clear p312 hs71
      replace hm := apl_elim hm; obtain ⟨A313, xr314, ha315, hm, hL316⟩ := hm
      rw [hL316] at hL64
      refine Rg_opg rfl rfl rfl (op_subcall (pre := pre59) (Lx := A313) rfl F285 rfl (show Vr.vd (vC (rSl (rInt .i64))) _ _ _ _ from (mkC (mk_sl f_y274))) ha315 hY hJ hJx hI63 hs271 ⟨xr314, by rw [hL64]; simp⟩ ?_ ?_)
      ·
       intro w317 O318 hs319 p320 hI321
       replace f_begin := f_begin.step p320; replace f_fv0_ := f_fv0_.step p320; replace f_fv2_ := f_fv2_.step p320; replace f_fv3_ := f_fv3_.step p320; replace f_y55 := f_y55.step p320; replace f_y274 := f_y274.step p320; replace f_y277 := f_y277.step p320; replace f281 := f281.step p320; replace F285 := F285.step p320; replace f293 := f293.step p320; replace f_y296 := f_y296.step p320; replace f298 := f298.step p320; replace f303 := f303.step p320; replace f_y306 := f_y306.step p320; replace f_y309 := f_y309.step p320; replace f311 := f311.step p320; replace ch75 := ch75.trans p320; clear p320 hs271
       have hL322 : L = (pre59 ++ A313) ++ xr314 := by rw [hL64]; simp
       refine Rg_opg rfl rfl rfl (op_not rfl ?_)
       refine Rg_op rfl (op_pick_t (v := (Value.bool false)) rfl rfl ?_)
       refine Rg_nil ?_
       refine Wp_cond_f rfl ?_
       refine Wp_skip ?_
       clear f293 f_y296 f298 f303 f_y306 f_y309 f311
       refine Wp_reset2 [6, 9, 22, 23, 24, 25, 26, 27, 28, 29, 30, 31, 32, 33, 34, 35, 36, 37, 38, 39, 40, 41, 42, 43, 44, 45, 46, 47, 48, 49, 50, 51, 52, 53, 54, 55, 56] [] (updL ⟨ξ65, []⟩ [(0, (Value.slice a_begin begin.length c_begin)), (1, (Value.pointer (some p_fv0_))), (3, (Value.pointer (some p_fv2_))), (4, (Value.pointer (some p_fv3_))), (7, (Value.int .i64 (begin.length : Int))), (20, (Value.slice a_y55 fv0_.length c_y55)), (21, (Value.int .i64 (fv0_.length : Int))), (22, (Value.int .i64 0))]) [(22, (Value.int .i64 v_1)), (39, (Value.slice a_begin begin.length c_begin)), (40, (Value.int .i64 (fv0_.getD v_1.toNat default))), (41, (Value.bool contains_1)), (42, (Value.bool (!contains_1))), (45, v282), (46, (Value.slice a_begin begin.length c_begin)), (47, (Value.int .i64 (begin.length : Int))), (48, (Value.int .i64 (begin.length : Int))), (49, (Value.slice a280 ((begin.drop 0).take (begin.length - 0)).length (((begin.drop 0).take (begin.length - 0)).length))), (50, (Value.int .i64 (fv0_.getD v_1.toNat default))), (51, (Value.slice a_y277 [(fv0_.getD v_1.toNat default)].length c_y277)), (52, (Value.slice a_y274 (((begin.drop 0).take (begin.length - 0)) ++ [(fv0_.getD v_1.toNat default)]).length c_y274)), (53, (Value.bool true)), (54, (Value.bool false))] (by repeat (first | with_reducible exact Out.refl _ _ | refine Out.upd ?_ rfl | refine Out.updL ?_ rfl | refine Out.mix' ?_ rfl | exact Out.refl _ _)) rfl ⟨rfl, rfl, rfl, rfl, rfl, rfl, rfl, rfl, rfl, rfl, rfl, rfl, rfl, rfl, rfl, trivial⟩ fun ξ323 => ?_
       refine Wp_region ?_
       refine Rg_op rfl (op_addw rfl rfl ?_)
       refine Rg_op rfl (op_move (v := (Value.int .i64 (IntKind.wrap .i64 (v_1 + 1)))) rfl ?_)
       refine Rg_nil ?_
       exact hK68 _ _ ⟨(IntKind.wrap .i64 (v_1 + 1)), xr314, (pre59 ++ A313), w317, (List.filterMap Prod.fst []), O318, _, rfl, ⟨(by repeat (first | with_reducible exact Out.refl _ _ | refine Out.upd ?_ rfl | refine Out.updL ?_ rfl | refine Out.mix' ?_ rfl | exact Out.refl _ _)), rfl, rfl, trivial⟩, ch75, hs319, (inK_wrap .i64 _), hI321, hL322, jnE1 hsf67 hm⟩
      ·
       intro w324 O325 _ hs326 hI328
       refine Rg_opg rfl rfl rfl (op_not rfl ?_)
       refine Rg_op rfl (op_pick_t (v := (Value.bool true)) rfl rfl ?_)
       refine Rg_nil ?_
       refine Wp_cond_t rfl ?_
       refine Wp_seq ?_
       refine Wp_reset2 [6, 9, 22, 23, 24, 25, 26, 27, 28, 29, 30, 31, 32, 33, 34, 35, 36, 37, 38, 39, 40, 41, 42, 43, 44, 45, 46, 47, 48, 49, 50, 51, 52, 53, 54, 55, 56] [] (updL ⟨ξ65, []⟩ [(0, (Value.slice a_begin begin.length c_begin)), (1, (Value.pointer (some p_fv0_))), (3, (Value.pointer (some p_fv2_))), (4, (Value.pointer (some p_fv3_))), (7, (Value.int .i64 (begin.length : Int))), (20, (Value.slice a_y55 fv0_.length c_y55)), (21, (Value.int .i64 (fv0_.length : Int))), (22, (Value.int .i64 0))]) [] (by repeat (first | with_reducible exact Out.refl _ _ | refine Out.upd ?_ rfl | refine Out.updL ?_ rfl | refine Out.mix' ?_ rfl | exact Out.refl _ _)) rfl trivial fun ξ329 => ?_
       refine Wp_region ?_
       refine Rg_op rfl (op_assign (v := (Value.bool false)) rfl ?_)
       refine Rg_nil ?_
       refine Wp_ret ?_
       exact ⟨_, (show Closes [] _ _ from rfl), [Value.bool false], ⟨rfl, trivial⟩, _, .inr ⟨rfl, _, hI328.fin hJx hs326⟩⟩
     ·
      replace hm := bif_f hm hg202
      refine Dw_skip (fun _ _ _ ht => wanted_x rfl (ht 44 rfl) rfl) ?_
      refine Dw_skip (fun _ _ _ ht => wanted_x rfl (ht 44 rfl) rfl) ?_
      refine Dw_skip (fun _ _ _ ht => wanted_x rfl (ht 44 rfl) rfl) ?_
      refine Dw_skip (fun _ _ _ ht => wanted_x rfl (ht 44 rfl) rfl) ?_
      refine Dw_skip (fun _ _ _ ht => wanted_x rfl (ht 44 rfl) rfl) ?_
      refine Dw_skip (fun _ _ _ ht => wanted_x rfl (ht 44 rfl) rfl) ?_
      refine Dw_skip (fun _ _ _ ht => wanted_x rfl (ht 44 rfl) rfl) ?_
      refine Dw_skip (fun _ _ _ ht => wanted_x rfl (ht 44 rfl) rfl) ?_
      refine Dw_nil fun w334 g335 hl336 hi337 => ?_
      obtain ⟨-, hst338, -⟩ := hl336
      obtain ⟨hs340, p339⟩ := Step.nx hi337
      rintro _ rfl
      rintro _ rfl
      rintro _ rfl
      rintro _ rfl
      rintro _ rfl
      rintro _ rfl
      rintro _ rfl
      rintro _ rfl
      rintro _ rfl
      rintro _ rfl
      rintro _ rfl
      rintro v341 h342
      replace h342 : Vr.vd vB _ _ _ _ := h342
      obtain rfl := h342
      rintro _ rfl
      rintro _ rfl
      rintro _ rfl
      rintro _ rfl
      rintro v344 h345
      replace h345 : Vr.vd (vI .i64) _ _ _ _ := h345
      obtain ⟨rfl, r_y346⟩ := h345
      rintro _ ⟨p347, rfl, f348⟩
      rintro _ rfl
      rintro v349 h350
      replace h350 : Vr.vd (vC (rSl (rInt .i64))) _ _ _ _ := h350
      obtain ⟨a_y351, c_y351, rfl, f_y351⟩ := un_sl h350
      rintro _ ⟨p352, rfl, f353⟩
      rintro v354 h355
      replace h355 : Vr.vd (vI .i64) _ _ _ _ := h355
      obtain ⟨rfl, r_y356⟩ := h355
      rintro _ ⟨p357, rfl, f358⟩
      rintro _ rfl
      rintro v359 h360
      replace h360 : Vr.vd (vC (rSl (rInt .i64))) _ _ _ _ := h360
      obtain ⟨a_y361, c_y361, rfl, f_y361⟩ := un_sl h360
      rintro v362 h363
      replace h363 : Vr.vd (vC (rSl (rSl (rInt .i64)))) _ _ _ _ := h363
      obtain ⟨a_y364, c_y364, rfl, f_y364⟩ := un_sl h363
      rintro _ ⟨p365, rfl, f366⟩
      have p367 : Step (ks [] Oz62) w70 (ks [] Oz62) w334 := hst338.trans p339
      replace f348 := f348.step p339; replace f_y351 := f_y351.step p339; replace f353 := f353.step p339; replace f358 := f358.step p339; replace f_y361 := f_y361.step p339; replace f_y364 := f_y364.step p339; replace f366 := f366.step p339; replace f_begin := f_begin.step p367; replace f_fv0_ := f_fv0_.step p367; replace f_fv2_ := f_fv2_.step p367; replace f_fv3_ := f_fv3_.step p367; replace f_y55 := f_y55.step p367; replace ch75 := ch75.trans p367; clear p367 hs71
      iterate 2 refine Rg_opx rfl (asB_ne rfl rfl) rfl ?_
      refine Rg_op rfl (op_pick_f (v := (Value.bool false)) rfl rfl ?_)
      refine Rg_nil ?_
      refine Wp_cond_f rfl ?_
      refine Wp_skip ?_
      clear f348 f_y351 f353 f358 f_y361 f_y364 f366
      refine Wp_reset2 [6, 9, 22, 23, 24, 25, 26, 27, 28, 29, 30, 31, 32, 33, 34, 35, 36, 37, 38, 39, 40, 41, 42, 43, 44, 45, 46, 47, 48, 49, 50, 51, 52, 53, 54, 55, 56] [] (updL ⟨ξ65, []⟩ [(0, (Value.slice a_begin begin.length c_begin)), (1, (Value.pointer (some p_fv0_))), (3, (Value.pointer (some p_fv2_))), (4, (Value.pointer (some p_fv3_))), (7, (Value.int .i64 (begin.length : Int))), (20, (Value.slice a_y55 fv0_.length c_y55)), (21, (Value.int .i64 (fv0_.length : Int))), (22, (Value.int .i64 0))]) [(22, (Value.int .i64 v_1)), (39, (Value.slice a_begin begin.length c_begin)), (40, (Value.int .i64 (fv0_.getD v_1.toNat default))), (41, (Value.bool contains_1)), (42, (Value.bool (!contains_1)))] (by repeat (first | with_reducible exact Out.refl _ _ | refine Out.upd ?_ rfl | refine Out.updL ?_ rfl | refine Out.mix' ?_ rfl | exact Out.refl _ _)) rfl ⟨rfl, rfl, rfl, rfl, rfl, trivial⟩ fun ξ368 => ?_
      refine Wp_region ?_
      refine Rg_op rfl (op_addw rfl rfl ?_)
      refine Rg_op rfl (op_move (v := (Value.int .i64 (IntKind.wrap .i64 (v_1 + 1)))) rfl ?_)
      refine Rg_nil ?_
      exact hK68 _ _ ⟨(IntKind.wrap .i64 (v_1 + 1)), xr58, pre59, wz60, Kz61, Oz62, _, rfl, ⟨(by repeat (first | with_reducible exact Out.refl _ _ | refine Out.upd ?_ rfl | refine Out.updL ?_ rfl | refine Out.mix' ?_ rfl | exact Out.refl _ _)), rfl, rfl, trivial⟩, ch75, hs340, (inK_wrap .i64 _), hI63, hL64, jnE1 hsf67 hm⟩
    ·
     replace hm := bif_f hm hg174
     refine Dw_skip (fun _ _ _ ht => wanted_x rfl (ht 38 rfl) rfl) ?_
     refine Dw_skip (fun _ _ _ ht => wanted_x rfl (ht 38 rfl) rfl) ?_
     refine Dw_skip (fun _ _ _ ht => wanted_x rfl (ht 38 rfl) rfl) ?_
     refine Dw_skip (fun _ _ _ ht => wanted_x rfl (ht 38 rfl) rfl) ?_
     refine Dw_eq (Value.bool false) (fun ρ369 w370 g hle hi ht => ?_) ?_
     ·
      obtain ⟨-, hst, -⟩ := hle
      refine StepOp_plain (op_pick_f (v := (Value.bool false)) (ht 38 rfl) rfl ?_)
      exact Goes.same hi rfl
     refine Dw_eq (Value.bool false) (fun ρ372 w373 g hle hi ht => ?_) ?_
     ·
      obtain ⟨-, hst, -⟩ := hle
      refine StepOp_plain (op_move (v := (Value.bool false)) (ht 43 rfl) ?_)
      exact Goes.same hi rfl
     refine Dw_skip (fun _ _ _ ht => wanted_x rfl (ht 44 rfl) rfl) ?_
     refine Dw_skip (fun _ _ _ ht => wanted_x rfl (ht 44 rfl) rfl) ?_
     refine Dw_skip (fun _ _ _ ht => wanted_x rfl (ht 44 rfl) rfl) ?_
     refine Dw_skip (fun _ _ _ ht => wanted_x rfl (ht 44 rfl) rfl) ?_
     refine Dw_skip (fun _ _ _ ht => wanted_x rfl (ht 44 rfl) rfl) ?_
     refine Dw_skip (fun _ _ _ ht => wanted_x rfl (ht 44 rfl) rfl) ?_
     refine Dw_skip (fun _ _ _ ht => wanted_x rfl (ht 44 rfl) rfl) ?_
     refine Dw_skip (fun _ _ _ ht => wanted_x rfl (ht 44 rfl) rfl) ?_
     refine Dw_nil fun w379 g380 hl381 hi382 => ?_
     obtain ⟨-, hst383, -⟩ := hl381
     obtain ⟨hs385, p384⟩ := Step.nx hi382
     rintro _ rfl
     rintro _ rfl
     rintro _ rfl
     rintro _ rfl
     rintro _ rfl
     rintro _ rfl
     rintro _ rfl
     rintro _ rfl
     rintro _ rfl
     rintro _ rfl
     rintro _ rfl
     rintro _ rfl
     rintro _ rfl
     rintro _ rfl
     rintro _ rfl
     rintro _ rfl
     rintro v386 h387
     replace h387 : Vr.vd (vI .i64) _ _ _ _ := h387
     obtain ⟨rfl, r_y388⟩ := h387
     rintro _ ⟨p389, rfl, f390⟩
     rintro _ rfl
     rintro v391 h392
     replace h392 : Vr.vd (vC (rSl (rInt .i64))) _ _ _ _ := h392
     obtain ⟨a_y393, c_y393, rfl, f_y393⟩ := un_sl h392
     rintro _ ⟨p394, rfl, f395⟩
     rintro v396 h397
     replace h397 : Vr.vd (vI .i64) _ _ _ _ := h397
     obtain ⟨rfl, r_y398⟩ := h397
     rintro _ ⟨p399, rfl, f400⟩
     rintro _ rfl
     rintro v401 h402
     replace h402 : Vr.vd (vC (rSl (rInt .i64))) _ _ _ _ := h402
     obtain ⟨a_y403, c_y403, rfl, f_y403⟩ := un_sl h402
     rintro v404 h405
     replace h405 : Vr.vd (vC (rSl (rSl (rInt .i64)))) _ _ _ _ := h405
     obtain ⟨a_y406, c_y406, rfl, f_y406⟩ := un_sl h405
     rintro _ ⟨p407, rfl, f408⟩
     have p409 : Step (ks [] Oz62) w70 (ks [] Oz62) w379 := hst383.trans p384
     replace f390 := f390.step p384; replace f_y393 := f_y393.step p384; replace f395 := f395.step p384; replace f400 := f400.step p384; replace f_y403 := f_y403.step p384; replace f_y406 := f_y406.step p384; replace f408 := f408.step p384; replace f_begin := f_begin.step p409; replace f_fv0_ := f_fv0_.step p409; replace f_fv2_ := f_fv2_.step p409; replace f_fv3_ := f_fv3_.step p409; replace f_y55 := f_y55.step p409; replace ch75 := ch75.trans p409; clear p409 hs71
     iterate 2 refine Rg_opx rfl (asB_ne rfl rfl) rfl ?_
     refine Rg_op rfl (op_pick_f (v := (Value.bool false)) rfl rfl ?_)
     refine Rg_nil ?_
     refine Wp_cond_f rfl ?_
     refine Wp_skip ?_
     clear f390 f_y393 f395 f400 f_y403 f_y406 f408
     refine Wp_reset2 [6, 9, 22, 23, 24, 25, 26, 27, 28, 29, 30, 31, 32, 33, 34, 35, 36, 37, 38, 39, 40, 41, 42, 43, 44, 45, 46, 47, 48, 49, 50, 51, 52, 53, 54, 55, 56] [] (updL ⟨ξ65, []⟩ [(0, (Value.slice a_begin begin.length c_begin)), (1, (Value.pointer (some p_fv0_))), (3, (Value.pointer (some p_fv2_))), (4, (Value.pointer (some p_fv3_))), (7, (Value.int .i64 (begin.length : Int))), (20, (Value.slice a_y55 fv0_.length c_y55)), (21, (Value.int .i64 (fv0_.length : Int))), (22, (Value.int .i64 0))]) [(22, (Value.int .i64 v_1))] (by repeat (first | with_reducible exact Out.refl _ _ | refine Out.upd ?_ rfl | refine Out.updL ?_ rfl | refine Out.mix' ?_ rfl | exact Out.refl _ _)) rfl ⟨rfl, trivial⟩ fun ξ410 => ?_
     refine Wp_region ?_
     refine Rg_op rfl (op_addw rfl rfl ?_)
     refine Rg_op rfl (op_move (v := (Value.int .i64 (IntKind.wrap .i64 (v_1 + 1)))) rfl ?_)
     refine Rg_nil ?_
     exact hK68 _ _ ⟨(IntKind.wrap .i64 (v_1 + 1)), xr58, pre59, wz60, Kz61, Oz62, _, rfl, ⟨(by repeat (first | with_reducible exact Out.refl _ _ | refine Out.upd ?_ rfl | refine Out.updL ?_ rfl | refine Out.mix' ?_ rfl | exact Out.refl _ _)), rfl, rfl, trivial⟩, ch75, hs385, (inK_wrap .i64 _), hI63, hL64, jnE1 hsf67 hm⟩
   ·
    replace hm := bif_f hm hc76
    refine Wp_exit ?_
    refine Wp_seq ?_
    clear f_begin f_fv0_ f_fv2_ f_fv3_ f_y55
    refine Wp_region ?_
    refine Rg_op rfl (op_assign (v := (Value.bool true)) rfl ?_)
    refine Rg_nil ?_
    refine Wp_ret ?_
    have h411 := hI63.fin hJ hs71
    rw [← Option.some.inj hm, List.append_nil] at hL64; rw [← hL64] at h411
    exact ⟨_, (show Closes [] _ _ from rfl), [Value.bool true], ⟨rfl, trivial⟩, _, .inl ⟨rfl, h411⟩⟩

end Go.Fx



set_option linter.unusedVariables false
set_option linter.unusedSimpArgs false
set_option maxRecDepth 100000
set_option maxHeartbeats 0
namespace Go.Fx
open Go Go.RowKit Go.Proofs
def m79_coalition_deviations_1 (fv0_ : List Int) (fv1_ : XRound) : Option (List (List Int)) :=
 apl ((fixO (fun fx20 x21 => m80_coalition_deviations_1_1 x21 fv0_ fv1_ fx20) 1000000) ([] : List Int)) (
 some ([] : List (List Int)))

theorem c79_coalition_deviations_1 {w : World} {O : List Nat} {fv0_ : List Int} {fv1_ : XRound} {p_fv0_ : Addr} {p_fv1_ : Addr} (hO : ∀ k ∈ O, k < w.heap.size) (f_fv0_ : PtR (rSl (rInt .i64)) w O p_fv0_ fv0_) (f_fv1_ : PtR rXRound w O p_fv1_ fv1_) {L : List (List Int)} (hm : m79_coalition_deviations_1 fv0_ fv1_ = some L) :
  IterF Try.prog w O 79 [(Value.pointer (some p_fv0_)), (Value.pointer (some p_fv1_))] (enc1 (vC (rSl (rInt .i64)))) L := by
 unfold m79_coalition_deviations_1 at hm
 obtain ⟨x, hm, hL⟩ : ∃ x, _ = some x ∧ L = [] ++ x := ⟨L, hm, rfl⟩
 intro w1 O1 hst0 hO1 l J Jx hJ hJx hY h0
 replace f_fv0_ := f_fv0_.step hst0; replace f_fv1_ := f_fv1_.step hst0
 refine Fn_of_Wp (n := 8) (xs := []) Try.func79 rfl Try.ntmps79 Try.results79 rfl ?_
 have hs := St.start hO1
 have hI := Itr.start h0
 refine Wp_seq ?_
 refine Wp_region ?_
 refine Rg_op rfl (op_box (cs := [(Value.func (.yield l) #[] #[])]) hs rfl rfl ?_)
 intro b1 w2 _ p3 hs4
 replace f_fv0_ := f_fv0_.step p3; replace f_fv1_ := f_fv1_.step p3; clear p3
 refine Rg_nil ?_
 refine Wp_seq ?_
 refine Wp_region ?_
 refine Rg_op rfl (op_alloc ty75 hs4 ?_)
 intro b6 w7 _ p8 hs9
 replace f_fv0_ := f_fv0_.step p8; replace f_fv1_ := f_fv1_.step p8; clear p8 hs4
 refine Rg_nil ?_
 refine Wp_seq ?_
 refine Wp_region ?_
 obtain ⟨hs12, p13, f11⟩ := St.publishP (p := rVal (Value.func (.yield l) #[] #[]) rfl) (i := 1) (x := ()) hs9 rfl rfl
 replace f_fv0_ := f_fv0_.step p13; replace f_fv1_ := f_fv1_.step p13; clear p13 hs9
 refine Rg_op rfl (op_makeFunc' (a' := []) (c' := [(Value.pointer (some p_fv0_)), (Value.pointer (some (⟨b1, 0, none⟩ : Addr))), (Value.pointer (some p_fv1_)), (Value.pointer (some ⟨b6, 0, none⟩))]) rfl rfl ?_)
 refine Rg_op_ (op_store (cs := [Value.nilFunc]) (vs := [(Value.func (.func 80) #[] #[(Value.pointer (some p_fv0_)), (Value.pointer (some (⟨b1, 0, none⟩ : Addr))), (Value.pointer (some p_fv1_)), (Value.pointer (some ⟨b6, 0, none⟩))])]) (cs' := [(Value.func (.func 80) #[] #[(Value.pointer (some p_fv0_)), (Value.pointer (some (⟨b1, 0, none⟩ : Addr))), (Value.pointer (some p_fv1_)), (Value.pointer (some ⟨b6, 0, none⟩))])]) (bs' := [(some b6, Obj.cells [(Value.func (.func 80) #[] #[(Value.pointer (some p_fv0_)), (Value.pointer (some (⟨b1, 0, none⟩ : Addr))), (Value.pointer (some p_fv1_)), (Value.pointer (some ⟨b6, 0, none⟩))])].toArray 75)]) (i := 0) ty75 hs12 rfl rfl rfl rfl rfl (le_lit rfl) rfl rfl rfl ?_)
 intro w14 p15 hs16
 replace f_fv0_ := f_fv0_.step p15; replace f_fv1_ := f_fv1_.step p15; replace f11 := f11.step p15; clear p15 hs12
 obtain ⟨hs18, p19, f17⟩ := St.publishP (p := rVal (Value.func (.func 80) #[] #[(Value.pointer (some p_fv0_)), (Value.pointer (some (⟨b1, 0, none⟩ : Addr))), (Value.pointer (some p_fv1_)), (Value.pointer (some ⟨b6, 0, none⟩))]) rfl) (i := 0) (x := ()) hs16 rfl rfl
 replace f_fv0_ := f_fv0_.step p19; replace f_fv1_ := f_fv1_.step p19; replace f11 := f11.step p19; clear p19 hs16
 have F22 : ∀ n, SubIt1 Try.prog (enc1 (vC (rSl (rInt .i64)))) l w14 (ks [] O1) (Value.func (.func 80) #[] #[(Value.pointer (some p_fv0_)), (Value.pointer (some (⟨b1, 0, none⟩ : Addr))), (Value.pointer (some p_fv1_)), (Value.pointer (some ⟨b6, 0, none⟩))]) (vC (rSl (rInt .i64))) (fixO (fun fx20 x21 => m80_coalition_deviations_1_1 x21 fv0_ fv1_ fx20) n) := by
  refine SubIt1.fix (fun fx20 hfx23 => ⟨⟨_, _, rfl⟩, ?_⟩)
  intro w24 O25 s26 hO27 J28 Jx29 hJ30 hJx31 v32 x33 L34 hv35 hfa36 hY37 h38
  obtain ⟨a_y39, c_y39, rfl, f_y39⟩ := un_sl hv35
  exact ⟨80, #[], #[(Value.pointer (some p_fv0_)), (Value.pointer (some (⟨b1, 0, none⟩ : Addr))), (Value.pointer (some p_fv1_)), (Value.pointer (some ⟨b6, 0, none⟩))], rfl, Try.call80, c80_coalition_deviations_1_1 hO27 f_y39 (f_fv0_.step s26) (f11.step s26) (f_fv1_.step s26) ((f17.step s26).sb (hfx23.step s26)) hJ30 hJx31 hfa36 hY37 h38⟩
 have f40 := f17.sb (F22 1000000); clear F22
 refine Rg_nil ?_
 clear f_fv0_ f_fv1_ f11 f17
 refine Wp_region ?_
 refine Rg_op rfl (op_loadP ty75 rfl f40 rfl ?_)
 intro v41 h42
 have F43 := un_sb h42; clear h42
 replace hm := apl_elim hm; obtain ⟨A44, xr45, ha46, hm, hL47⟩ := hm
 rw [hL47] at hL
 refine Rg_op rfl (op_subcall (pre := ([] : List _)) (Lx := A44) rfl F43 rfl (show Vr.vd (vC (rSl (rInt .i64))) _ _ _ _ from (mkC (mk_sl SlR.nil_))) ha46 hY hJ hJx hI hs18 ⟨xr45, by rw [hL]; simp⟩ ?_ ?_)
 ·
  intro w48 O49 hs50 p51 hI52
  replace f40 := f40.step p51; replace F43 := F43.step p51; clear p51 hs18
  have hL53 : L = (([] : List _) ++ A44) ++ xr45 := by rw [hL]; simp
  refine Rg_nil ?_
  have h54 := hI52.fin hJ hs50
  rw [← Option.some.inj hm, List.append_nil] at hL53; rw [← hL53] at h54
  exact ⟨_, (show Closes [] _ _ from rfl), [], trivial, _, .inl h54⟩
 ·
  intro w55 O56 _ hs57 hI59
  refine Rg_nil ?_
  exact ⟨_, (show Closes [] _ _ from rfl), [], trivial, _, .inr ⟨_, hI59.fin hJx hs57⟩⟩

end Go.Fx



set_option linter.unusedVariables false
set_option linter.unusedSimpArgs false
set_option maxRecDepth 100000
set_option maxHeartbeats 0
namespace Go.Fx
open Go Go.RowKit Go.Proofs
def m63_coalition_deviations (r_ : XRound) (flights : List Int) : Option (List (List Int)) :=
 (m79_coalition_deviations_1 flights r_).bind fun l_1 =>
 some l_1

theorem c63_coalition_deviations {w : World} {O : List Nat} {r_ : XRound} {flights : List Int} {a_r__owners : Option Addr} {c_r__owners : Nat} {a_r__costs : Option Addr} {c_r__costs : Nat} {a_flights : Option Addr} {c_flights : Nat} (hO : ∀ k ∈ O, k < w.heap.size) (r_r__slots : InK .i64 r_.slots) (f_r__owners : SlR (rInt .i64) w O a_r__owners c_r__owners r_.owners) (f_r__costs : SlR (rSl (rInt .i64)) w O a_r__costs c_r__costs r_.costs) (f_flights : SlR (rInt .i64) w O a_flights c_flights flights) {x : (List (List Int))} (hm : m63_coalition_deviations r_ flights = some x) :
  Ok Try.prog 63 [(Value.agg [(Value.int .i64 r_.slots), (Value.slice a_r__owners r_.owners.length c_r__owners), (Value.slice a_r__costs r_.costs.length c_r__costs)].toArray), (Value.slice a_flights flights.length c_flights)] w O (vIt Try.prog (enc1 (vC (rSl (rInt .i64))))) x := by
 unfold m63_coalition_deviations at hm
 refine Fn_of_Wp (n := 6) (xs := [.tmp 4]) Try.func63 rfl Try.ntmps63 Try.results63 rfl ?_
 have hs := St.start hO
 refine Wp_seq ?_
 refine Wp_region ?_
 refine Rg_op rfl (op_box (cs := [(Value.int .i64 r_.slots), (Value.slice a_r__owners r_.owners.length c_r__owners), (Value.slice a_r__costs r_.costs.length c_r__costs)]) hs rfl rfl ?_)
 intro b1 w2 _ p3 hs4
 replace f_r__owners := f_r__owners.step p3; replace f_r__costs := f_r__costs.step p3; replace f_flights := f_flights.step p3; clear p3
 refine Rg_op rfl (op_box (cs := [(Value.slice a_flights flights.length c_flights)]) hs4 rfl rfl ?_)
 intro b6 w7 _ p8 hs9
 replace f_r__owners := f_r__owners.step p8; replace f_r__costs := f_r__costs.step p8; replace f_flights := f_flights.step p8; clear p8 hs4
 refine Rg_op rfl (op_assign (v := Value.nilFunc) rfl ?_)
 refine Rg_nil ?_
 refine Wp_seq ?_
 refine Wp_region ?_
 obtain ⟨hs12, p13, f11⟩ := St.publishP (p := (rSl (rInt .i64))) (i := 0) (x := flights) hs9 rfl (mk_sl f_flights)
 replace f_r__owners := f_r__owners.step p13; replace f_r__costs := f_r__costs.step p13; replace f_flights := f_flights.step p13; clear p13 hs9
 obtain ⟨hs15, p16, f14⟩ := St.publishP (p := rXRound) (i := 0) (x := r_) hs12 rfl (mkVia (mk_pair (mk_int r_r__slots) (mk_pair (mk_sl f_r__owners) (mk_sl f_r__costs))))
 replace f_r__owners := f_r__owners.step p16; replace f_r__costs := f_r__costs.step p16; replace f_flights := f_flights.step p16; replace f11 := f11.step p16; clear p16 hs12
 refine Rg_op rfl (op_makeFunc' (a' := []) (c' := [(Value.pointer (some (⟨b6, 0, none⟩ : Addr))), (Value.pointer (some (⟨b1, 0, none⟩ : Addr)))]) rfl rfl ?_)
 replace hm := bd hm; obtain ⟨l_1, hv17, hm⟩ := hm
 have F18 : ItR Try.prog (enc1 (vC (rSl (rInt .i64)))) w7 (ks [] O) (Value.func (.func 79) #[] #[(Value.pointer (some (⟨b6, 0, none⟩ : Addr))), (Value.pointer (some (⟨b1, 0, none⟩ : Addr)))]) l_1 := ⟨79, [(Value.pointer (some (⟨b6, 0, none⟩ : Addr))), (Value.pointer (some (⟨b1, 0, none⟩ : Addr)))], rfl, Try.call79, c79_coalition_deviations_1 hs15.ltw f11 f14 hv17⟩
 refine Rg_op rfl (op_assign (v := (Value.func (.func 79) #[] #[(Value.pointer (some (⟨b6, 0, none⟩ : Addr))), (Value.pointer (some (⟨b1, 0, none⟩ : Addr)))])) rfl ?_)
 refine Rg_nil ?_
 refine Wp_ret ?_
 have hz := step_all hs15
 replace f_r__owners := f_r__owners.step hz; replace f_r__costs := f_r__costs.step hz; replace f_flights := f_flights.step hz; replace f11 := f11.step hz; replace f14 := f14.step hz; replace F18 := F18.step hz
 refine ⟨_, (show Closes [] _ _ from rfl), [(Value.func (.func 79) #[] #[(Value.pointer (some (⟨b6, 0, none⟩ : Addr))), (Value.pointer (some (⟨b1, 0, none⟩ : Addr)))])], ⟨rfl, trivial⟩, hs15.ext, ?_⟩
 exact Vr.eq (a := (vIt Try.prog (enc1 (vC (rSl (rInt .i64)))))) (x := l_1) F18 (Option.some.inj hm)

end Go.Fx



set_option linter.unusedVariables false
set_option linter.unusedSimpArgs false
set_option maxRecDepth 100000
set_option maxHeartbeats 0
namespace Go.Fx
open Go Go.RowKit Go.Proofs
def m40_coalition_blocks_B2 (than : List Int) (group : List Int) (k98 : Bool → (List Int) → Option ((List Int) × Bool)) (v_3 : Bool) (v_4 : List Int) (sf116 : Bool → (List Int) → Option ((List Int) × Bool)) (xi107 : (List Int)) (costs_1 : (List Int)) (sf148 : Int → Option ((List Int) × Bool)) (v_5 : Int) : Option ((List Int) × Bool) :=
 bif (decide (v_5 < (group.length : Int))) then
  ck ((0 : Int) ≤ v_5 ∧ v_5 < (group.length : Int)) <|
  ck ((0 : Int) ≤ (group.getD v_5.toNat default) ∧ (group.getD v_5.toNat default) < (costs_1.length : Int)) <|
  ck ((0 : Int) ≤ (group.getD v_5.toNat default) ∧ (group.getD v_5.toNat default) < (than.length : Int)) <|
  bif (decide ((than.getD (group.getD v_5.toNat default).toNat default) ≤ (costs_1.getD (group.getD v_5.toNat default).toNat default))) then
   sf116 v_3 v_4
  else
   sf148 (IntKind.wrap .i64 (v_5 + 1))
 else
  k98 true xi107

def m40_coalition_blocks_B1 (r_ : XRound) (than : List Int) (group : List Int) (v_2 : List Int) (k98 : Bool → (List Int) → Option ((List Int) × Bool)) (sf116 : Bool → (List Int) → Option ((List Int) × Bool)) (xi107 : (List Int)) (v_3 : Bool) (v_4 : List Int) : Option ((List Int) × Bool) :=
 (m41_coalition_costs r_ v_2 xi107).bind fun costs_1 =>
 loop1 (m40_coalition_blocks_B2 than group k98 v_3 v_4 sf116 xi107 costs_1) (((group.length : Int) - 0).toNat + 1) 0

def m40_coalition_blocks_B0 (r_ : XRound) (than : List Int) (group : List Int) (sf36 : Int → (List Int) → Option ((List Int) × Bool)) (v_1 : Int) (v_2 : List Int) : Option ((List Int) × Bool) :=
 bif (decide (v_1 < (r_.owners.length : Int))) then
  ck ((0 : Int) ≤ v_1 ∧ v_1 < (r_.owners.length : Int)) <|
  (m43_slices_Containsint_int_ group (r_.owners.getD v_1.toNat default)).bind fun contains_1 =>
  bif contains_1 then
   ck ((v_2.length + [v_1].length) * 8 ≤ 140737488355328) <|
   sf36 (IntKind.wrap .i64 (v_1 + 1)) (v_2 ++ [v_1])
  else
   sf36 (IntKind.wrap .i64 (v_1 + 1)) v_2
 else
  (m63_coalition_deviations r_ v_2).bind fun deviations_1 =>
  jn (fun (v_3 : Bool) (v_4 : List Int) =>
   some (([] : List Int), false))
  (fun k96 =>
   jn (fun (v_3 : Bool) (v_4 : List Int) =>
    some (v_4, v_3))
   (fun k98 =>
    rng2 (m40_coalition_blocks_B1 r_ than group v_2 k98) k96 deviations_1 false ([] : List Int)))

def m40_coalition_blocks (r_ : XRound) (than : List Int) (group : List Int) : Option ((List Int) × Bool) :=
 loop2 (m40_coalition_blocks_B0 r_ than group) (((r_.owners.length : Int) - 0).toNat + 1) 0 ([] : List Int)

theorem c40_coalition_blocks {w : World} {O : List Nat} {r_ : XRound} {than : List Int} {group : List Int} {a_r__owners : Option Addr} {c_r__owners : Nat} {a_r__costs : Option Addr} {c_r__costs : Nat} {a_than : Option Addr} {c_than : Nat} {a_group : Option Addr} {c_group : Nat} (hO : ∀ k ∈ O, k < w.heap.size) (r_r__slots : InK .i64 r_.slots) (f_r__owners : SlR (rInt .i64) w O a_r__owners c_r__owners r_.owners) (f_r__costs : SlR (rSl (rInt .i64)) w O a_r__costs c_r__costs r_.costs) (f_than : SlR (rInt .i64) w O a_than c_than than) (f_group : SlR (rInt .i64) w O a_group c_group group) {x : (List Int) × Bool} (hm : m40_coalition_blocks r_ than group = some x) :
  Ok Try.prog 40 [(Value.agg [(Value.int .i64 r_.slots), (Value.slice a_r__owners r_.owners.length c_r__owners), (Value.slice a_r__costs r_.costs.length c_r__costs)].toArray), (Value.slice a_than than.length c_than), (Value.slice a_group group.length c_group)] w O (vT2 (vC (rSl (rInt .i64))) vB) x := by
 unfold m40_coalition_blocks at hm
 refine Fn_of_Wp (n := 56) (xs := [.cell 6 22, .cell 7 4]) Try.func40 rfl Try.ntmps40 Try.results40 rfl ?_
 have hs := St.start hO
 refine Wp_seq ?_
 refine Wp_region ?_
 refine Rg_op rfl (op_box (cs := [(Value.int .i64 r_.slots), (Value.slice a_r__owners r_.owners.length c_r__owners), (Value.slice a_r__costs r_.costs.length c_r__costs)]) hs rfl rfl ?_)
 intro b1 w2 _ p3 hs4
 replace f_r__owners := f_r__owners.step p3; replace f_r__costs := f_r__costs.step p3; replace f_than := f_than.step p3; replace f_group := f_group.step p3; clear p3
 refine Rg_op rfl (op_box (cs := [(Value.slice a_than than.length c_than)]) hs4 rfl rfl ?_)
 intro b6 w7 _ p8 hs9
 replace f_r__owners := f_r__owners.step p8; replace f_r__costs := f_r__costs.step p8; replace f_than := f_than.step p8; replace f_group := f_group.step p8; clear p8 hs4
 refine Rg_op rfl (op_box (cs := [(Value.slice a_group group.length c_group)]) hs9 rfl rfl ?_)
 intro b11 w12 _ p13 hs14
 replace f_r__owners := f_r__owners.step p13; replace f_r__costs := f_r__costs.step p13; replace f_than := f_than.step p13; replace f_group := f_group.step p13; clear p13 hs9
 refine Rg_op rfl (op_alloc ty22 hs14 ?_)
 intro b16 w17 _ p18 hs19
 replace f_r__owners := f_r__owners.step p18; replace f_r__costs := f_r__costs.step p18; replace f_than := f_than.step p18; replace f_group := f_group.step p18; clear p18 hs14
 refine Rg_op rfl (op_alloc ty4 hs19 ?_)
 intro b21 w22 _ p23 hs24
 replace f_r__owners := f_r__owners.step p23; replace f_r__costs := f_r__costs.step p23; replace f_than := f_than.step p23; replace f_group := f_group.step p23; clear p23 hs19
 refine Rg_nil ?_
 refine Wp_scope ?_
 refine Wp_seq ?_
 refine Wp_region ?_
 refine Rg_op rfl (op_alloc ty22 hs24 ?_)
 intro b26 w27 _ p28 hs29
 replace f_r__owners := f_r__owners.step p28; replace f_r__costs := f_r__costs.step p28; replace f_than := f_than.step p28; replace f_group := f_group.step p28; clear p28 hs24
 refine Rg_nil ?_
 refine Wp_seq ?_
 refine Wp_seq ?_
 refine Wp_region ?_
 refine Rg_op rfl (op_fieldAddr ty25 rfl ty22 (by decide) rfl (rfl : _ = (⟨_, 1, none⟩ : Addr)) ?_)
 refine Rg_op rfl (op_load (cs := [(Value.int .i64 r_.slots), (Value.slice a_r__owners r_.owners.length c_r__owners), (Value.slice a_r__costs r_.costs.length c_r__costs)]) (i := 5) ty22 hs29 rfl rfl rfl ?_)
 refine Rg_op rfl (op_len Try.underlying22 rfl ?_)
 have rl31 := inK_len f_r__owners
 refine Rg_op rfl (op_move (v := (Value.int .i64 0)) rfl ?_)
 refine Rg_nil ?_
 refine Wp_block ?_
 refine Wp_reset [] [(3, (Value.pointer (some ⟨b1, 0, none⟩))), (4, (Value.pointer (some ⟨b6, 0, none⟩))), (5, (Value.pointer (some ⟨b11, 0, none⟩))), (6, (Value.pointer (some ⟨b16, 0, none⟩))), (7, (Value.pointer (some ⟨b21, 0, none⟩))), (8, (Value.pointer (some ⟨b26, 0, none⟩))), (16, (Value.slice a_r__owners r_.owners.length c_r__owners)), (17, (Value.int .i64 (r_.owners.length : Int))), (18, (Value.int .i64 0))] rfl ⟨rfl, rfl, rfl, rfl, rfl, rfl, rfl, rfl, rfl, trivial⟩ fun ξ35 => ?_
 have hs40 := hs29.ghost (Obj.cells #[] 3)
 refine Wp_loopM [9, 10, 18, 19, 20, 21, 22, 23, 24, 25, 26, 27, 28, 29, 30] (fun m fr w' => ∃ (v_1 : Int) (v_2 : List Int) (a_g34 : Option Addr) (c_g34 : Nat) (k_g34 : Option Nat) (o_g34 : Obj) (Ebs : Ents), Ebs = [(k_g34, o_g34), (some b26, Obj.cells [(Value.slice a_g34 v_2.length c_g34)].toArray 22), (some b21, Obj.cells [(Value.bool false)].toArray 4), (some b16, Obj.cells [(Value.slice none 0 0)].toArray 22), (some b11, Obj.cells [(Value.slice a_group group.length c_group)].toArray 22), (some b6, Obj.cells [(Value.slice a_than than.length c_than)].toArray 22), (some b1, Obj.cells [(Value.int .i64 r_.slots), (Value.slice a_r__owners r_.owners.length c_r__owners), (Value.slice a_r__costs r_.costs.length c_r__costs)].toArray 25)] ∧ fr [] [(18, (Value.int .i64 v_1))] ∧ Step (ks [(none, (Obj.cells #[] 3)), (some b26, Obj.cells [(Value.slice none 0 0)].toArray 22), (some b21, Obj.cells [(Value.bool false)].toArray 4), (some b16, Obj.cells [(Value.slice none 0 0)].toArray 22), (some b11, Obj.cells [(Value.slice a_group group.length c_group)].toArray 22), (some b6, Obj.cells [(Value.slice a_than than.length c_than)].toArray 22), (some b1, Obj.cells [(Value.int .i64 r_.slots), (Value.slice a_r__owners r_.owners.length c_r__owners), (Value.slice a_r__costs r_.costs.length c_r__costs)].toArray 25)] O) w27 (ks Ebs O) w' ∧ St ⟨w, [], []⟩ O w' Ebs ∧ InK .i64 v_1 ∧ Gs (rInt .i64) 3 w' (ks Ebs O) a_g34 c_g34 v_2 k_g34 o_g34 ∧ loop2 (m40_coalition_blocks_B0 r_ than group) m v_1 v_2 = some x) (((r_.owners.length : Int) - 0).toNat + 1) ⟨0, ([] : List Int), none, 0, none, (Obj.cells #[] 3), _, rfl, ⟨Out.refl _ _, rfl, rfl, trivial⟩, Step.refl _ _, hs40, (show InK .i64 0 from by decide), Gs.nil_, hm⟩ ?_ ?_
 · rintro _ _ ⟨_, _, _, _, _, _, _, _, _, _, _, _, _, hm⟩; exact loop2_z hm
 ·
  rintro m39 K38 hK38 ρ46 w42 ⟨v_1, v_2, a_g34, c_g34, k_g34, o_g34, Ebs, hEbs, hfr45, hst44, hs43, r_y32, f_g34, hm⟩
  obtain ⟨sf36, hsf37, hm⟩ := loop2_s hm; unfold m40_coalition_blocks_B0 at hm
  subst hEbs; rw [hfr45.eq]; clear hfr45
  replace f_r__owners := f_r__owners.step hst44; replace f_r__costs := f_r__costs.step hst44; replace f_than := f_than.step hst44; replace f_group := f_group.step hst44
  have ch47 := hst44
  refine Wp_seq ?_
  refine Wp_region ?_
  refine Rg_op rfl (op_lss rfl rfl ?_)
  refine Rg_nil ?_
  refine Wp_seq ?_
  refine Wp_cond rfl (fun hc48 => ?_) (fun hc48 => ?_)
  ·
   replace hm := bif_t hm hc48
   refine Wp_skip ?_
   refine Wp_seq ?_
   refine Wp_block ?_
   refine Wp_seq ?_
   refine Wp_region ?_
   refine Rg_op rfl (op_move (v := (Value.int .i64 v_1)) rfl ?_)
   replace hm := ck_some hm; obtain ⟨hc49, hm⟩ := hm
   refine Rg_op rfl (op_indexAddr (q := (rInt .i64)) ty22 ty3 rfl rfl f_r__owners rfl hc49.1 hc49.2 ?_)
   intro p50 f51
   refine Rg_op rfl (op_loadP ty3 rfl f51 rfl ?_)
   intro v52 h53
   obtain ⟨rfl, r_y54⟩ := un_int h53
   refine Rg_op rfl (op_assign (v := (Value.int .i64 v_1)) rfl ?_)
   refine Rg_op rfl (op_assign (v := (Value.int .i64 (r_.owners.getD v_1.toNat default))) rfl ?_)
   refine Rg_nil ?_
   refine Wp_seq ?_
   clear f51
   refine Wp_region ?_
   refine Rg_op rfl (op_load (cs := [(Value.slice a_group group.length c_group)]) (i := 4) ty22 hs43 rfl rfl rfl ?_)
   refine Rg_op rfl (op_move (v := (Value.int .i64 (r_.owners.getD v_1.toNat default))) rfl ?_)
   replace hm := bd hm; obtain ⟨contains_1, hv55, hm⟩ := hm
   refine Rg_op rfl (op_call Try.call43 (c43_slices_Containsint_int_ (s := group) (v := (r_.owners.getD v_1.toNat default)) hs43.ltw f_group r_y54 hv55) rfl ?_)
   rintro v56 w57 ⟨hx58, h59⟩
   have hs60 := hs43.call hx58
   have p61 := Step.ext (O := ks [(k_g34, o_g34), (some b26, Obj.cells [(Value.slice a_g34 v_2.length c_g34)].toArray 22), (some b21, Obj.cells [(Value.bool false)].toArray 4), (some b16, Obj.cells [(Value.slice none 0 0)].toArray 22), (some b11, Obj.cells [(Value.slice a_group group.length c_group)].toArray 22), (some b6, Obj.cells [(Value.slice a_than than.length c_than)].toArray 22), (some b1, Obj.cells [(Value.int .i64 r_.slots), (Value.slice a_r__owners r_.owners.length c_r__owners), (Value.slice a_r__costs r_.costs.length c_r__costs)].toArray 25)] O) hx58
   clear hx58
   replace f_r__owners := f_r__owners.step p61; replace f_r__costs := f_r__costs.step p61; replace f_than := f_than.step p61; replace f_group := f_group.step p61; replace f_g34 := f_g34.step p61; replace ch47 := ch47.trans p61; clear p61 hs43
   obtain rfl := h59
   refine Rg_nil ?_
   refine Wp_cond rfl (fun hc63 => ?_) (fun hc63 => ?_)
   ·
    replace hm := bif_t hm hc63
    refine Wp_region ?_
    refine Rg_op rfl (op_load (cs := [(Value.slice a_g34 v_2.length c_g34)]) (i := 1) ty22 hs60 rfl rfl rfl ?_)
    refine Rg_op rfl (op_move (v := (Value.int .i64 v_1)) rfl ?_)
    refine Rg_op rfl (op_buildSlice (cs := [(Value.int .i64 v_1)]) (parts := [(0, .tmp 27)]) ty22 ty3 hs60 (by decide) rfl ?_)
    intro b64 w65 hx68 p66 hs67
    replace f_r__owners := f_r__owners.step p66; replace f_r__costs := f_r__costs.step p66; replace f_than := f_than.step p66; replace f_group := f_group.step p66; replace f_g34 := f_g34.step p66; replace ch47 := ch47.trans p66; clear p66 hs60
    replace hm := ck_some hm; obtain ⟨hc70, hm⟩ := hm
    refine Rg_op rfl (op_append (q := (rInt .i64)) (i := 1) (xs := v_2) (ys := [v_1]) (news := [(Value.int .i64 v_1)]) ty22 ty3 rfl (by decide) hs67 rfl rfl f_g34 rfl (Src.owned' (len := 1) (hs67.get (i := 0) rfl) rfl) (show Els (rInt .i64) _ _ [(Value.int .i64 v_1)] [v_1] from ⟨_, _, rfl, (mk_int r_y32), Els.nil⟩) hc70 (by have := hc70; simp only [maxLen]; omega) ?_)
    intro a74 c75 k76 o77 w71 p72 hs73 f78
    replace f_r__owners := f_r__owners.step p72; replace f_r__costs := f_r__costs.step p72; replace f_than := f_than.step p72; replace f_group := f_group.step p72; replace ch47 := ch47.trans p72; clear p72 hs67
    have hs79 := hs73.drop 0
    replace f_r__owners := f_r__owners.step (hs73.dropS 0)
    replace f_r__costs := f_r__costs.step (hs73.dropS 0)
    replace f_than := f_than.step (hs73.dropS 0)
    replace f_group := f_group.step (hs73.dropS 0)
    replace f78 := f78.step (hs73.dropS 0)
    replace ch47 := ch47.trans (hs73.dropS 0); clear hs73
    refine Rg_op_ (op_store (cs := [(Value.slice a_g34 v_2.length c_g34)]) (vs := [(Value.slice a74 (v_2 ++ [v_1]).length c75)]) (cs' := [(Value.slice a74 (v_2 ++ [v_1]).length c75)]) (bs' := [(k76, o77), (some b26, Obj.cells [(Value.slice a74 (v_2 ++ [v_1]).length c75)].toArray 22), (some b21, Obj.cells [(Value.bool false)].toArray 4), (some b16, Obj.cells [(Value.slice none 0 0)].toArray 22), (some b11, Obj.cells [(Value.slice a_group group.length c_group)].toArray 22), (some b6, Obj.cells [(Value.slice a_than than.length c_than)].toArray 22), (some b1, Obj.cells [(Value.int .i64 r_.slots), (Value.slice a_r__owners r_.owners.length c_r__owners), (Value.slice a_r__costs r_.costs.length c_r__costs)].toArray 25)]) (i := 1) ty22 hs79 rfl rfl rfl rfl rfl (le_lit rfl) rfl rfl rfl ?_)
    intro w80 p81 hs82
    replace f_r__owners := f_r__owners.step p81; replace f_r__costs := f_r__costs.step p81; replace f_than := f_than.step p81; replace f_group := f_group.step p81; replace f78 := f78.step p81; replace ch47 := ch47.trans p81; clear p81 hs79
    refine Rg_nil ?_
    refine Wp_region ?_
    refine Rg_op rfl (op_addw rfl rfl ?_)
    refine Rg_op rfl (op_move (v := (Value.int .i64 (IntKind.wrap .i64 (v_1 + 1)))) rfl ?_)
    refine Rg_nil ?_
    exact hK38 _ _ ⟨(IntKind.wrap .i64 (v_1 + 1)), (v_2 ++ [v_1]), a74, c75, k76, o77, _, rfl, ⟨(by repeat (first | with_reducible exact Out.refl _ _ | refine Out.upd ?_ rfl | refine Out.updL ?_ rfl | refine Out.mix' ?_ rfl | exact Out.refl _ _)), rfl, rfl, trivial⟩, ch47, hs82, (inK_wrap .i64 _), f78, jnE2 hsf37 hm⟩
   ·
    replace hm := bif_f hm hc63
    refine Wp_skip ?_
    refine Wp_region ?_
    refine Rg_op rfl (op_addw rfl rfl ?_)
    refine Rg_op rfl (op_move (v := (Value.int .i64 (IntKind.wrap .i64 (v_1 + 1)))) rfl ?_)
    refine Rg_nil ?_
    exact hK38 _ _ ⟨(IntKind.wrap .i64 (v_1 + 1)), v_2, a_g34, c_g34, k_g34, o_g34, _, rfl, ⟨(by repeat (first | with_reducible exact Out.refl _ _ | refine Out.upd ?_ rfl | refine Out.updL ?_ rfl | refine Out.mix' ?_ rfl | exact Out.refl _ _)), rfl, rfl, trivial⟩, ch47, hs60, (inK_wrap .i64 _), f_g34, jnE2 hsf37 hm⟩
  ·
   replace hm := bif_f hm hc48
   refine Wp_exit ?_
   refine Wp_seq ?_
   refine Wp_label ?_
   refine Wp_seq ?_
   refine Wp_seq ?_
   refine Wp_region ?_
   refine Rg_op rfl (op_loadA (cs := [(Value.int .i64 r_.slots), (Value.slice a_r__owners r_.owners.length c_r__owners), (Value.slice a_r__costs r_.costs.length c_r__costs)]) (vs := [(Value.int .i64 r_.slots), (Value.slice a_r__owners r_.owners.length c_r__owners), (Value.slice a_r__costs r_.costs.length c_r__costs)]) (i := 6) ty25 hs43 rfl rfl rfl rfl ?_)
   refine Rg_op rfl (op_load (cs := [(Value.slice a_g34 v_2.length c_g34)]) (i := 1) ty22 hs43 rfl rfl rfl ?_)
   obtain ⟨hs84, p85, f83⟩ := Gs.publish (i := 0) hs43 rfl f_g34
   replace f_r__owners := f_r__owners.step p85; replace f_r__costs := f_r__costs.step p85; replace f_than := f_than.step p85; replace f_group := f_group.step p85; replace ch47 := ch47.trans p85; clear p85 hs43
   replace hm := bd hm; obtain ⟨deviations_1, hv86, hm⟩ := hm
   refine Rg_op rfl (op_call Try.call63 (c63_coalition_deviations (r_ := r_) (flights := v_2) hs84.ltw r_r__slots f_r__owners f_r__costs f83 hv86) rfl ?_)
   rintro v87 w88 ⟨hx89, h90⟩
   have hs91 := hs84.call hx89
   have p92 := Step.ext (O := ks [(some b26, Obj.cells [(Value.slice a_g34 v_2.length c_g34)].toArray 22), (some b21, Obj.cells [(Value.bool false)].toArray 4), (some b16, Obj.cells [(Value.slice none 0 0)].toArray 22), (some b11, Obj.cells [(Value.slice a_group group.length c_group)].toArray 22), (some b6, Obj.cells [(Value.slice a_than than.length c_than)].toArray 22), (some b1, Obj.cells [(Value.int .i64 r_.slots), (Value.slice a_r__owners r_.owners.length c_r__owners), (Value.slice a_r__costs r_.costs.length c_r__costs)].toArray 25)] O) hx89
   clear hx89
   replace f_r__owners := f_r__owners.step p92; replace f_r__costs := f_r__costs.step p92; replace f_than := f_than.step p92; replace f_group := f_group.step p92; replace f83 := f83.step p92; replace ch47 := ch47.trans p92; clear p92 hs84
   have F_y93 : ItR Try.prog (enc1 (vC (rSl (rInt .i64)))) _ _ v87 deviations_1 := h90
   refine Rg_nil ?_
   refine Wp_block ?_
   have hit104 := F_y93; obtain ⟨fk100, cp101, hvq102, hcl103, hit104⟩ := hit104
   replace hm := jn_elim hm; obtain ⟨k96, hk97, hm⟩ := hm
   replace hm := jn_elim hm; obtain ⟨k98, hk99, hm⟩ := hm
   refine Wp_rangeFunc (σ := Bool × (List Int) × (Option Addr) × Nat) (ps := [34]) hs91 (rfl.trans hvq102) hcl103 hit104 rfl enc1_len enc1_step (fun s => match s with | (v_3, v_4, a_y95, c_y95) => [(some b26, Obj.cells [(Value.slice a_g34 v_2.length c_g34)].toArray 22), (some b21, Obj.cells [(Value.bool v_3)].toArray 4), (some b16, Obj.cells [(Value.slice a_y95 v_4.length c_y95)].toArray 22), (some b11, Obj.cells [(Value.slice a_group group.length c_group)].toArray 22), (some b6, Obj.cells [(Value.slice a_than than.length c_than)].toArray 22), (some b1, Obj.cells [(Value.int .i64 r_.slots), (Value.slice a_r__owners r_.owners.length c_r__owners), (Value.slice a_r__costs r_.costs.length c_r__costs)].toArray 25)]) (fun s w O => match s with | (v_3, v_4, a_y95, c_y95) => SlR (rInt .i64) w O a_y95 c_y95 v_4) (fun s w O w' O' p h => by obtain ⟨v_3, v_4, a_y95, c_y95⟩ := s; have h : SlR (rInt .i64) w O a_y95 c_y95 v_4 := h; have f_y95 := h; exact f_y95.step p) (fun s l => match s with | (v_3, v_4, a_y95, c_y95) => rng2 (m40_coalition_blocks_B1 r_ than group v_2 k98) k96 l v_3 v_4 = some x) [none] (fun e s => match e, s with | none, (v_3, v_4, a_y95, c_y95) => k98 v_3 v_4 = some x | _, _ => False) (false, ([] : List Int), none, 0) rfl SlR.nil_ hm ?_ ?_ ?_
   ·
    rintro l105 E106 ⟨v_3, v_4, a_y95, c_y95⟩ xi107 rest108 w109 vs110 z111 hz112 hs113 hst114 f_y95 hm hx115
    replace hs113 : St z111 (E106 ++ O) w109 [(some b26, Obj.cells [(Value.slice a_g34 v_2.length c_g34)].toArray 22), (some b21, Obj.cells [(Value.bool v_3)].toArray 4), (some b16, Obj.cells [(Value.slice a_y95 v_4.length c_y95)].toArray 22), (some b11, Obj.cells [(Value.slice a_group group.length c_group)].toArray 22), (some b6, Obj.cells [(Value.slice a_than than.length c_than)].toArray 22), (some b1, Obj.cells [(Value.int .i64 r_.slots), (Value.slice a_r__owners r_.owners.length c_r__owners), (Value.slice a_r__costs r_.costs.length c_r__costs)].toArray 25)] := hs113
    have ch118 : Step (ks [(some b26, Obj.cells [(Value.slice a_g34 v_2.length c_g34)].toArray 22), (some b21, Obj.cells [(Value.bool false)].toArray 4), (some b16, Obj.cells [(Value.slice none 0 0)].toArray 22), (some b11, Obj.cells [(Value.slice a_group group.length c_group)].toArray 22), (some b6, Obj.cells [(Value.slice a_than than.length c_than)].toArray 22), (some b1, Obj.cells [(Value.int .i64 r_.slots), (Value.slice a_r__owners r_.owners.length c_r__owners), (Value.slice a_r__costs r_.costs.length c_r__costs)].toArray 25)] O) w88 (ks [(some b26, Obj.cells [(Value.slice a_g34 v_2.length c_g34)].toArray 22), (some b21, Obj.cells [(Value.bool v_3)].toArray 4), (some b16, Obj.cells [(Value.slice a_y95 v_4.length c_y95)].toArray 22), (some b11, Obj.cells [(Value.slice a_group group.length c_group)].toArray 22), (some b6, Obj.cells [(Value.slice a_than than.length c_than)].toArray 22), (some b1, Obj.cells [(Value.int .i64 r_.slots), (Value.slice a_r__owners r_.owners.length c_r__owners), (Value.slice a_r__costs r_.costs.length c_r__costs)].toArray 25)] (E106 ++ O)) w109 := hst114; clear hst114
    replace f_y95 : SlR (rInt .i64) w109 (ks [(some b26, Obj.cells [(Value.slice a_g34 v_2.length c_g34)].toArray 22), (some b21, Obj.cells [(Value.bool v_3)].toArray 4), (some b16, Obj.cells [(Value.slice a_y95 v_4.length c_y95)].toArray 22), (some b11, Obj.cells [(Value.slice a_group group.length c_group)].toArray 22), (some b6, Obj.cells [(Value.slice a_than than.length c_than)].toArray 22), (some b1, Obj.cells [(Value.int .i64 r_.slots), (Value.slice a_r__owners r_.owners.length c_r__owners), (Value.slice a_r__costs r_.costs.length c_r__costs)].toArray 25)] (E106 ++ O)) a_y95 c_y95 v_4 := f_y95
    have hm119 := rng2_s (show rng2 _ _ (xi107 :: rest108) v_3 v_4 = some _ from hm); clear hm; obtain ⟨sf116, hsf117, hm⟩ := hm119
    unfold m40_coalition_blocks_B1 at hm
    replace f_r__owners := f_r__owners.step ch118; replace f_r__costs := f_r__costs.step ch118; replace f_than := f_than.step ch118; replace f_group := f_group.step ch118; replace f83 := f83.step ch118; replace F_y93 := F_y93.step ch118
    replace hx115 : (enc1 (vC (rSl (rInt .i64)))) xi107 w109 (ks [(some b26, Obj.cells [(Value.slice a_g34 v_2.length c_g34)].toArray 22), (some b21, Obj.cells [(Value.bool v_3)].toArray 4), (some b16, Obj.cells [(Value.slice a_y95 v_4.length c_y95)].toArray 22), (some b11, Obj.cells [(Value.slice a_group group.length c_group)].toArray 22), (some b6, Obj.cells [(Value.slice a_than than.length c_than)].toArray 22), (some b1, Obj.cells [(Value.int .i64 r_.slots), (Value.slice a_r__owners r_.owners.length c_r__owners), (Value.slice a_r__costs r_.costs.length c_r__costs)].toArray 25)] (E106 ++ O)) vs110 := hx115
    obtain ⟨v120, rfl, h121⟩ := hx115
    obtain ⟨a_y122, c_y122, rfl, f_y122⟩ := un_sl h121
    refine Wp_region ?_
    refine Rg_op rfl (op_assign (v := (Value.slice a_y122 xi107.length c_y122)) rfl ?_)
    refine Rg_nil ?_
    refine Exists.intro _ (And.intro hs113 ?_)
    intro w123 z124 RQ125 hz126 hs127 p128 hN129 hX130
    replace f_r__owners := f_r__owners.step p128; replace f_r__costs := f_r__costs.step p128; replace f_than := f_than.step p128; replace f_group := f_group.step p128; replace f83 := f83.step p128; replace F_y93 := F_y93.step p128; replace f_y95 := f_y95.step p128; replace f_y122 := f_y122.step p128; replace ch118 := ch118.trans p128; clear p128 hs113
    refine Wp_block ?_
    refine Wp_seq ?_
    refine Wp_region ?_
    refine Rg_op rfl (op_loadA (cs := [(Value.int .i64 r_.slots), (Value.slice a_r__owners r_.owners.length c_r__owners), (Value.slice a_r__costs r_.costs.length c_r__costs)]) (vs := [(Value.int .i64 r_.slots), (Value.slice a_r__owners r_.owners.length c_r__owners), (Value.slice a_r__costs r_.costs.length c_r__costs)]) (i := 5) ty25 hs127 rfl rfl rfl rfl ?_)
    refine Rg_op rfl (op_load (cs := [(Value.slice a_g34 v_2.length c_g34)]) (i := 0) ty22 hs127 rfl rfl rfl ?_)
    refine Rg_op rfl (op_move (v := (Value.slice a_y122 xi107.length c_y122)) rfl ?_)
    replace hm := bd hm; obtain ⟨costs_1, hv131, hm⟩ := hm
    refine Rg_op rfl (op_call Try.call41 (g41_coalition_costs (r_ := r_) (flights := v_2) (slots := xi107) hs127.ltw r_r__slots f_r__owners f_r__costs f83 f_y122 hv131) rfl ?_)
    rintro _ w133 ⟨hx134, a137, c138, k139, o140, rfl, hk141, f142⟩
    obtain ⟨hs136, p143⟩ := hs127.callG (o := o140) hx134 hk141
    rw [← ks_cons (o := o140)] at f142
    replace f_r__owners := f_r__owners.step p143; replace f_r__costs := f_r__costs.step p143; replace f_than := f_than.step p143; replace f_group := f_group.step p143; replace f83 := f83.step p143; replace F_y93 := F_y93.step p143; replace f_y95 := f_y95.step p143; replace f_y122 := f_y122.step p143; replace ch118 := ch118.trans p143; clear p143 hs127
    refine Rg_op rfl (op_assign (v := (Value.slice a137 costs_1.length c138)) rfl ?_)
    refine Rg_nil ?_
    refine Wp_seq ?_
    refine Wp_seq ?_
    refine Wp_region ?_
    refine Rg_op rfl (op_load (cs := [(Value.slice a_group group.length c_group)]) (i := 4) ty22 hs136 rfl rfl rfl ?_)
    refine Rg_op rfl (op_len Try.underlying22 rfl ?_)
    have rl145 := inK_len f_group
    refine Rg_op rfl (op_move (v := (Value.int .i64 0)) rfl ?_)
    refine Rg_nil ?_
    refine Wp_block ?_
    refine Wp_reset [] [(3, (Value.pointer (some ⟨b1, 0, none⟩))), (4, (Value.pointer (some ⟨b6, 0, none⟩))), (5, (Value.pointer (some ⟨b11, 0, none⟩))), (6, (Value.pointer (some ⟨b16, 0, none⟩))), (7, (Value.pointer (some ⟨b21, 0, none⟩))), (8, (Value.pointer (some ⟨b26, 0, none⟩))), (11, (Value.slice a_y122 xi107.length c_y122)), (12, (Value.slice a137 costs_1.length c138)), (33, v87), (39, (Value.slice a_group group.length c_group)), (40, (Value.int .i64 (group.length : Int))), (41, (Value.int .i64 0))] rfl ⟨rfl, rfl, rfl, rfl, rfl, rfl, rfl, rfl, rfl, rfl, rfl, rfl, trivial⟩ fun ξ147 => ?_
    refine Wp_loopM [14, 41, 42, 43, 44, 45, 46, 47, 48, 49, 50, 51, 52, 53, 54] (fun m fr w' => ∃ (v_5 : Int) (Ebs : Ents), Ebs = [(k139, o140), (some b26, Obj.cells [(Value.slice a_g34 v_2.length c_g34)].toArray 22), (some b21, Obj.cells [(Value.bool v_3)].toArray 4), (some b16, Obj.cells [(Value.slice a_y95 v_4.length c_y95)].toArray 22), (some b11, Obj.cells [(Value.slice a_group group.length c_group)].toArray 22), (some b6, Obj.cells [(Value.slice a_than than.length c_than)].toArray 22), (some b1, Obj.cells [(Value.int .i64 r_.slots), (Value.slice a_r__owners r_.owners.length c_r__owners), (Value.slice a_r__costs r_.costs.length c_r__costs)].toArray 25)] ∧ fr [] [(41, (Value.int .i64 v_5))] ∧ Step (ks [(k139, o140), (some b26, Obj.cells [(Value.slice a_g34 v_2.length c_g34)].toArray 22), (some b21, Obj.cells [(Value.bool v_3)].toArray 4), (some b16, Obj.cells [(Value.slice a_y95 v_4.length c_y95)].toArray 22), (some b11, Obj.cells [(Value.slice a_group group.length c_group)].toArray 22), (some b6, Obj.cells [(Value.slice a_than than.length c_than)].toArray 22), (some b1, Obj.cells [(Value.int .i64 r_.slots), (Value.slice a_r__owners r_.owners.length c_r__owners), (Value.slice a_r__costs r_.costs.length c_r__costs)].toArray 25)] (E106 ++ O)) w133 (ks Ebs (E106 ++ O)) w' ∧ St z124 (E106 ++ O) w' Ebs ∧ InK .i64 v_5 ∧ loop1 (m40_coalition_blocks_B2 than group k98 v_3 v_4 sf116 xi107 costs_1) m v_5 = some x) (((group.length : Int) - 0).toNat + 1) ⟨0, _, rfl, ⟨Out.refl _ _, rfl, rfl, trivial⟩, Step.refl _ _, hs136, (show InK .i64 0 from by decide), hm⟩ ?_ ?_
    · rintro _ _ ⟨_, _, _, _, _, _, _, hm⟩; exact loop1_z hm
    ·
     rintro m151 K150 hK150 ρ156 w152 ⟨v_5, Ebs, hEbs, hfr155, hst154, hs153, r_y146, hm⟩
     obtain ⟨sf148, hsf149, hm⟩ := loop1_s hm; unfold m40_coalition_blocks_B2 at hm
     subst hEbs; rw [hfr155.eq]; clear hfr155
     replace f_r__owners := f_r__owners.step hst154; replace f_r__costs := f_r__costs.step hst154; replace f_than := f_than.step hst154; replace f_group := f_group.step hst154; replace f83 := f83.step hst154; replace F_y93 := F_y93.step hst154; replace f_y95 := f_y95.step hst154; replace f_y122 := f_y122.step hst154; replace f142 := f142.step hst154; replace ch118 := ch118.trans hst154
     have ch157 := hst154
     refine Wp_seq ?_
     refine Wp_region ?_
     refine Rg_op rfl (op_lss rfl rfl ?_)
     refine Rg_nil ?_
     refine Wp_seq ?_
     refine Wp_cond rfl (fun hc158 => ?_) (fun hc158 => ?_)
     ·
      replace hm := bif_t hm hc158
      refine Wp_skip ?_
      refine Wp_seq ?_
      refine Wp_block ?_
      refine Wp_seq ?_
      refine Wp_region ?_
      replace hm := ck_some hm; obtain ⟨hc159, hm⟩ := hm
      refine Rg_op rfl (op_indexAddr (q := (rInt .i64)) ty22 ty3 rfl rfl f_group rfl hc159.1 hc159.2 ?_)
      intro p160 f161
      refine Rg_op rfl (op_loadP ty3 rfl f161 rfl ?_)
      intro v162 h163
      obtain ⟨rfl, r_y164⟩ := un_int h163
      refine Rg_op rfl (op_assign (v := (Value.int .i64 (group.getD v_5.toNat default))) rfl ?_)
      refine Rg_nil ?_
      refine Wp_seq ?_
      clear f161
      refine Wp_drawR (g0 := []) (m := 8) (fl := []) (TS_inv hs153) rfl (.inr rfl) rfl (by decide +kernel) ?_  -- 14
      refine Dw_eq (Value.slice a137 costs_1.length c138) (fun ρ165 w166 g hle hi ht => ?_) ?_
      ·
       obtain ⟨-, hst, -⟩ := hle
       refine StepOp_plain (op_move (v := (Value.slice a137 costs_1.length c138)) (ht 12 rfl) ?_)
       exact Goes.same hi rfl
      refine Dw_eq (Value.int .i64 (group.getD v_5.toNat default)) (fun ρ168 w169 g hle hi ht => ?_) ?_
      ·
       obtain ⟨-, hst, -⟩ := hle
       refine StepOp_plain (op_move (v := (Value.int .i64 (group.getD v_5.toNat default))) (ht 14 rfl) ?_)
       exact Goes.same hi rfl
      replace hm := ck_some hm; obtain ⟨hc174, hm⟩ := hm
      obtain ⟨b175, rfl, rfl⟩ := f142.at_ (by omega)
      refine Dw_eq (Value.pointer (some ⟨b175, (group.getD v_5.toNat default).toNat * 1, none⟩)) (fun ρ171 w172 g hle hi ht => ?_) ?_
      ·
       obtain ⟨-, hst, -⟩ := hle
       replace f142 := f142.step hst
       refine StepOp_plain (op_indexAddrG ty22 ty3 (ht 45 rfl) (ht 46 rfl) f142 hc174 ?_)
       rintro _ ⟨⟩ -
       exact Goes.same hi rfl
      refine Dw_op (VD (E106 ++ O) [(some b175, o140), (some b26, Obj.cells [(Value.slice a_g34 v_2.length c_g34)].toArray 22), (some b21, Obj.cells [(Value.bool v_3)].toArray 4), (some b16, Obj.cells [(Value.slice a_y95 v_4.length c_y95)].toArray 22), (some b11, Obj.cells [(Value.slice a_group group.length c_group)].toArray 22), (some b6, Obj.cells [(Value.slice a_than than.length c_than)].toArray 22), (some b1, Obj.cells [(Value.int .i64 r_.slots), (Value.slice a_r__owners r_.owners.length c_r__owners), (Value.slice a_r__costs r_.costs.length c_r__costs)].toArray 25)] (vI .i64) (costs_1.getD (group.getD v_5.toNat default).toNat default)) (VD.stab _ _) (fun ρ176 w177 g hle hi ht => ?_) ?_
      ·
       obtain ⟨-, hst, -⟩ := hle
       replace f142 := f142.step hst
       have hsn := (Step.nx hi).1
       refine StepOp_plain (op_loadG (i := 0) ty3 rfl hsn rfl (ht 47 rfl) f142 hc174 ?_)
       intro v179 h180
       obtain ⟨rfl, r_y181⟩ := un_int h180
       exact Goes.same hi (show Vr.vd (vI .i64) _ _ _ _ from ⟨rfl, r_y181⟩)
      refine Dw_eq (Value.slice a_than than.length c_than) (fun ρ182 w183 g hle hi ht => ?_) ?_
      ·
       obtain ⟨-, hst, -⟩ := hle
       have hsn := (Step.nx hi).1
       refine StepOp_plain (op_load (cs := [(Value.slice a_than than.length c_than)]) (i := 5) ty22 hsn (ht 4 rfl) rfl rfl ?_)
       exact Goes.same hi rfl
      refine Dw_eq (Value.int .i64 (group.getD v_5.toNat default)) (fun ρ185 w186 g hle hi ht => ?_) ?_
      ·
       obtain ⟨-, hst, -⟩ := hle
       refine StepOp_plain (op_move (v := (Value.int .i64 (group.getD v_5.toNat default))) (ht 14 rfl) ?_)
       exact Goes.same hi rfl
      replace hm := ck_some hm; obtain ⟨hc191, hm⟩ := hm
      refine Dw_op (VP (E106 ++ O) [(some b175, o140), (some b26, Obj.cells [(Value.slice a_g34 v_2.length c_g34)].toArray 22), (some b21, Obj.cells [(Value.bool v_3)].toArray 4), (some b16, Obj.cells [(Value.slice a_y95 v_4.length c_y95)].toArray 22), (some b11, Obj.cells [(Value.slice a_group group.length c_group)].toArray 22), (some b6, Obj.cells [(Value.slice a_than than.length c_than)].toArray 22), (some b1, Obj.cells [(Value.int .i64 r_.slots), (Value.slice a_r__owners r_.owners.length c_r__owners), (Value.slice a_r__costs r_.costs.length c_r__costs)].toArray 25)] (rInt .i64) (than.getD (group.getD v_5.toNat default).toNat default)) (VP.stab _ _) (fun ρ188 w189 g hle hi ht => ?_) ?_
      ·
       obtain ⟨-, hst, -⟩ := hle
       replace f_than := f_than.step hst
       refine StepOp_plain (op_indexAddr (q := (rInt .i64)) ty22 ty3 (ht 49 rfl) (ht 50 rfl) f_than rfl hc191.1 hc191.2 ?_)
       intro p192 f193
       exact Goes.same hi ⟨_, rfl, f193⟩
      refine Dw_op (VD (E106 ++ O) [(some b175, o140), (some b26, Obj.cells [(Value.slice a_g34 v_2.length c_g34)].toArray 22), (some b21, Obj.cells [(Value.bool v_3)].toArray 4), (some b16, Obj.cells [(Value.slice a_y95 v_4.length c_y95)].toArray 22), (some b11, Obj.cells [(Value.slice a_group group.length c_group)].toArray 22), (some b6, Obj.cells [(Value.slice a_than than.length c_than)].toArray 22), (some b1, Obj.cells [(Value.int .i64 r_.slots), (Value.slice a_r__owners r_.owners.length c_r__owners), (Value.slice a_r__costs r_.costs.length c_r__costs)].toArray 25)] (vI .i64) (than.getD (group.getD v_5.toNat default).toNat default)) (VD.stab _ _) (fun ρ194 w195 g hle hi ht => ?_) ?_
      ·
       obtain ⟨-, hst, -⟩ := hle
       obtain ⟨p197, q198, f199⟩ := ht 51 rfl
       refine StepOp_plain (op_loadP ty3 q198 f199 rfl ?_)
       intro v200 h201
       obtain ⟨rfl, r_y202⟩ := un_int h201
       exact Goes.same hi (show Vr.vd (vI .i64) _ _ _ _ from ⟨rfl, r_y202⟩)
      refine Dw_nil fun w207 g208 hl209 hi210 => ?_
      obtain ⟨-, hst211, -⟩ := hl209
      obtain ⟨hs213, p212⟩ := Step.nx hi210
      rintro v214 h215
      replace h215 : Vr.vd (vI .i64) _ _ _ _ := h215
      obtain ⟨rfl, r_y216⟩ := h215
      rintro _ ⟨p217, rfl, f218⟩
      rintro _ rfl
      rintro _ rfl
      rintro v219 h220
      replace h220 : Vr.vd (vI .i64) _ _ _ _ := h220
      obtain ⟨rfl, r_y221⟩ := h220
      rintro _ rfl
      rintro _ rfl
      rintro _ rfl
      have p222 : Step (ks [(some b175, o140), (some b26, Obj.cells [(Value.slice a_g34 v_2.length c_g34)].toArray 22), (some b21, Obj.cells [(Value.bool v_3)].toArray 4), (some b16, Obj.cells [(Value.slice a_y95 v_4.length c_y95)].toArray 22), (some b11, Obj.cells [(Value.slice a_group group.length c_group)].toArray 22), (some b6, Obj.cells [(Value.slice a_than than.length c_than)].toArray 22), (some b1, Obj.cells [(Value.int .i64 r_.slots), (Value.slice a_r__owners r_.owners.length c_r__owners), (Value.slice a_r__costs r_.costs.length c_r__costs)].toArray 25)] (E106 ++ O)) w152 (ks [(some b175, o140), (some b26, Obj.cells [(Value.slice a_g34 v_2.length c_g34)].toArray 22), (some b21, Obj.cells [(Value.bool v_3)].toArray 4), (some b16, Obj.cells [(Value.slice a_y95 v_4.length c_y95)].toArray 22), (some b11, Obj.cells [(Value.slice a_group group.length c_group)].toArray 22), (some b6, Obj.cells [(Value.slice a_than than.length c_than)].toArray 22), (some b1, Obj.cells [(Value.int .i64 r_.slots), (Value.slice a_r__owners r_.owners.length c_r__owners), (Value.slice a_r__costs r_.costs.length c_r__costs)].toArray 25)] (E106 ++ O)) w207 := hst211.trans p212
      replace f218 := f218.step p212; replace f_r__owners := f_r__owners.step p222; replace f_r__costs := f_r__costs.step p222; replace f_than := f_than.step p222; replace f_group := f_group.step p222; replace f83 := f83.step p222; replace F_y93 := F_y93.step p222; replace f_y95 := f_y95.step p222; replace f_y122 := f_y122.step p222; replace f142 := f142.step p222; replace ch118 := ch118.trans p222; replace ch157 := ch157.trans p222; clear p222 hs153
      refine Rg_op rfl (op_geq rfl rfl ?_)
      refine Rg_nil ?_
      refine Wp_cond rfl (fun hc223 => ?_) (fun hc223 => ?_)
      ·
       replace hm := bif_t hm hc223
       refine Wp_exit ?_
       have hs224 := hs213.drop 0
       replace f_r__owners := f_r__owners.step (hs213.dropS 0)
       replace f_r__costs := f_r__costs.step (hs213.dropS 0)
       replace f_than := f_than.step (hs213.dropS 0)
       replace f_group := f_group.step (hs213.dropS 0)
       replace f83 := f83.step (hs213.dropS 0)
       replace F_y93 := F_y93.step (hs213.dropS 0)
       replace f_y95 := f_y95.step (hs213.dropS 0)
       replace f_y122 := f_y122.step (hs213.dropS 0)
       replace f142 := f142.step (hs213.dropS 0)
       replace f218 := f218.step (hs213.dropS 0)
       replace ch118 := ch118.trans (hs213.dropS 0)
       replace ch157 := ch157.trans (hs213.dropS 0); clear hs213
       exact hN129 (v_3, v_4, a_y95, c_y95) _ _ hs224 ch118 f_y95 (jnE2 hsf117 hm)
      ·
       replace hm := bif_f hm hc223
       refine Wp_skip ?_
       clear f218
       refine Wp_region ?_
       refine Rg_op rfl (op_addw rfl rfl ?_)
       refine Rg_op rfl (op_move (v := (Value.int .i64 (IntKind.wrap .i64 (v_5 + 1)))) rfl ?_)
       refine Rg_nil ?_
       exact hK150 _ _ ⟨(IntKind.wrap .i64 (v_5 + 1)), _, rfl, ⟨(by repeat (first | with_reducible exact Out.refl _ _ | refine Out.upd ?_ rfl | refine Out.updL ?_ rfl | refine Out.mix' ?_ rfl | exact Out.refl _ _)), rfl, rfl, trivial⟩, ch157, hs213, (inK_wrap .i64 _), jnE1 hsf149 hm⟩
     ·
      replace hm := bif_f hm hc158
      refine Wp_exit ?_
      refine Wp_seq ?_
      clear F_y93 f142
      refine Wp_region ?_
      refine Rg_op rfl (op_move (v := (Value.slice a_y122 xi107.length c_y122)) rfl ?_)
      refine Rg_op_ (op_store (cs := [(Value.slice a_y95 v_4.length c_y95)]) (vs := [(Value.slice a_y122 xi107.length c_y122)]) (cs' := [(Value.slice a_y122 xi107.length c_y122)]) (bs' := [(k139, o140), (some b26, Obj.cells [(Value.slice a_g34 v_2.length c_g34)].toArray 22), (some b21, Obj.cells [(Value.bool v_3)].toArray 4), (some b16, Obj.cells [(Value.slice a_y122 xi107.length c_y122)].toArray 22), (some b11, Obj.cells [(Value.slice a_group group.length c_group)].toArray 22), (some b6, Obj.cells [(Value.slice a_than than.length c_than)].toArray 22), (some b1, Obj.cells [(Value.int .i64 r_.slots), (Value.slice a_r__owners r_.owners.length c_r__owners), (Value.slice a_r__costs r_.costs.length c_r__costs)].toArray 25)]) (i := 3) ty22 hs153 rfl rfl rfl rfl rfl (le_lit rfl) rfl rfl rfl ?_)
      intro w225 p226 hs227
      replace f_r__owners := f_r__owners.step p226; replace f_r__costs := f_r__costs.step p226; replace f_than := f_than.step p226; replace f_group := f_group.step p226; replace f83 := f83.step p226; replace f_y95 := f_y95.step p226; replace f_y122 := f_y122.step p226; replace ch118 := ch118.trans p226; replace ch157 := ch157.trans p226; clear p226 hs153
      refine Rg_op_ (op_store (cs := [(Value.bool v_3)]) (vs := [(Value.bool true)]) (cs' := [(Value.bool true)]) (bs' := [(k139, o140), (some b26, Obj.cells [(Value.slice a_g34 v_2.length c_g34)].toArray 22), (some b21, Obj.cells [(Value.bool true)].toArray 4), (some b16, Obj.cells [(Value.slice a_y122 xi107.length c_y122)].toArray 22), (some b11, Obj.cells [(Value.slice a_group group.length c_group)].toArray 22), (some b6, Obj.cells [(Value.slice a_than than.length c_than)].toArray 22), (some b1, Obj.cells [(Value.int .i64 r_.slots), (Value.slice a_r__owners r_.owners.length c_r__owners), (Value.slice a_r__costs r_.costs.length c_r__costs)].toArray 25)]) (i := 2) ty4 hs227 rfl rfl rfl rfl rfl (le_lit rfl) rfl rfl rfl ?_)
      intro w228 p229 hs230
      replace f_r__owners := f_r__owners.step p229; replace f_r__costs := f_r__costs.step p229; replace f_than := f_than.step p229; replace f_group := f_group.step p229; replace f83 := f83.step p229; replace f_y95 := f_y95.step p229; replace f_y122 := f_y122.step p229; replace ch118 := ch118.trans p229; replace ch157 := ch157.trans p229; clear p229 hs227
      refine Rg_nil ?_
      refine Wp_ret ?_
      have hs231 := hs230.drop 0
      replace f_r__owners := f_r__owners.step (hs230.dropS 0)
      replace f_r__costs := f_r__costs.step (hs230.dropS 0)
      replace f_than := f_than.step (hs230.dropS 0)
      replace f_group := f_group.step (hs230.dropS 0)
      replace f83 := f83.step (hs230.dropS 0)
      replace f_y95 := f_y95.step (hs230.dropS 0)
      replace f_y122 := f_y122.step (hs230.dropS 0)
      replace ch118 := ch118.trans (hs230.dropS 0)
      replace ch157 := ch157.trans (hs230.dropS 0); clear hs230
      exact hX130 none (true, xi107, a_y122, c_y122) _ _ (by simp) hs231 ch118 f_y122 hm
   ·
    rintro D232 ⟨v_3, v_4, a_y95, c_y95⟩ w233 hs234 hst235 f_y95 hm
    replace hs234 : St ⟨w, [], (D232 :: [])⟩ (D232 :: O) w233 [(some b26, Obj.cells [(Value.slice a_g34 v_2.length c_g34)].toArray 22), (some b21, Obj.cells [(Value.bool v_3)].toArray 4), (some b16, Obj.cells [(Value.slice a_y95 v_4.length c_y95)].toArray 22), (some b11, Obj.cells [(Value.slice a_group group.length c_group)].toArray 22), (some b6, Obj.cells [(Value.slice a_than than.length c_than)].toArray 22), (some b1, Obj.cells [(Value.int .i64 r_.slots), (Value.slice a_r__owners r_.owners.length c_r__owners), (Value.slice a_r__costs r_.costs.length c_r__costs)].toArray 25)] := hs234
    replace hst235 : Step (ks [(some b26, Obj.cells [(Value.slice a_g34 v_2.length c_g34)].toArray 22), (some b21, Obj.cells [(Value.bool false)].toArray 4), (some b16, Obj.cells [(Value.slice none 0 0)].toArray 22), (some b11, Obj.cells [(Value.slice a_group group.length c_group)].toArray 22), (some b6, Obj.cells [(Value.slice a_than than.length c_than)].toArray 22), (some b1, Obj.cells [(Value.int .i64 r_.slots), (Value.slice a_r__owners r_.owners.length c_r__owners), (Value.slice a_r__costs r_.costs.length c_r__costs)].toArray 25)] O) w88 (ks [(some b26, Obj.cells [(Value.slice a_g34 v_2.length c_g34)].toArray 22), (some b21, Obj.cells [(Value.bool v_3)].toArray 4), (some b16, Obj.cells [(Value.slice a_y95 v_4.length c_y95)].toArray 22), (some b11, Obj.cells [(Value.slice a_group group.length c_group)].toArray 22), (some b6, Obj.cells [(Value.slice a_than than.length c_than)].toArray 22), (some b1, Obj.cells [(Value.int .i64 r_.slots), (Value.slice a_r__owners r_.owners.length c_r__owners), (Value.slice a_r__costs r_.costs.length c_r__costs)].toArray 25)] (D232 :: O)) w233 := hst235
    replace f_y95 : SlR (rInt .i64) w233 (ks [(some b26, Obj.cells [(Value.slice a_g34 v_2.length c_g34)].toArray 22), (some b21, Obj.cells [(Value.bool v_3)].toArray 4), (some b16, Obj.cells [(Value.slice a_y95 v_4.length c_y95)].toArray 22), (some b11, Obj.cells [(Value.slice a_group group.length c_group)].toArray 22), (some b6, Obj.cells [(Value.slice a_than than.length c_than)].toArray 22), (some b1, Obj.cells [(Value.int .i64 r_.slots), (Value.slice a_r__owners r_.owners.length c_r__owners), (Value.slice a_r__costs r_.costs.length c_r__costs)].toArray 25)] (D232 :: O)) a_y95 c_y95 v_4 := f_y95
    replace hm := rng2_z (show rng2 _ _ [] v_3 v_4 = some _ from hm)
    replace hm := jnE2 hk97 (show k96 v_3 v_4 = some _ from hm)
    replace f_r__owners := f_r__owners.step hst235; replace f_r__costs := f_r__costs.step hst235; replace f_than := f_than.step hst235; replace f_group := f_group.step hst235; replace f83 := f83.step hst235; replace F_y93 := F_y93.step hst235; replace ch47 := ch47.trans hst235; clear hst235 hs91
    refine Wp_seq ?_
    obtain ⟨hs237, p238⟩ := hs234.sub (bs' := [(some b21, Obj.cells [(Value.bool v_3)].toArray 4), (some b16, Obj.cells [(Value.slice a_y95 v_4.length c_y95)].toArray 22)]) (.cons _ (.cons_cons _ (.cons_cons _ (.cons _ (.cons _ (.cons _ List.Sublist.slnil))))))
    clear f_r__owners f_r__costs f_than f_group f83 F_y93
    replace f_y95 := f_y95.step p238; replace ch47 := ch47.trans p238; clear p238 hs234
    refine Wp_region ?_
    refine Rg_op_ (op_store (cs := [(Value.slice a_y95 v_4.length c_y95)]) (vs := [(Value.slice none 0 0)]) (cs' := [(Value.slice none 0 0)]) (bs' := [(some b21, Obj.cells [(Value.bool v_3)].toArray 4), (some b16, Obj.cells [(Value.slice none 0 0)].toArray 22)]) (i := 1) ty22 hs237 rfl rfl rfl rfl rfl (le_lit rfl) rfl rfl rfl ?_)
    intro w239 p240 hs241
    replace f_y95 := f_y95.step p240; replace ch47 := ch47.trans p240; clear p240 hs237
    refine Rg_op_ (op_store (cs := [(Value.bool v_3)]) (vs := [(Value.bool false)]) (cs' := [(Value.bool false)]) (bs' := [(some b21, Obj.cells [(Value.bool false)].toArray 4), (some b16, Obj.cells [(Value.slice none 0 0)].toArray 22)]) (i := 0) ty4 hs241 rfl rfl rfl rfl rfl (le_lit rfl) rfl rfl rfl ?_)
    intro w242 p243 hs244
    replace f_y95 := f_y95.step p243; replace ch47 := ch47.trans p243; clear p243 hs241
    refine Rg_nil ?_
    refine Wp_ret ?_
    obtain ⟨w245, hcl246, hs247, p248⟩ := St.close hs244
    replace f_y95 := f_y95.step p248; replace ch47 := ch47.trans p248; clear p248 hs244
    have hz := (step_all hs247).trans (Step.sub (O' := O) (fun k hk => by simp [hk]))
    replace f_y95 := f_y95.step hz
    refine ⟨_, hcl246, [(Value.slice none 0 0), (Value.bool false)], ⟨res1 (cs := [(Value.slice none 0 0)]) ty22 (i := 1) hs247 rfl rfl rfl, res1 (cs := [(Value.bool false)]) ty4 (i := 0) hs247 rfl rfl rfl, trivial⟩, hs247.ext, ?_⟩
    exact Vr.eq (a := (vT2 (vC (rSl (rInt .i64))) vB)) (x := (([] : List Int), false)) (mkT2 (mkC (mk_sl SlR.nil_)) rfl) (Option.some.inj hm)
   ·
    rintro e254 D249 ⟨v_3, v_4, a_y95, c_y95⟩ w250 he253 hs251 hst252 f_y95 hm
    simp only [List.mem_cons, List.not_mem_nil, or_false] at he253
    subst he253
    replace hs251 : St ⟨w, [], (D249 :: [])⟩ (D249 :: O) w250 [(some b26, Obj.cells [(Value.slice a_g34 v_2.length c_g34)].toArray 22), (some b21, Obj.cells [(Value.bool v_3)].toArray 4), (some b16, Obj.cells [(Value.slice a_y95 v_4.length c_y95)].toArray 22), (some b11, Obj.cells [(Value.slice a_group group.length c_group)].toArray 22), (some b6, Obj.cells [(Value.slice a_than than.length c_than)].toArray 22), (some b1, Obj.cells [(Value.int .i64 r_.slots), (Value.slice a_r__owners r_.owners.length c_r__owners), (Value.slice a_r__costs r_.costs.length c_r__costs)].toArray 25)] := hs251
    replace hst252 : Step (ks [(some b26, Obj.cells [(Value.slice a_g34 v_2.length c_g34)].toArray 22), (some b21, Obj.cells [(Value.bool false)].toArray 4), (some b16, Obj.cells [(Value.slice none 0 0)].toArray 22), (some b11, Obj.cells [(Value.slice a_group group.length c_group)].toArray 22), (some b6, Obj.cells [(Value.slice a_than than.length c_than)].toArray 22), (some b1, Obj.cells [(Value.int .i64 r_.slots), (Value.slice a_r__owners r_.owners.length c_r__owners), (Value.slice a_r__costs r_.costs.length c_r__costs)].toArray 25)] O) w88 (ks [(some b26, Obj.cells [(Value.slice a_g34 v_2.length c_g34)].toArray 22), (some b21, Obj.cells [(Value.bool v_3)].toArray 4), (some b16, Obj.cells [(Value.slice a_y95 v_4.length c_y95)].toArray 22), (some b11, Obj.cells [(Value.slice a_group group.length c_group)].toArray 22), (some b6, Obj.cells [(Value.slice a_than than.length c_than)].toArray 22), (some b1, Obj.cells [(Value.int .i64 r_.slots), (Value.slice a_r__owners r_.owners.length c_r__owners), (Value.slice a_r__costs r_.costs.length c_r__costs)].toArray 25)] (D249 :: O)) w250 := hst252
    replace f_y95 : SlR (rInt .i64) w250 (ks [(some b26, Obj.cells [(Value.slice a_g34 v_2.length c_g34)].toArray 22), (some b21, Obj.cells [(Value.bool v_3)].toArray 4), (some b16, Obj.cells [(Value.slice a_y95 v_4.length c_y95)].toArray 22), (some b11, Obj.cells [(Value.slice a_group group.length c_group)].toArray 22), (some b6, Obj.cells [(Value.slice a_than than.length c_than)].toArray 22), (some b1, Obj.cells [(Value.int .i64 r_.slots), (Value.slice a_r__owners r_.owners.length c_r__owners), (Value.slice a_r__costs r_.costs.length c_r__costs)].toArray 25)] (D249 :: O)) a_y95 c_y95 v_4 := f_y95
    replace hm := jnE2 hk99 (show k98 v_3 v_4 = some _ from hm)
    replace f_r__owners := f_r__owners.step hst252; replace f_r__costs := f_r__costs.step hst252; replace f_than := f_than.step hst252; replace f_group := f_group.step hst252; replace f83 := f83.step hst252; replace F_y93 := F_y93.step hst252; replace ch47 := ch47.trans hst252; clear hst252 hs91
    obtain ⟨w255, hcl256, hs257, p258⟩ := St.close hs251
    replace f_r__owners := f_r__owners.step p258; replace f_r__costs := f_r__costs.step p258; replace f_than := f_than.step p258; replace f_group := f_group.step p258; replace f83 := f83.step p258; replace F_y93 := F_y93.step p258; replace f_y95 := f_y95.step p258; replace ch47 := ch47.trans p258; clear p258 hs251
    have hz := (step_all hs257).trans (Step.sub (O' := O) (fun k hk => by simp [hk]))
    replace f_r__owners := f_r__owners.step hz; replace f_r__costs := f_r__costs.step hz; replace f_than := f_than.step hz; replace f_group := f_group.step hz; replace f83 := f83.step hz; replace F_y93 := F_y93.step hz; replace f_y95 := f_y95.step hz
    refine ⟨_, hcl256, [(Value.slice a_y95 v_4.length c_y95), (Value.bool v_3)], ⟨res1 (cs := [(Value.slice a_y95 v_4.length c_y95)]) ty22 (i := 2) hs257 rfl rfl rfl, res1 (cs := [(Value.bool v_3)]) ty4 (i := 1) hs257 rfl rfl rfl, trivial⟩, hs257.ext, ?_⟩
    exact Vr.eq (a := (vT2 (vC (rSl (rInt .i64))) vB)) (x := (v_4, v_3)) (mkT2 (mkC (mk_sl f_y95)) rfl) (Option.some.inj hm)

end Go.Fx



set_option linter.unusedVariables false
set_option linter.unusedSimpArgs false
set_option maxRecDepth 100000
set_option maxHeartbeats 0
namespace Go.Fx
open Go Go.RowKit Go.Proofs
def m42_coalition_own_B0 (r_ : XRound) (sf11 : (List Int) → Int → Option (List Int)) (l_1 : List Int) (v_1 : Int) : Option (List Int) :=
 bif (decide (v_1 < (r_.owners.length : Int))) then
  ck ((l_1.length + [v_1].length) * 8 ≤ 140737488355328) <|
  sf11 (l_1 ++ [v_1]) (IntKind.wrap .i64 (v_1 + 1))
 else
  some l_1

def m42_coalition_own (r_ : XRound) : Option (List Int) :=
 loop2 (m42_coalition_own_B0 r_) (((r_.owners.length : Int) - 0).toNat + 1) ([] : List Int) 0

theorem g42_coalition_own {w : World} {O : List Nat} {r_ : XRound} {a_r__owners : Option Addr} {c_r__owners : Nat} {a_r__costs : Option Addr} {c_r__costs : Nat} (hO : ∀ k ∈ O, k < w.heap.size) (r_r__slots : InK .i64 r_.slots) (f_r__owners : SlR (rInt .i64) w O a_r__owners c_r__owners r_.owners) (f_r__costs : SlR (rSl (rInt .i64)) w O a_r__costs c_r__costs r_.costs) {x : (List Int)} (hm : m42_coalition_own r_ = some x) :
  OkG Try.prog 42 [(Value.agg [(Value.int .i64 r_.slots), (Value.slice a_r__owners r_.owners.length c_r__owners), (Value.slice a_r__costs r_.costs.length c_r__costs)].toArray)] w O (rInt .i64) 3 x := by
 unfold m42_coalition_own at hm
 refine Fn_of_Wp (n := 16) (xs := [.tmp 2]) Try.func42 rfl Try.ntmps42 Try.results42 rfl ?_
 have hs := St.start hO
 refine Wp_seq ?_
 refine Wp_region ?_
 refine Rg_op rfl (op_box (cs := [(Value.int .i64 r_.slots), (Value.slice a_r__owners r_.owners.length c_r__owners), (Value.slice a_r__costs r_.costs.length c_r__costs)]) hs rfl rfl ?_)
 intro b1 w2 _ p3 hs4
 replace f_r__owners := f_r__owners.step p3; replace f_r__costs := f_r__costs.step p3; clear p3
 refine Rg_op rfl (op_assign (v := (Value.slice none 0 0)) rfl ?_)
 refine Rg_nil ?_
 refine Wp_seq ?_
 refine Wp_seq ?_
 refine Wp_region ?_
 refine Rg_op rfl (op_fieldAddr ty25 rfl ty22 (by decide) rfl (rfl : _ = (⟨_, 1, none⟩ : Addr)) ?_)
 refine Rg_op rfl (op_load (cs := [(Value.int .i64 r_.slots), (Value.slice a_r__owners r_.owners.length c_r__owners), (Value.slice a_r__costs r_.costs.length c_r__costs)]) (i := 0) ty22 hs4 rfl rfl rfl ?_)
 refine Rg_op rfl (op_len Try.underlying22 rfl ?_)
 have rl6 := inK_len f_r__owners
 refine Rg_op rfl (op_move (v := (Value.int .i64 0)) rfl ?_)
 refine Rg_nil ?_
 refine Wp_block ?_
 refine Wp_reset [] [(2, (Value.slice none 0 0)), (6, (Value.int .i64 (r_.owners.length : Int))), (7, (Value.int .i64 0))] rfl ⟨rfl, rfl, rfl, trivial⟩ fun ξ10 => ?_
 have hs15 := hs4.ghost (Obj.cells #[] 3)
 refine Wp_loopM [2, 3, 7, 8, 9, 10, 11, 12, 13, 14] (fun m fr w' => ∃ (l_1 : List Int) (v_1 : Int) (a_g8 : Option Addr) (c_g8 : Nat) (k_g8 : Option Nat) (o_g8 : Obj) (Ebs : Ents), Ebs = [(k_g8, o_g8), (some b1, Obj.cells [(Value.int .i64 r_.slots), (Value.slice a_r__owners r_.owners.length c_r__owners), (Value.slice a_r__costs r_.costs.length c_r__costs)].toArray 25)] ∧ fr [] [(2, (Value.slice a_g8 l_1.length c_g8)), (7, (Value.int .i64 v_1))] ∧ Step (ks [(none, (Obj.cells #[] 3)), (some b1, Obj.cells [(Value.int .i64 r_.slots), (Value.slice a_r__owners r_.owners.length c_r__owners), (Value.slice a_r__costs r_.costs.length c_r__costs)].toArray 25)] O) w2 (ks Ebs O) w' ∧ St ⟨w, [], []⟩ O w' Ebs ∧ Gs (rInt .i64) 3 w' (ks Ebs O) a_g8 c_g8 l_1 k_g8 o_g8 ∧ InK .i64 v_1 ∧ loop2 (m42_coalition_own_B0 r_) m l_1 v_1 = some x) (((r_.owners.length : Int) - 0).toNat + 1) ⟨([] : List Int), 0, none, 0, none, (Obj.cells #[] 3), _, rfl, ⟨Out.refl _ _, rfl, rfl, rfl, trivial⟩, Step.refl _ _, hs15, Gs.nil_, (show InK .i64 0 from by decide), hm⟩ ?_ ?_
 · rintro _ _ ⟨_, _, _, _, _, _, _, _, _, _, _, _, _, hm⟩; exact loop2_z hm
 ·
  rintro m14 K13 hK13 ρ21 w17 ⟨l_1, v_1, a_g8, c_g8, k_g8, o_g8, Ebs, hEbs, hfr20, hst19, hs18, f_g8, r_y9, hm⟩
  obtain ⟨sf11, hsf12, hm⟩ := loop2_s hm; unfold m42_coalition_own_B0 at hm
  subst hEbs; rw [hfr20.eq]; clear hfr20
  replace f_r__owners := f_r__owners.step hst19; replace f_r__costs := f_r__costs.step hst19
  have ch22 := hst19
  refine Wp_seq ?_
  refine Wp_region ?_
  refine Rg_op rfl (op_lss rfl rfl ?_)
  refine Rg_nil ?_
  refine Wp_seq ?_
  refine Wp_cond rfl (fun hc23 => ?_) (fun hc23 => ?_)
  ·
   replace hm := bif_t hm hc23
   refine Wp_skip ?_
   refine Wp_seq ?_
   refine Wp_block ?_
   refine Wp_seq ?_
   refine Wp_region ?_
   refine Rg_op rfl (op_move (v := (Value.int .i64 v_1)) rfl ?_)
   refine Rg_op rfl (op_assign (v := (Value.int .i64 v_1)) rfl ?_)
   refine Rg_nil ?_
   refine Wp_region ?_
   refine Rg_op rfl (op_move (v := (Value.slice a_g8 l_1.length c_g8)) rfl ?_)
   refine Rg_op rfl (op_move (v := (Value.int .i64 v_1)) rfl ?_)
   refine Rg_op rfl (op_buildSlice (cs := [(Value.int .i64 v_1)]) (parts := [(0, .tmp 11)]) ty22 ty3 hs18 (by decide) rfl ?_)
   intro b24 w25 hx28 p26 hs27
   replace f_r__owners := f_r__owners.step p26; replace f_r__costs := f_r__costs.step p26; replace f_g8 := f_g8.step p26; replace ch22 := ch22.trans p26; clear p26 hs18
   replace hm := ck_some hm; obtain ⟨hc30, hm⟩ := hm
   refine Rg_op rfl (op_append (q := (rInt .i64)) (i := 1) (xs := l_1) (ys := [v_1]) (news := [(Value.int .i64 v_1)]) ty22 ty3 rfl (by decide) hs27 rfl rfl f_g8 rfl (Src.owned' (len := 1) (hs27.get (i := 0) rfl) rfl) (show Els (rInt .i64) _ _ [(Value.int .i64 v_1)] [v_1] from ⟨_, _, rfl, (mk_int r_y9), Els.nil⟩) hc30 (by have := hc30; simp only [maxLen]; omega) ?_)
   intro a34 c35 k36 o37 w31 p32 hs33 f38
   replace f_r__owners := f_r__owners.step p32; replace f_r__costs := f_r__costs.step p32; replace ch22 := ch22.trans p32; clear p32 hs27
   have hs39 := hs33.drop 0
   replace f_r__owners := f_r__owners.step (hs33.dropS 0)
   replace f_r__costs := f_r__costs.step (hs33.dropS 0)
   replace f38 := f38.step (hs33.dropS 0)
   replace ch22 := ch22.trans (hs33.dropS 0); clear hs33
   refine Rg_op rfl (op_assign (v := (Value.slice a34 (l_1 ++ [v_1]).length c35)) rfl ?_)
   refine Rg_nil ?_
   refine Wp_region ?_
   refine Rg_op rfl (op_addw rfl rfl ?_)
   refine Rg_op rfl (op_move (v := (Value.int .i64 (IntKind.wrap .i64 (v_1 + 1)))) rfl ?_)
   refine Rg_nil ?_
   exact hK13 _ _ ⟨(l_1 ++ [v_1]), (IntKind.wrap .i64 (v_1 + 1)), a34, c35, k36, o37, _, rfl, ⟨(by repeat (first | with_reducible exact Out.refl _ _ | refine Out.upd ?_ rfl | refine Out.updL ?_ rfl | refine Out.mix' ?_ rfl | exact Out.refl _ _)), rfl, rfl, rfl, trivial⟩, ch22, hs39, f38, (inK_wrap .i64 _), jnE2 hsf12 hm⟩
  ·
   replace hm := bif_f hm hc23
   refine Wp_exit ?_
   refine Wp_seq ?_
   obtain ⟨hs40, p41⟩ := hs18.sub (bs' := [(k_g8, o_g8)]) (.cons_cons _ (.cons _ List.Sublist.slnil))
   clear f_r__owners f_r__costs
   replace f_g8 := f_g8.step p41; replace ch22 := ch22.trans p41; clear p41 hs18
   refine Wp_region ?_
   refine Rg_op rfl (op_move (v := (Value.slice a_g8 l_1.length c_g8)) rfl ?_)
   refine Rg_op rfl (op_assign (v := (Value.slice a_g8 l_1.length c_g8)) rfl ?_)
   refine Rg_nil ?_
   refine Wp_ret ?_
   refine ⟨_, (show Closes [] _ _ from rfl), [(Value.slice a_g8 l_1.length c_g8)], ⟨rfl, trivial⟩, hs40.ext, ?_⟩
   exact OkG.mk (i := 0) hs40 rfl f_g8 (Option.some.inj hm)
theorem c42_coalition_own {w : World} {O : List Nat} {r_ : XRound} {a_r__owners : Option Addr} {c_r__owners : Nat} {a_r__costs : Option Addr} {c_r__costs : Nat} (hO : ∀ k ∈ O, k < w.heap.size) (r_r__slots : InK .i64 r_.slots) (f_r__owners : SlR (rInt .i64) w O a_r__owners c_r__owners r_.owners) (f_r__costs : SlR (rSl (rInt .i64)) w O a_r__costs c_r__costs r_.costs) {x : (List Int)} (hm : m42_coalition_own r_ = some x) :
  Ok Try.prog 42 [(Value.agg [(Value.int .i64 r_.slots), (Value.slice a_r__owners r_.owners.length c_r__owners), (Value.slice a_r__costs r_.costs.length c_r__costs)].toArray)] w O (vC (rSl (rInt .i64))) x :=
 (g42_coalition_own hO r_r__slots f_r__owners f_r__costs hm).ok hO

end Go.Fx



set_option linter.unusedVariables false
set_option linter.unusedSimpArgs false
set_option maxRecDepth 100000
set_option maxHeartbeats 0
namespace Go.Fx
open Go Go.RowKit Go.Proofs
def m17_coalition_Blocks_B0 (r_ : XRound) (slots : List Int) (group : List Int) (sf20 : Int → Option ((List Int) × Bool × Int)) (v_1 : Int) : Option ((List Int) × Bool × Int) :=
 bif (decide (v_1 < (group.length : Int))) then
  ck ((0 : Int) ≤ v_1 ∧ v_1 < (group.length : Int)) <|
  jn (fun (v_2 : Bool) =>
   bif v_2 then
    some (([] : List Int), false, 1)
   else
    sf20 (IntKind.wrap .i64 (v_1 + 1)))
  (fun k39 =>
   bif (decide ((group.getD v_1.toNat default) < 0)) then
    k39 true
   else
    bif (decide (8 ≤ (group.getD v_1.toNat default))) then
     k39 true
    else
     bif (decide (0 < v_1)) then
      ck ((0 : Int) ≤ (IntKind.wrap .i64 (v_1 - 1)) ∧ (IntKind.wrap .i64 (v_1 - 1)) < (group.length : Int)) <|
      k39 (decide ((group.getD v_1.toNat default) ≤ (group.getD (IntKind.wrap .i64 (v_1 - 1)).toNat default)))
     else
      k39 false)
 else
  bif (decide ((group.length : Int) = 0)) then
   some (([] : List Int), false, 1)
  else
   (m42_coalition_own r_).bind fun own_1 =>
   (m41_coalition_costs r_ own_1 slots).bind fun costs_1 =>
   (m40_coalition_blocks r_ costs_1 group).bind fun blocks_1 =>
   some (blocks_1.1, blocks_1.2, 0)

def m17_coalition_Blocks (r_ : XRound) (slots : List Int) (group : List Int) : Option ((List Int) × Bool × Int) :=
 (m39_coalition_check r_ slots).bind fun check_1 =>
 bif (decide (check_1 ≠ 0)) then
  some (([] : List Int), false, check_1)
 else
  loop1 (m17_coalition_Blocks_B0 r_ slots group) (((group.length : Int) - 0).toNat + 1) 0

theorem c17_coalition_Blocks {w : World} {O : List Nat} {r_ : XRound} {slots : List Int} {group : List Int} {a_r__owners : Option Addr} {c_r__owners : Nat} {a_r__costs : Option Addr} {c_r__costs : Nat} {a_slots : Option Addr} {c_slots : Nat} {a_group : Option Addr} {c_group : Nat} (hO : ∀ k ∈ O, k < w.heap.size) (r_r__slots : InK .i64 r_.slots) (f_r__owners : SlR (rInt .i64) w O a_r__owners c_r__owners r_.owners) (f_r__costs : SlR (rSl (rInt .i64)) w O a_r__costs c_r__costs r_.costs) (f_slots : SlR (rInt .i64) w O a_slots c_slots slots) (f_group : SlR (rInt .i64) w O a_group c_group group) {x : (List Int) × Bool × Int} (hm : m17_coalition_Blocks r_ slots group = some x) :
  Ok Try.prog 17 [(Value.agg [(Value.int .i64 r_.slots), (Value.slice a_r__owners r_.owners.length c_r__owners), (Value.slice a_r__costs r_.costs.length c_r__costs)].toArray), (Value.slice a_slots slots.length c_slots), (Value.slice a_group group.length c_group)] w O (vT3 (vC (rSl (rInt .i64))) vB (vI .i64)) x := by
 unfold m17_coalition_Blocks at hm
 refine Fn_of_Wp (n := 61) (xs := [.tmp 6, .tmp 7, .tmp 8]) Try.func17 rfl Try.ntmps17 Try.results17 rfl ?_
 have hs := St.start hO
 refine Wp_seq ?_
 refine Wp_region ?_
 refine Rg_op rfl (op_box (cs := [(Value.int .i64 r_.slots), (Value.slice a_r__owners r_.owners.length c_r__owners), (Value.slice a_r__costs r_.costs.length c_r__costs)]) hs rfl rfl ?_)
 intro b1 w2 _ p3 hs4
 replace f_r__owners := f_r__owners.step p3; replace f_r__costs := f_r__costs.step p3; replace f_slots := f_slots.step p3; replace f_group := f_group.step p3; clear p3
 refine Rg_op rfl (op_assign (v := (Value.slice none 0 0)) rfl ?_)
 refine Rg_op rfl (op_assign (v := (Value.bool false)) rfl ?_)
 refine Rg_op rfl (op_assign (v := (Value.int .i64 0)) rfl ?_)
 refine Rg_nil ?_
 refine Wp_seq ?_
 refine Wp_seq ?_
 refine Wp_region ?_
 refine Rg_op rfl (op_loadA (cs := [(Value.int .i64 r_.slots), (Value.slice a_r__owners r_.owners.length c_r__owners), (Value.slice a_r__costs r_.costs.length c_r__costs)]) (vs := [(Value.int .i64 r_.slots), (Value.slice a_r__owners r_.owners.length c_r__owners), (Value.slice a_r__costs r_.costs.length c_r__costs)]) (i := 0) ty25 hs4 rfl rfl rfl rfl ?_)
 refine Rg_op rfl (op_move (v := (Value.slice a_slots slots.length c_slots)) rfl ?_)
 replace hm := bd hm; obtain ⟨check_1, hv6, hm⟩ := hm
 refine Rg_op rfl (op_call Try.call39 (c39_coalition_check (r_ := r_) (slots := slots) hs4.ltw r_r__slots f_r__owners f_r__costs f_slots hv6) rfl ?_)
 rintro v7 w8 ⟨hx9, h10⟩
 have hs11 := hs4.call hx9
 have p12 := Step.ext (O := ks [(some b1, Obj.cells [(Value.int .i64 r_.slots), (Value.slice a_r__owners r_.owners.length c_r__owners), (Value.slice a_r__costs r_.costs.length c_r__costs)].toArray 25)] O) hx9
 clear hx9
 replace f_r__owners := f_r__owners.step p12; replace f_r__costs := f_r__costs.step p12; replace f_slots := f_slots.step p12; replace f_group := f_group.step p12; clear p12 hs4
 obtain ⟨rfl, r_y13⟩ := h10
 refine Rg_op rfl (op_assign (v := (Value.int .i64 check_1)) rfl ?_)
 refine Rg_nil ?_
 refine Wp_seq ?_
 refine Wp_region ?_
 refine Rg_op rfl (op_move (v := (Value.int .i64 check_1)) rfl ?_)
 refine Rg_op rfl (op_neq rfl rfl ?_)
 refine Rg_nil ?_
 refine Wp_cond rfl (fun hc14 => ?_) (fun hc14 => ?_)
 ·
  replace hm := bif_t hm hc14
  refine Wp_seq ?_
  obtain ⟨hs15, p16⟩ := hs11.sub (bs' := []) (.cons _ List.Sublist.slnil)
  clear f_r__owners f_r__costs f_slots f_group
  clear p16 hs11
  refine Wp_region ?_
  refine Rg_op rfl (op_move (v := (Value.int .i64 check_1)) rfl ?_)
  refine Rg_op rfl (op_assign (v := (Value.slice none 0 0)) rfl ?_)
  refine Rg_op rfl (op_assign (v := (Value.bool false)) rfl ?_)
  refine Rg_op rfl (op_assign (v := (Value.int .i64 check_1)) rfl ?_)
  refine Rg_nil ?_
  refine Wp_ret ?_
  have hz := step_all hs15
  refine ⟨_, (show Closes [] _ _ from rfl), [(Value.slice none 0 0), (Value.bool false), (Value.int .i64 check_1)], ⟨rfl, rfl, rfl, trivial⟩, hs15.ext, ?_⟩
  exact Vr.eq (a := (vT3 (vC (rSl (rInt .i64))) vB (vI .i64))) (x := (([] : List Int), false, check_1)) (mkT3 (mkC (mk_sl SlR.nil_)) rfl ⟨rfl, r_y13⟩) (Option.some.inj hm)
 ·
  replace hm := bif_f hm hc14
  refine Wp_skip ?_
  refine Wp_seq ?_
  refine Wp_seq ?_
  refine Wp_region ?_
  refine Rg_op rfl (op_move (v := (Value.slice a_group group.length c_group)) rfl ?_)
  refine Rg_op rfl (op_len Try.underlying22 rfl ?_)
  have rl17 := inK_len f_group
  refine Rg_op rfl (op_move (v := (Value.int .i64 0)) rfl ?_)
  refine Rg_nil ?_
  refine Wp_block ?_
  refine Wp_reset [] [(1, (Value.slice a_slots slots.length c_slots)), (2, (Value.slice a_group group.length c_group)), (3, (Value.pointer (some ⟨b1, 0, none⟩))), (18, (Value.slice a_group group.length c_group)), (19, (Value.int .i64 (group.length : Int))), (20, (Value.int .i64 0))] rfl ⟨rfl, rfl, rfl, rfl, rfl, rfl, trivial⟩ fun ξ19 => ?_
  refine Wp_loopM [6, 7, 8, 10, 11, 20, 21, 22, 23, 24, 25, 26, 27, 28, 29, 30, 31, 32, 33, 34, 35, 36, 37, 38, 39, 40, 41, 42, 43, 44] (fun m fr w' => ∃ (v_1 : Int) (Ebs : Ents), Ebs = [(some b1, Obj.cells [(Value.int .i64 r_.slots), (Value.slice a_r__owners r_.owners.length c_r__owners), (Value.slice a_r__costs r_.costs.length c_r__costs)].toArray 25)] ∧ fr [] [(20, (Value.int .i64 v_1))] ∧ Step (ks [(some b1, Obj.cells [(Value.int .i64 r_.slots), (Value.slice a_r__owners r_.owners.length c_r__owners), (Value.slice a_r__costs r_.costs.length c_r__costs)].toArray 25)] O) w8 (ks Ebs O) w' ∧ St ⟨w, [], []⟩ O w' Ebs ∧ InK .i64 v_1 ∧ loop1 (m17_coalition_Blocks_B0 r_ slots group) m v_1 = some x) (((group.length : Int) - 0).toNat + 1) ⟨0, _, rfl, ⟨Out.refl _ _, rfl, rfl, trivial⟩, Step.refl _ _, hs11, (show InK .i64 0 from by decide), hm⟩ ?_ ?_
  · rintro _ _ ⟨_, _, _, _, _, _, _, hm⟩; exact loop1_z hm
  ·
   rintro m23 K22 hK22 ρ28 w24 ⟨v_1, Ebs, hEbs, hfr27, hst26, hs25, r_y18, hm⟩
   obtain ⟨sf20, hsf21, hm⟩ := loop1_s hm; unfold m17_coalition_Blocks_B0 at hm
   subst hEbs; rw [hfr27.eq]; clear hfr27
   replace f_r__owners := f_r__owners.step hst26; replace f_r__costs := f_r__costs.step hst26; replace f_slots := f_slots.step hst26; replace f_group := f_group.step hst26
   have ch29 := hst26
   refine Wp_seq ?_
   refine Wp_region ?_
   refine Rg_op rfl (op_lss rfl rfl ?_)
   refine Rg_nil ?_
   refine Wp_seq ?_
   refine Wp_cond rfl (fun hc30 => ?_) (fun hc30 => ?_)
   ·
    replace hm := bif_t hm hc30
    refine Wp_skip ?_
    refine Wp_seq ?_
    refine Wp_block ?_
    refine Wp_seq ?_
    refine Wp_region ?_
    refine Rg_op rfl (op_move (v := (Value.int .i64 v_1)) rfl ?_)
    replace hm := ck_some hm; obtain ⟨hc31, hm⟩ := hm
    refine Rg_op rfl (op_indexAddr (q := (rInt .i64)) ty22 ty3 rfl rfl f_group rfl hc31.1 hc31.2 ?_)
    intro p32 f33
    refine Rg_op rfl (op_loadP ty3 rfl f33 rfl ?_)
    intro v34 h35
    obtain ⟨rfl, r_y36⟩ := un_int h35
    refine Rg_op rfl (op_assign (v := (Value.int .i64 v_1)) rfl ?_)
    refine Rg_op rfl (op_assign (v := (Value.int .i64 (group.getD v_1.toNat default))) rfl ?_)
    refine Rg_nil ?_
    refine Wp_reset2 [6, 7, 8, 10, 11, 20, 21, 22, 23, 24, 25, 26, 27, 28, 29, 30, 31, 32, 33, 34, 35, 36, 37, 38, 39, 40, 41, 42, 43, 44] [] (updL ⟨ξ19, []⟩ [(1, (Value.slice a_slots slots.length c_slots)), (2, (Value.slice a_group group.length c_group)), (3, (Value.pointer (some ⟨b1, 0, none⟩))), (18, (Value.slice a_group group.length c_group)), (19, (Value.int .i64 (group.length : Int))), (20, (Value.int .i64 0))]) [(10, (Value.int .i64 v_1)), (11, (Value.int .i64 (group.getD v_1.toNat default))), (20, (Value.int .i64 v_1))] (by repeat (first | with_reducible exact Out.refl _ _ | refine Out.upd ?_ rfl | refine Out.updL ?_ rfl | refine Out.mix' ?_ rfl | exact Out.refl _ _)) rfl ⟨rfl, rfl, rfl, trivial⟩ fun ξ37 => ?_
    replace hm := jn_elim hm; obtain ⟨k39, hk40, hm⟩ := hm
    refine Wp_seqJ [25, 26, 27, 28, 29, 30, 31, 32, 33, 34, 35, 36, 37, 38, 39, 40, 41, 42, 43] (fun fr w' => ∃ (v_2 : Bool) (Ebs : Ents), Ebs = [(some b1, Obj.cells [(Value.int .i64 r_.slots), (Value.slice a_r__owners r_.owners.length c_r__owners), (Value.slice a_r__costs r_.costs.length c_r__costs)].toArray 25)] ∧ fr [] [(43, (Value.bool v_2))] ∧ Step (ks [(some b1, Obj.cells [(Value.int .i64 r_.slots), (Value.slice a_r__owners r_.owners.length c_r__owners), (Value.slice a_r__costs r_.costs.length c_r__costs)].toArray 25)] O) w24 (ks Ebs O) w' ∧ St ⟨w, [], []⟩ O w' Ebs ∧ k39 v_2 = some x) ?_ ?_
    ·
     rintro ρ46 w42 ⟨v_2, Ebs, hEbs, hfr45, hst44, hs43, hm⟩
     replace hm := jnE1 hk40 hm
     subst hEbs; rw [hfr45.eq]; clear hfr45
     replace f_r__owners := f_r__owners.step hst44; replace f_r__costs := f_r__costs.step hst44; replace f_slots := f_slots.step hst44; replace f_group := f_group.step hst44; replace f33 := f33.step hst44; replace ch29 := ch29.trans hst44; clear hst44 hs25
     refine Wp_cond rfl (fun hc47 => ?_) (fun hc47 => ?_)
     ·
      replace hm := bif_t hm hc47
      refine Wp_seq ?_
      clear f_slots f_group f33
      refine Wp_region ?_
      refine Rg_op rfl (op_assign (v := (Value.slice none 0 0)) rfl ?_)
      refine Rg_op rfl (op_assign (v := (Value.bool false)) rfl ?_)
      refine Rg_op rfl (op_assign (v := (Value.int .i64 1)) rfl ?_)
      refine Rg_nil ?_
      refine Wp_ret ?_
      have hz := step_all hs43
      replace f_r__owners := f_r__owners.step hz; replace f_r__costs := f_r__costs.step hz
      refine ⟨_, (show Closes [] _ _ from rfl), [(Value.slice none 0 0), (Value.bool false), (Value.int .i64 1)], ⟨rfl, rfl, rfl, trivial⟩, hs43.ext, ?_⟩
      exact Vr.eq (a := (vT3 (vC (rSl (rInt .i64))) vB (vI .i64))) (x := (([] : List Int), false, 1)) (mkT3 (mkC (mk_sl SlR.nil_)) rfl ⟨rfl, (show InK .i64 1 from by decide)⟩) (Option.some.inj hm)
     ·
      replace hm := bif_f hm hc47
      refine Wp_skip ?_
      clear f33
      refine Wp_region ?_
      refine Rg_op rfl (op_addw rfl rfl ?_)
      refine Rg_op rfl (op_move (v := (Value.int .i64 (IntKind.wrap .i64 (v_1 + 1)))) rfl ?_)
      refine Rg_nil ?_
      exact hK22 _ _ ⟨(IntKind.wrap .i64 (v_1 + 1)), _, rfl, ⟨(by repeat (first | with_reducible exact Out.refl _ _ | refine Out.upd ?_ rfl | refine Out.updL ?_ rfl | refine Out.mix' ?_ rfl | exact Out.refl _ _)), rfl, rfl, trivial⟩, ch29, hs43, (inK_wrap .i64 _), jnE1 hsf21 hm⟩
    ·
     intro K41 hK41
     have ch48 := Step.refl (ks [(some b1, Obj.cells [(Value.int .i64 r_.slots), (Value.slice a_r__owners r_.owners.length c_r__owners), (Value.slice a_r__costs r_.costs.length c_r__costs)].toArray 25)] O) w24
     clear f33
     refine Wp_region ?_
     refine Rg_op rfl (op_move (v := (Value.int .i64 (group.getD v_1.toNat default))) rfl ?_)
     refine Rg_op rfl (op_lss rfl rfl ?_)
     refine Rg_op rfl (op_move (v := (Value.bool (decide ((group.getD v_1.toNat default) < 0)))) rfl ?_)
     refine Rg_case (fun hg49 => ?_) (fun hg49 => ?_)
     ·
      replace hm := bif_t hm hg49
      iterate 2 refine Rg_opx rfl (asB_ne rfl rfl) rfl ?_
      refine Rg_op rfl (op_pick_t (v := (Value.bool true)) rfl rfl ?_)
      refine Rg_op rfl (op_move (v := (Value.bool true)) rfl ?_)
      iterate 11 refine Rg_opx rfl (asB_ne rfl rfl) rfl ?_
      refine Rg_op rfl (op_pick_t (v := (Value.bool true)) rfl rfl ?_)
      refine Rg_nil ?_
      exact hK41 _ _ ⟨true, _, rfl, ⟨(by repeat (first | with_reducible exact Out.refl _ _ | refine Out.upd ?_ rfl | refine Out.updL ?_ rfl | refine Out.mix' ?_ rfl | exact Out.refl _ _)), rfl, rfl, trivial⟩, ch48, hs25, hm⟩
     ·
      replace hm := bif_f hm hg49
      refine Rg_opg rfl rfl rfl (op_move (v := (Value.int .i64 (group.getD v_1.toNat default))) rfl ?_)
      refine Rg_opg rfl rfl rfl (op_geq rfl rfl ?_)
      refine Rg_op rfl (op_pick_f (v := (Value.bool (decide (8 ≤ (group.getD v_1.toNat default))))) rfl rfl ?_)
      refine Rg_op rfl (op_move (v := (Value.bool (decide (8 ≤ (group.getD v_1.toNat default))))) rfl ?_)
      refine Rg_case (fun hg50 => ?_) (fun hg50 => ?_)
      ·
       replace hm := bif_t hm hg50
       iterate 11 refine Rg_opx rfl (asB_ne rfl rfl) rfl ?_
       refine Rg_op rfl (op_pick_t (v := (Value.bool true)) rfl rfl ?_)
       refine Rg_nil ?_
       exact hK41 _ _ ⟨true, _, rfl, ⟨(by repeat (first | with_reducible exact Out.refl _ _ | refine Out.upd ?_ rfl | refine Out.updL ?_ rfl | refine Out.mix' ?_ rfl | exact Out.refl _ _)), rfl, rfl, trivial⟩, ch48, hs25, hm⟩
      ·
       replace hm := bif_f hm hg50
       refine Rg_opg rfl rfl rfl (op_move (v := (Value.int .i64 v_1)) rfl ?_)
       refine Rg_opg rfl rfl rfl (op_gtr rfl rfl ?_)
       refine Rg_opg rfl rfl rfl (op_move (v := (Value.bool (decide (0 < v_1)))) rfl ?_)
       refine Rg_case (fun hg51 => ?_) (fun hg51 => ?_)
       ·
        replace hm := bif_t hm hg51
        refine Rg_opg rfl rfl rfl (op_move (v := (Value.slice a_group group.length c_group)) rfl ?_)
        refine Rg_opg rfl rfl rfl (op_move (v := (Value.int .i64 v_1)) rfl ?_)
        refine Rg_opg rfl rfl rfl (op_subw rfl rfl ?_)
        replace hm := ck_some hm; obtain ⟨hc52, hm⟩ := hm
        refine Rg_opg rfl rfl rfl (op_indexAddr (q := (rInt .i64)) ty22 ty3 rfl rfl f_group rfl hc52.1 hc52.2 ?_)
        intro p53 f54
        refine Rg_opg rfl rfl rfl (op_loadP ty3 rfl f54 rfl ?_)
        intro v55 h56
        obtain ⟨rfl, r_y57⟩ := un_int h56
        refine Rg_opg rfl rfl rfl (op_move (v := (Value.int .i64 (group.getD v_1.toNat default))) rfl ?_)
        refine Rg_opg rfl rfl rfl (op_geq rfl rfl ?_)
        refine Rg_opg rfl rfl rfl (op_pick_t (v := (Value.bool (decide ((group.getD v_1.toNat default) ≤ (group.getD (IntKind.wrap .i64 (v_1 - 1)).toNat default))))) rfl rfl ?_)
        refine Rg_op rfl (op_pick_f (v := (Value.bool (decide ((group.getD v_1.toNat default) ≤ (group.getD (IntKind.wrap .i64 (v_1 - 1)).toNat default))))) rfl rfl ?_)
        refine Rg_nil ?_
        exact hK41 _ _ ⟨(decide ((group.getD v_1.toNat default) ≤ (group.getD (IntKind.wrap .i64 (v_1 - 1)).toNat default))), _, rfl, ⟨(by repeat (first | with_reducible exact Out.refl _ _ | refine Out.upd ?_ rfl | refine Out.updL ?_ rfl | refine Out.mix' ?_ rfl | exact Out.refl _ _)), rfl, rfl, trivial⟩, ch48, hs25, hm⟩
       ·
        replace hm := bif_f hm hg51
        iterate 7 refine Rg_opx rfl (asB_ne rfl rfl) rfl ?_
        refine Rg_opg rfl rfl rfl (op_pick_f (v := (Value.bool false)) rfl rfl ?_)
        refine Rg_op rfl (op_pick_f (v := (Value.bool false)) rfl rfl ?_)
        refine Rg_nil ?_
        exact hK41 _ _ ⟨false, _, rfl, ⟨(by repeat (first | with_reducible exact Out.refl _ _ | refine Out.upd ?_ rfl | refine Out.updL ?_ rfl | refine Out.mix' ?_ rfl | exact Out.refl _ _)), rfl, rfl, trivial⟩, ch48, hs25, hm⟩
   ·
    replace hm := bif_f hm hc30
    refine Wp_exit ?_
    refine Wp_seq ?_
    refine Wp_seq ?_
    refine Wp_region ?_
    refine Rg_op rfl (op_move (v := (Value.slice a_group group.length c_group)) rfl ?_)
    refine Rg_op rfl (op_len Try.underlying22 rfl ?_)
    have rl58 := inK_len f_group
    refine Rg_op rfl (op_eql rfl rfl ?_)
    refine Rg_nil ?_
    refine Wp_cond rfl (fun hc59 => ?_) (fun hc59 => ?_)
    ·
     replace hm := bif_t hm hc59
     refine Wp_seq ?_
     obtain ⟨hs60, p61⟩ := hs25.sub (bs' := []) (.cons _ List.Sublist.slnil)
     clear f_r__owners f_r__costs f_slots f_group
     replace ch29 := ch29.trans p61; clear p61 hs25
     refine Wp_region ?_
     refine Rg_op rfl (op_assign (v := (Value.slice none 0 0)) rfl ?_)
     refine Rg_op rfl (op_assign (v := (Value.bool false)) rfl ?_)
     refine Rg_op rfl (op_assign (v := (Value.int .i64 1)) rfl ?_)
     refine Rg_nil ?_
     refine Wp_ret ?_
     have hz := step_all hs60
     refine ⟨_, (show Closes [] _ _ from rfl), [(Value.slice none 0 0), (Value.bool false), (Value.int .i64 1)], ⟨rfl, rfl, rfl, trivial⟩, hs60.ext, ?_⟩
     exact Vr.eq (a := (vT3 (vC (rSl (rInt .i64))) vB (vI .i64))) (x := (([] : List Int), false, 1)) (mkT3 (mkC (mk_sl SlR.nil_)) rfl ⟨rfl, (show InK .i64 1 from by decide)⟩) (Option.some.inj hm)
    ·
     replace hm := bif_f hm hc59
     refine Wp_skip ?_
     refine Wp_seq ?_
     refine Wp_drawR (g0 := []) (m := 11) (fl := [10]) (TS_inv hs25) rfl (.inl rfl) rfl (by decide +kernel) ?_  -- 12
     refine Dw_eq (Value.agg [(Value.int .i64 r_.slots), (Value.slice a_r__owners r_.owners.length c_r__owners), (Value.slice a_r__costs r_.costs.length c_r__costs)].toArray) (fun ρ62 w63 g hle hi ht => ?_) ?_
     ·
      obtain ⟨-, hst, -⟩ := hle
      have hsn := (Step.nx hi).1
      refine StepOp_plain (op_loadA (cs := [(Value.int .i64 r_.slots), (Value.slice a_r__owners r_.owners.length c_r__owners), (Value.slice a_r__costs r_.costs.length c_r__costs)]) (vs := [(Value.int .i64 r_.slots), (Value.slice a_r__owners r_.owners.length c_r__owners), (Value.slice a_r__costs r_.costs.length c_r__costs)]) (i := 0) ty25 hsn (ht 3 rfl) rfl rfl rfl ?_)
      exact Goes.same hi rfl
     refine Dw_eq (Value.agg [(Value.int .i64 r_.slots), (Value.slice a_r__owners r_.owners.length c_r__owners), (Value.slice a_r__costs r_.costs.length c_r__costs)].toArray) (fun ρ65 w66 g hle hi ht => ?_) ?_
     ·
      obtain ⟨-, hst, -⟩ := hle
      have hsn := (Step.nx hi).1
      refine StepOp_plain (op_loadA (cs := [(Value.int .i64 r_.slots), (Value.slice a_r__owners r_.owners.length c_r__owners), (Value.slice a_r__costs r_.costs.length c_r__costs)]) (vs := [(Value.int .i64 r_.slots), (Value.slice a_r__owners r_.owners.length c_r__owners), (Value.slice a_r__costs r_.costs.length c_r__costs)]) (i := 0) ty25 hsn (ht 3 rfl) rfl rfl rfl ?_)
      exact Goes.same hi rfl
     refine Dw_eq (Value.agg [(Value.int .i64 r_.slots), (Value.slice a_r__owners r_.owners.length c_r__owners), (Value.slice a_r__costs r_.costs.length c_r__costs)].toArray) (fun ρ68 w69 g hle hi ht => ?_) ?_
     ·
      obtain ⟨-, hst, -⟩ := hle
      have hsn := (Step.nx hi).1
      refine StepOp_plain (op_loadA (cs := [(Value.int .i64 r_.slots), (Value.slice a_r__owners r_.owners.length c_r__owners), (Value.slice a_r__costs r_.costs.length c_r__costs)]) (vs := [(Value.int .i64 r_.slots), (Value.slice a_r__owners r_.owners.length c_r__owners), (Value.slice a_r__costs r_.costs.length c_r__costs)]) (i := 0) ty25 hsn (ht 3 rfl) rfl rfl rfl ?_)
      exact Goes.same hi rfl
     replace hm := bd hm; obtain ⟨own_1, hv74, hm⟩ := hm
     refine Dw_op (VD O [(some b1, Obj.cells [(Value.int .i64 r_.slots), (Value.slice a_r__owners r_.owners.length c_r__owners), (Value.slice a_r__costs r_.costs.length c_r__costs)].toArray 25)] (vC (rSl (rInt .i64))) own_1) (VD.stab _ _) (fun ρ71 w72 g hle hi ht => ?_) ?_
     ·
      obtain ⟨-, hst, -⟩ := hle
      replace f_r__owners := f_r__owners.step hst; replace f_r__costs := f_r__costs.step hst
      refine StepOp_plain (op_call Try.call42 (c42_coalition_own (O := ks (ents g ++ [(some b1, Obj.cells [(Value.int .i64 r_.slots), (Value.slice a_r__owners r_.owners.length c_r__owners), (Value.slice a_r__costs r_.costs.length c_r__costs)].toArray 25)]) O) (r_ := r_) hi.ltw r_r__slots f_r__owners f_r__costs hv74) (by simp only [List.map, Array.toList, (show ev _ (.tmp 51) = _ from (ht 51 rfl))] <;> rfl) ?_)
      rintro v75 w76 ⟨hx77, h78⟩
      exact Goes.call hi hx77 h78
     refine Dw_eq (Value.slice a_slots slots.length c_slots) (fun ρ80 w81 g hle hi ht => ?_) ?_
     ·
      obtain ⟨-, hst, -⟩ := hle
      refine StepOp_plain (op_move (v := (Value.slice a_slots slots.length c_slots)) (ht 1 rfl) ?_)
      exact Goes.same hi rfl
     replace hm := bd hm; obtain ⟨costs_1, hv89, hm⟩ := hm
     refine Dw_op (VD O [(some b1, Obj.cells [(Value.int .i64 r_.slots), (Value.slice a_r__owners r_.owners.length c_r__owners), (Value.slice a_r__costs r_.costs.length c_r__costs)].toArray 25)] (vC (rSl (rInt .i64))) costs_1) (VD.stab _ _) (fun ρ83 w84 g hle hi ht => ?_) ?_
     ·
      obtain ⟨-, hst, -⟩ := hle
      replace f_r__owners := f_r__owners.step hst; replace f_r__costs := f_r__costs.step hst; replace f_slots := f_slots.step hst
      have h86 : Vr.vd (vC (rSl (rInt .i64))) _ _ _ _ := ht 52 rfl
      obtain ⟨a_y88, c_y88, q87, f_y88⟩ := un_sl h86
      refine StepOp_plain (op_call Try.call41 (c41_coalition_costs (O := ks (ents g ++ [(some b1, Obj.cells [(Value.int .i64 r_.slots), (Value.slice a_r__owners r_.owners.length c_r__owners), (Value.slice a_r__costs r_.costs.length c_r__costs)].toArray 25)]) O) (r_ := r_) (flights := own_1) (slots := slots) hi.ltw r_r__slots f_r__owners f_r__costs f_y88 f_slots hv89) (by simp only [List.map, Array.toList, (show ev _ (.tmp 50) = _ from (ht 50 rfl)), (show ev _ (.tmp 52) = _ from q87), (show ev _ (.tmp 53) = _ from (ht 53 rfl))] <;> rfl) ?_)
      rintro v90 w91 ⟨hx92, h93⟩
      exact Goes.call hi hx92 h93
     refine Dw_eq (Value.slice a_group group.length c_group) (fun ρ95 w96 g hle hi ht => ?_) ?_
     ·
      obtain ⟨-, hst, -⟩ := hle
      refine StepOp_plain (op_move (v := (Value.slice a_group group.length c_group)) (ht 2 rfl) ?_)
      exact Goes.same hi rfl
     replace hm := bd hm; obtain ⟨blocks_1, hv104, hm⟩ := hm
     refine Dw_op (VD O [(some b1, Obj.cells [(Value.int .i64 r_.slots), (Value.slice a_r__owners r_.owners.length c_r__owners), (Value.slice a_r__costs r_.costs.length c_r__costs)].toArray 25)] (vT2 (vC (rSl (rInt .i64))) vB) blocks_1) (VD.stab _ _) (fun ρ98 w99 g hle hi ht => ?_) ?_
     ·
      obtain ⟨-, hst, -⟩ := hle
      replace f_r__owners := f_r__owners.step hst; replace f_r__costs := f_r__costs.step hst; replace f_group := f_group.step hst
      have h101 : Vr.vd (vC (rSl (rInt .i64))) _ _ _ _ := ht 54 rfl
      obtain ⟨a_y103, c_y103, q102, f_y103⟩ := un_sl h101
      refine StepOp_plain (op_call Try.call40 (c40_coalition_blocks (O := ks (ents g ++ [(some b1, Obj.cells [(Value.int .i64 r_.slots), (Value.slice a_r__owners r_.owners.length c_r__owners), (Value.slice a_r__costs r_.costs.length c_r__costs)].toArray 25)]) O) (r_ := r_) (than := costs_1) (group := group) hi.ltw r_r__slots f_r__owners f_r__costs f_y103 f_group hv104) (by simp only [List.map, Array.toList, (show ev _ (.tmp 49) = _ from (ht 49 rfl)), (show ev _ (.tmp 54) = _ from q102), (show ev _ (.tmp 55) = _ from (ht 55 rfl))] <;> rfl) ?_)
      rintro v105 w106 ⟨hx107, h108⟩
      exact Goes.call hi hx107 h108
     refine Dw_op (VD O [(some b1, Obj.cells [(Value.int .i64 r_.slots), (Value.slice a_r__owners r_.owners.length c_r__owners), (Value.slice a_r__costs r_.costs.length c_r__costs)].toArray 25)] (vT2 (vC (rSl (rInt .i64))) vB) blocks_1) (VD.stab _ _) (fun ρ110 w111 g hle hi ht => ?_) ?_
     ·
      obtain ⟨-, hst, -⟩ := hle
      have h : Vr.vd (vT2 (vC (rSl (rInt .i64))) vB) _ _ _ _ := ht 56 rfl
      refine StepOp_plain (op_move rfl (Goes.same hi h))
     refine Dw_op (VD O [(some b1, Obj.cells [(Value.int .i64 r_.slots), (Value.slice a_r__owners r_.owners.length c_r__owners), (Value.slice a_r__costs r_.costs.length c_r__costs)].toArray 25)] (vC (rSl (rInt .i64))) blocks_1.1) (VD.stab _ _) (fun ρ121 w122 g hle hi ht => ?_) ?_
     ·
      obtain ⟨-, hst, -⟩ := hle
      have h124 : Vr.vd (vT2 (vC (rSl (rInt .i64))) vB) _ _ _ _ := ht 48 rfl
      obtain ⟨v126, v127, q125, h128, h129⟩ := h124
      obtain ⟨a_y130, c_y130, rfl, f_y130⟩ := un_sl h128
      obtain rfl := h129
      refine StepOp_plain (op_extract (v := (Value.slice a_y130 blocks_1.1.length c_y130)) q125 rfl ?_)
      exact Goes.same hi (show Vr.vd (vC (rSl (rInt .i64))) _ _ _ _ from (mkC (mk_sl f_y130)))
     refine Dw_eq (Value.bool blocks_1.2) (fun ρ132 w133 g hle hi ht => ?_) ?_
     ·
      obtain ⟨-, hst, -⟩ := hle
      have h135 : Vr.vd (vT2 (vC (rSl (rInt .i64))) vB) _ _ _ _ := ht 48 rfl
      obtain ⟨v137, v138, q136, h139, h140⟩ := h135
      obtain ⟨a_y141, c_y141, rfl, f_y141⟩ := un_sl h139
      obtain rfl := h140
      refine StepOp_plain (op_extract (v := (Value.bool blocks_1.2)) q136 rfl ?_)
      exact Goes.same hi rfl
     refine Dw_nil fun w147 g148 hl149 hi150 => ?_
     obtain ⟨-, hst151, -⟩ := hl149
     obtain ⟨hs153, p152⟩ := Step.nx hi150
     rintro _ rfl
     rintro v154 h155
     replace h155 : Vr.vd (vC (rSl (rInt .i64))) _ _ _ _ := h155
     obtain ⟨a_y156, c_y156, rfl, f_y156⟩ := un_sl h155
     rintro v157 h158
     replace h158 : Vr.vd (vT2 (vC (rSl (rInt .i64))) vB) _ _ _ _ := h158
     obtain ⟨v159, v160, rfl, h161, h162⟩ := h158
     obtain ⟨a_y163, c_y163, rfl, f_y163⟩ := un_sl h161
     obtain rfl := h162
     rintro v165 h166
     replace h166 : Vr.vd (vT2 (vC (rSl (rInt .i64))) vB) _ _ _ _ := h166
     obtain ⟨v167, v168, rfl, h169, h170⟩ := h166
     obtain ⟨a_y171, c_y171, rfl, f_y171⟩ := un_sl h169
     obtain rfl := h170
     rintro _ rfl
     rintro v173 h174
     replace h174 : Vr.vd (vC (rSl (rInt .i64))) _ _ _ _ := h174
     obtain ⟨a_y175, c_y175, rfl, f_y175⟩ := un_sl h174
     rintro _ rfl
     rintro v176 h177
     replace h177 : Vr.vd (vC (rSl (rInt .i64))) _ _ _ _ := h177
     obtain ⟨a_y178, c_y178, rfl, f_y178⟩ := un_sl h177
     rintro _ rfl
     rintro _ rfl
     rintro _ rfl
     have p179 : Step (ks [(some b1, Obj.cells [(Value.int .i64 r_.slots), (Value.slice a_r__owners r_.owners.length c_r__owners), (Value.slice a_r__costs r_.costs.length c_r__costs)].toArray 25)] O) w24 (ks [(some b1, Obj.cells [(Value.int .i64 r_.slots), (Value.slice a_r__owners r_.owners.length c_r__owners), (Value.slice a_r__costs r_.costs.length c_r__costs)].toArray 25)] O) w147 := hst151.trans p152
     replace f_y156 := f_y156.step p152; replace f_y163 := f_y163.step p152; replace f_y171 := f_y171.step p152; replace f_y175 := f_y175.step p152; replace f_y178 := f_y178.step p152; replace f_r__owners := f_r__owners.step p179; replace f_r__costs := f_r__costs.step p179; replace f_slots := f_slots.step p179; replace f_group := f_group.step p179; replace ch29 := ch29.trans p179; clear p179 hs25
     refine Rg_op rfl (op_assign (v := (Value.slice a_y156 blocks_1.1.length c_y156)) rfl ?_)
     refine Rg_op rfl (op_assign (v := (Value.bool blocks_1.2)) rfl ?_)
     refine Rg_nil ?_
     refine Wp_seq ?_
     obtain ⟨hs180, p181⟩ := hs153.sub (bs' := []) (.cons _ List.Sublist.slnil)
     clear f_r__owners f_r__costs f_slots f_group f_y163 f_y171 f_y175 f_y178
     replace f_y156 := f_y156.step p181; replace ch29 := ch29.trans p181; clear p181 hs153
     refine Wp_region ?_
     refine Rg_op rfl (op_move (v := (Value.slice a_y156 blocks_1.1.length c_y156)) rfl ?_)
     refine Rg_op rfl (op_move (v := (Value.bool blocks_1.2)) rfl ?_)
     refine Rg_op rfl (op_assign (v := (Value.slice a_y156 blocks_1.1.length c_y156)) rfl ?_)
     refine Rg_op rfl (op_assign (v := (Value.bool blocks_1.2)) rfl ?_)
     refine Rg_op rfl (op_assign (v := (Value.int .i64 0)) rfl ?_)
     refine Rg_nil ?_
     refine Wp_ret ?_
     have hz := step_all hs180
     replace f_y156 := f_y156.step hz
     refine ⟨_, (show Closes [] _ _ from rfl), [(Value.slice a_y156 blocks_1.1.length c_y156), (Value.bool blocks_1.2), (Value.int .i64 0)], ⟨rfl, rfl, rfl, trivial⟩, hs180.ext, ?_⟩
     exact Vr.eq (a := (vT3 (vC (rSl (rInt .i64))) vB (vI .i64))) (x := (blocks_1.1, blocks_1.2, 0)) (mkT3 (mkC (mk_sl f_y156)) rfl ⟨rfl, (show InK .i64 0 from by decide)⟩) (Option.some.inj hm)

end Go.Fx



set_option linter.unusedVariables false
set_option linter.unusedSimpArgs false
set_option maxRecDepth 100000
set_option maxHeartbeats 0
namespace Go.Fx
open Go Go.RowKit Go.Proofs
def m18_coalition_Costs (r_ : XRound) (slots : List Int) : Option ((List Int) × Int) :=
 (m39_coalition_check r_ slots).bind fun check_1 =>
 bif (decide (check_1 ≠ 0)) then
  some (([] : List Int), check_1)
 else
  (m42_coalition_own r_).bind fun own_1 =>
  (m41_coalition_costs r_ own_1 slots).bind fun costs_1 =>
  some (costs_1, 0)

theorem c18_coalition_Costs {w : World} {O : List Nat} {r_ : XRound} {slots : List Int} {a_r__owners : Option Addr} {c_r__owners : Nat} {a_r__costs : Option Addr} {c_r__costs : Nat} {a_slots : Option Addr} {c_slots : Nat} (hO : ∀ k ∈ O, k < w.heap.size) (r_r__slots : InK .i64 r_.slots) (f_r__owners : SlR (rInt .i64) w O a_r__owners c_r__owners r_.owners) (f_r__costs : SlR (rSl (rInt .i64)) w O a_r__costs c_r__costs r_.costs) (f_slots : SlR (rInt .i64) w O a_slots c_slots slots) {x : (List Int) × Int} (hm : m18_coalition_Costs r_ slots = some x) :
  Ok Try.prog 18 [(Value.agg [(Value.int .i64 r_.slots), (Value.slice a_r__owners r_.owners.length c_r__owners), (Value.slice a_r__costs r_.costs.length c_r__costs)].toArray), (Value.slice a_slots slots.length c_slots)] w O (vT2 (vC (rSl (rInt .i64))) (vI .i64)) x := by
 unfold m18_coalition_Costs at hm
 refine Fn_of_Wp (n := 18) (xs := [.tmp 4, .tmp 5]) Try.func18 rfl Try.ntmps18 Try.results18 rfl ?_
 have hs := St.start hO
 refine Wp_seq ?_
 refine Wp_region ?_
 refine Rg_op rfl (op_box (cs := [(Value.int .i64 r_.slots), (Value.slice a_r__owners r_.owners.length c_r__owners), (Value.slice a_r__costs r_.costs.length c_r__costs)]) hs rfl rfl ?_)
 intro b1 w2 _ p3 hs4
 replace f_r__owners := f_r__owners.step p3; replace f_r__costs := f_r__costs.step p3; replace f_slots := f_slots.step p3; clear p3
 refine Rg_op rfl (op_assign (v := (Value.slice none 0 0)) rfl ?_)
 refine Rg_op rfl (op_assign (v := (Value.int .i64 0)) rfl ?_)
 refine Rg_nil ?_
 refine Wp_seq ?_
 refine Wp_seq ?_
 refine Wp_region ?_
 refine Rg_op rfl (op_loadA (cs := [(Value.int .i64 r_.slots), (Value.slice a_r__owners r_.owners.length c_r__owners), (Value.slice a_r__costs r_.costs.length c_r__costs)]) (vs := [(Value.int .i64 r_.slots), (Value.slice a_r__owners r_.owners.length c_r__owners), (Value.slice a_r__costs r_.costs.length c_r__costs)]) (i := 0) ty25 hs4 rfl rfl rfl rfl ?_)
 refine Rg_op rfl (op_move (v := (Value.slice a_slots slots.length c_slots)) rfl ?_)
 replace hm := bd hm; obtain ⟨check_1, hv6, hm⟩ := hm
 refine Rg_op rfl (op_call Try.call39 (c39_coalition_check (r_ := r_) (slots := slots) hs4.ltw r_r__slots f_r__owners f_r__costs f_slots hv6) rfl ?_)
 rintro v7 w8 ⟨hx9, h10⟩
 have hs11 := hs4.call hx9
 have p12 := Step.ext (O := ks [(some b1, Obj.cells [(Value.int .i64 r_.slots), (Value.slice a_r__owners r_.owners.length c_r__owners), (Value.slice a_r__costs r_.costs.length c_r__costs)].toArray 25)] O) hx9
 clear hx9
 replace f_r__owners := f_r__owners.step p12; replace f_r__costs := f_r__costs.step p12; replace f_slots := f_slots.step p12; clear p12 hs4
 obtain ⟨rfl, r_y13⟩ := h10
 refine Rg_op rfl (op_assign (v := (Value.int .i64 check_1)) rfl ?_)
 refine Rg_nil ?_
 refine Wp_seq ?_
 refine Wp_region ?_
 refine Rg_op rfl (op_move (v := (Value.int .i64 check_1)) rfl ?_)
 refine Rg_op rfl (op_neq rfl rfl ?_)
 refine Rg_nil ?_
 refine Wp_cond rfl (fun hc14 => ?_) (fun hc14 => ?_)
 ·
  replace hm := bif_t hm hc14
  refine Wp_seq ?_
  obtain ⟨hs15, p16⟩ := hs11.sub (bs' := []) (.cons _ List.Sublist.slnil)
  clear f_r__owners f_r__costs f_slots
  clear p16 hs11
  refine Wp_region ?_
  refine Rg_op rfl (op_move (v := (Value.int .i64 check_1)) rfl ?_)
  refine Rg_op rfl (op_assign (v := (Value.slice none 0 0)) rfl ?_)
  refine Rg_op rfl (op_assign (v := (Value.int .i64 check_1)) rfl ?_)
  refine Rg_nil ?_
  refine Wp_ret ?_
  have hz := step_all hs15
  refine ⟨_, (show Closes [] _ _ from rfl), [(Value.slice none 0 0), (Value.int .i64 check_1)], ⟨rfl, rfl, trivial⟩, hs15.ext, ?_⟩
  exact Vr.eq (a := (vT2 (vC (rSl (rInt .i64))) (vI .i64))) (x := (([] : List Int), check_1)) (mkT2 (mkC (mk_sl SlR.nil_)) ⟨rfl, r_y13⟩) (Option.some.inj hm)
 ·
  replace hm := bif_f hm hc14
  refine Wp_skip ?_
  refine Wp_seq ?_
  refine Wp_drawR (g0 := []) (m := 4) (fl := []) (TS_inv hs11) rfl (.inl rfl) rfl (by decide +kernel) ?_  -- 4
  refine Dw_eq (Value.agg [(Value.int .i64 r_.slots), (Value.slice a_r__owners r_.owners.length c_r__owners), (Value.slice a_r__costs r_.costs.length c_r__costs)].toArray) (fun ρ17 w18 g hle hi ht => ?_) ?_
  ·
   obtain ⟨-, hst, -⟩ := hle
   have hsn := (Step.nx hi).1
   refine StepOp_plain (op_loadA (cs := [(Value.int .i64 r_.slots), (Value.slice a_r__owners r_.owners.length c_r__owners), (Value.slice a_r__costs r_.costs.length c_r__costs)]) (vs := [(Value.int .i64 r_.slots), (Value.slice a_r__owners r_.owners.length c_r__owners), (Value.slice a_r__costs r_.costs.length c_r__costs)]) (i := 0) ty25 hsn (ht 2 rfl) rfl rfl rfl ?_)
   exact Goes.same hi rfl
  refine Dw_eq (Value.agg [(Value.int .i64 r_.slots), (Value.slice a_r__owners r_.owners.length c_r__owners), (Value.slice a_r__costs r_.costs.length c_r__costs)].toArray) (fun ρ20 w21 g hle hi ht => ?_) ?_
  ·
   obtain ⟨-, hst, -⟩ := hle
   have hsn := (Step.nx hi).1
   refine StepOp_plain (op_loadA (cs := [(Value.int .i64 r_.slots), (Value.slice a_r__owners r_.owners.length c_r__owners), (Value.slice a_r__costs r_.costs.length c_r__costs)]) (vs := [(Value.int .i64 r_.slots), (Value.slice a_r__owners r_.owners.length c_r__owners), (Value.slice a_r__costs r_.costs.length c_r__costs)]) (i := 0) ty25 hsn (ht 2 rfl) rfl rfl rfl ?_)
   exact Goes.same hi rfl
  replace hm := bd hm; obtain ⟨own_1, hv26, hm⟩ := hm
  refine Dw_op (VD O [(some b1, Obj.cells [(Value.int .i64 r_.slots), (Value.slice a_r__owners r_.owners.length c_r__owners), (Value.slice a_r__costs r_.costs.length c_r__costs)].toArray 25)] (vC (rSl (rInt .i64))) own_1) (VD.stab _ _) (fun ρ23 w24 g hle hi ht => ?_) ?_
  ·
   obtain ⟨-, hst, -⟩ := hle
   replace f_r__owners := f_r__owners.step hst; replace f_r__costs := f_r__costs.step hst
   refine StepOp_plain (op_call Try.call42 (c42_coalition_own (O := ks (ents g ++ [(some b1, Obj.cells [(Value.int .i64 r_.slots), (Value.slice a_r__owners r_.owners.length c_r__owners), (Value.slice a_r__costs r_.costs.length c_r__costs)].toArray 25)]) O) (r_ := r_) hi.ltw r_r__slots f_r__owners f_r__costs hv26) (by simp only [List.map, Array.toList, (show ev _ (.tmp 14) = _ from (ht 14 rfl))] <;> rfl) ?_)
   rintro v27 w28 ⟨hx29, h30⟩
   exact Goes.call hi hx29 h30
  refine Dw_eq (Value.slice a_slots slots.length c_slots) (fun ρ32 w33 g hle hi ht => ?_) ?_
  ·
   obtain ⟨-, hst, -⟩ := hle
   refine StepOp_plain (op_move (v := (Value.slice a_slots slots.length c_slots)) (ht 1 rfl) ?_)
   exact Goes.same hi rfl
  refine Dw_nil fun w39 g40 hl41 hi42 => ?_
  obtain ⟨-, hst43, -⟩ := hl41
  obtain ⟨hs45, p44⟩ := Step.nx hi42
  rintro _ rfl
  rintro v46 h47
  replace h47 : Vr.vd (vC (rSl (rInt .i64))) _ _ _ _ := h47
  obtain ⟨a_y48, c_y48, rfl, f_y48⟩ := un_sl h47
  rintro _ rfl
  rintro _ rfl
  have p49 : Step (ks [(some b1, Obj.cells [(Value.int .i64 r_.slots), (Value.slice a_r__owners r_.owners.length c_r__owners), (Value.slice a_r__costs r_.costs.length c_r__costs)].toArray 25)] O) w8 (ks [(some b1, Obj.cells [(Value.int .i64 r_.slots), (Value.slice a_r__owners r_.owners.length c_r__owners), (Value.slice a_r__costs r_.costs.length c_r__costs)].toArray 25)] O) w39 := hst43.trans p44
  replace f_y48 := f_y48.step p44; replace f_r__owners := f_r__owners.step p49; replace f_r__costs := f_r__costs.step p49; replace f_slots := f_slots.step p49; clear p49 hs11
  replace hm := bd hm; obtain ⟨costs_1, hv50, hm⟩ := hm
  refine Rg_op rfl (op_call Try.call41 (g41_coalition_costs (r_ := r_) (flights := own_1) (slots := slots) hs45.ltw r_r__slots f_r__owners f_r__costs f_y48 f_slots hv50) rfl ?_)
  rintro _ w52 ⟨hx53, a56, c57, k58, o59, rfl, hk60, f61⟩
  obtain ⟨hs55, p62⟩ := hs45.callG (o := o59) hx53 hk60
  rw [← ks_cons (o := o59)] at f61
  replace f_r__owners := f_r__owners.step p62; replace f_r__costs := f_r__costs.step p62; replace f_slots := f_slots.step p62; replace f_y48 := f_y48.step p62; clear p62 hs45
  refine Rg_op rfl (op_assign (v := (Value.slice a56 costs_1.length c57)) rfl ?_)
  refine Rg_op rfl (op_assign (v := (Value.int .i64 0)) rfl ?_)
  refine Rg_nil ?_
  refine Wp_ret ?_
  obtain ⟨hs65, p66, f64⟩ := Gs.publish (i := 0) hs55 rfl f61
  replace f_r__owners := f_r__owners.step p66; replace f_r__costs := f_r__costs.step p66; replace f_slots := f_slots.step p66; replace f_y48 := f_y48.step p66; clear p66 hs55
  have hz := step_all hs65
  replace f_r__owners := f_r__owners.step hz; replace f_r__costs := f_r__costs.step hz; replace f_slots := f_slots.step hz; replace f_y48 := f_y48.step hz; replace f64 := f64.step hz
  refine ⟨_, (show Closes [] _ _ from rfl), [(Value.slice a56 costs_1.length c57), (Value.int .i64 0)], ⟨rfl, rfl, trivial⟩, hs65.ext, ?_⟩
  exact Vr.eq (a := (vT2 (vC (rSl (rInt .i64))) (vI .i64))) (x := (costs_1, 0)) (mkT2 (mkC (mk_sl f64)) ⟨rfl, (show InK .i64 0 from by decide)⟩) (Option.some.inj hm)

end Go.Fx



set_option linter.unusedVariables false
set_option linter.unusedSimpArgs false
set_option maxRecDepth 100000
set_option maxHeartbeats 0
namespace Go.Fx
open Go Go.RowKit Go.Proofs
def m23_coalition_Worse_B0 (costs_1 : (List Int)) (costs_2 : (List Int)) (sf140 : (List Int) → Int → Option ((List Int) × Int)) (l_1 : List Int) (v_1 : Int) : Option ((List Int) × Int) :=
 bif (decide (v_1 < (costs_2.length : Int))) then
  ck ((0 : Int) ≤ v_1 ∧ v_1 < (costs_2.length : Int)) <|
  ck ((0 : Int) ≤ v_1 ∧ v_1 < (costs_1.length : Int)) <|
  bif (decide ((costs_1.getD v_1.toNat default) < (costs_2.getD v_1.toNat default))) then
   ck ((l_1.length + [v_1].length) * 8 ≤ 140737488355328) <|
   sf140 (l_1 ++ [v_1]) (IntKind.wrap .i64 (v_1 + 1))
  else
   sf140 l_1 (IntKind.wrap .i64 (v_1 + 1))
 else
  some (l_1, 0)

def m23_coalition_Worse (r_ : XRound) (slots : List Int) : Option ((List Int) × Int) :=
 (m39_coalition_check r_ slots).bind fun check_1 =>
 bif (decide (check_1 ≠ 0)) then
  some (([] : List Int), check_1)
 else
  (m42_coalition_own r_).bind fun own_1 =>
  (m42_coalition_own r_).bind fun own_2 =>
  (m41_coalition_costs r_ own_1 own_2).bind fun costs_1 =>
  (m42_coalition_own r_).bind fun own_3 =>
  (m41_coalition_costs r_ own_3 slots).bind fun costs_2 =>
  loop2 (m23_coalition_Worse_B0 costs_1 costs_2) (((costs_2.length : Int) - 0).toNat + 1) ([] : List Int) 0

theorem c23_coalition_Worse {w : World} {O : List Nat} {r_ : XRound} {slots : List Int} {a_r__owners : Option Addr} {c_r__owners : Nat} {a_r__costs : Option Addr} {c_r__costs : Nat} {a_slots : Option Addr} {c_slots : Nat} (hO : ∀ k ∈ O, k < w.heap.size) (r_r__slots : InK .i64 r_.slots) (f_r__owners : SlR (rInt .i64) w O a_r__owners c_r__owners r_.owners) (f_r__costs : SlR (rSl (rInt .i64)) w O a_r__costs c_r__costs r_.costs) (f_slots : SlR (rInt .i64) w O a_slots c_slots slots) {x : (List Int) × Int} (hm : m23_coalition_Worse r_ slots = some x) :
  Ok Try.prog 23 [(Value.agg [(Value.int .i64 r_.slots), (Value.slice a_r__owners r_.owners.length c_r__owners), (Value.slice a_r__costs r_.costs.length c_r__costs)].toArray), (Value.slice a_slots slots.length c_slots)] w O (vT2 (vC (rSl (rInt .i64))) (vI .i64)) x := by
 unfold m23_coalition_Worse at hm
 refine Fn_of_Wp (n := 45) (xs := [.tmp 4, .tmp 5]) Try.func23 rfl Try.ntmps23 Try.results23 rfl ?_
 have hs := St.start hO
 refine Wp_seq ?_
 refine Wp_region ?_
 refine Rg_op rfl (op_box (cs := [(Value.int .i64 r_.slots), (Value.slice a_r__owners r_.owners.length c_r__owners), (Value.slice a_r__costs r_.costs.length c_r__costs)]) hs rfl rfl ?_)
 intro b1 w2 _ p3 hs4
 replace f_r__owners := f_r__owners.step p3; replace f_r__costs := f_r__costs.step p3; replace f_slots := f_slots.step p3; clear p3
 refine Rg_op rfl (op_assign (v := (Value.slice none 0 0)) rfl ?_)
 refine Rg_op rfl (op_assign (v := (Value.int .i64 0)) rfl ?_)
 refine Rg_nil ?_
 refine Wp_seq ?_
 refine Wp_seq ?_
 refine Wp_region ?_
 refine Rg_op rfl (op_loadA (cs := [(Value.int .i64 r_.slots), (Value.slice a_r__owners r_.owners.length c_r__owners), (Value.slice a_r__costs r_.costs.length c_r__costs)]) (vs := [(Value.int .i64 r_.slots), (Value.slice a_r__owners r_.owners.length c_r__owners), (Value.slice a_r__costs r_.costs.length c_r__costs)]) (i := 0) ty25 hs4 rfl rfl rfl rfl ?_)
 refine Rg_op rfl (op_move (v := (Value.slice a_slots slots.length c_slots)) rfl ?_)
 replace hm := bd hm; obtain ⟨check_1, hv6, hm⟩ := hm
 refine Rg_op rfl (op_call Try.call39 (c39_coalition_check (r_ := r_) (slots := slots) hs4.ltw r_r__slots f_r__owners f_r__costs f_slots hv6) rfl ?_)
 rintro v7 w8 ⟨hx9, h10⟩
 have hs11 := hs4.call hx9
 have p12 := Step.ext (O := ks [(some b1, Obj.cells [(Value.int .i64 r_.slots), (Value.slice a_r__owners r_.owners.length c_r__owners), (Value.slice a_r__costs r_.costs.length c_r__costs)].toArray 25)] O) hx9
 clear hx9
 replace f_r__owners := f_r__owners.step p12; replace f_r__costs := f_r__costs.step p12; replace f_slots := f_slots.step p12; clear p12 hs4
 obtain ⟨rfl, r_y13⟩ := h10
 refine Rg_op rfl (op_assign (v := (Value.int .i64 check_1)) rfl ?_)
 refine Rg_nil ?_
 refine Wp_seq ?_
 refine Wp_region ?_
 refine Rg_op rfl (op_move (v := (Value.int .i64 check_1)) rfl ?_)
 refine Rg_op rfl (op_neq rfl rfl ?_)
 refine Rg_nil ?_
 refine Wp_cond rfl (fun hc14 => ?_) (fun hc14 => ?_)
 ·
  replace hm := bif_t hm hc14
  refine Wp_seq ?_
  obtain ⟨hs15, p16⟩ := hs11.sub (bs' := []) (.cons _ List.Sublist.slnil)
  clear f_r__owners f_r__costs f_slots
  clear p16 hs11
  refine Wp_region ?_
  refine Rg_op rfl (op_move (v := (Value.int .i64 check_1)) rfl ?_)
  refine Rg_op rfl (op_assign (v := (Value.slice none 0 0)) rfl ?_)
  refine Rg_op rfl (op_assign (v := (Value.int .i64 check_1)) rfl ?_)
  refine Rg_nil ?_
  refine Wp_ret ?_
  have hz := step_all hs15
  refine ⟨_, (show Closes [] _ _ from rfl), [(Value.slice none 0 0), (Value.int .i64 check_1)], ⟨rfl, rfl, trivial⟩, hs15.ext, ?_⟩
  exact Vr.eq (a := (vT2 (vC (rSl (rInt .i64))) (vI .i64))) (x := (([] : List Int), check_1)) (mkT2 (mkC (mk_sl SlR.nil_)) ⟨rfl, r_y13⟩) (Option.some.inj hm)
 ·
  replace hm := bif_f hm hc14
  refine Wp_skip ?_
  refine Wp_seq ?_
  refine Wp_drawR (g0 := []) (m := 5) (fl := []) (TS_inv hs11) rfl (.inl rfl) rfl (by decide +kernel) ?_  -- 4
  refine Dw_eq (Value.agg [(Value.int .i64 r_.slots), (Value.slice a_r__owners r_.owners.length c_r__owners), (Value.slice a_r__costs r_.costs.length c_r__costs)].toArray) (fun ρ17 w18 g hle hi ht => ?_) ?_
  ·
   obtain ⟨-, hst, -⟩ := hle
   have hsn := (Step.nx hi).1
   refine StepOp_plain (op_loadA (cs := [(Value.int .i64 r_.slots), (Value.slice a_r__owners r_.owners.length c_r__owners), (Value.slice a_r__costs r_.costs.length c_r__costs)]) (vs := [(Value.int .i64 r_.slots), (Value.slice a_r__owners r_.owners.length c_r__owners), (Value.slice a_r__costs r_.costs.length c_r__costs)]) (i := 0) ty25 hsn (ht 2 rfl) rfl rfl rfl ?_)
   exact Goes.same hi rfl
  refine Dw_eq (Value.agg [(Value.int .i64 r_.slots), (Value.slice a_r__owners r_.owners.length c_r__owners), (Value.slice a_r__costs r_.costs.length c_r__costs)].toArray) (fun ρ20 w21 g hle hi ht => ?_) ?_
  ·
   obtain ⟨-, hst, -⟩ := hle
   have hsn := (Step.nx hi).1
   refine StepOp_plain (op_loadA (cs := [(Value.int .i64 r_.slots), (Value.slice a_r__owners r_.owners.length c_r__owners), (Value.slice a_r__costs r_.costs.length c_r__costs)]) (vs := [(Value.int .i64 r_.slots), (Value.slice a_r__owners r_.owners.length c_r__owners), (Value.slice a_r__costs r_.costs.length c_r__costs)]) (i := 0) ty25 hsn (ht 2 rfl) rfl rfl rfl ?_)
   exact Goes.same hi rfl
  replace hm := bd hm; obtain ⟨own_1, hv26, hm⟩ := hm
  refine Dw_op (VD O [(some b1, Obj.cells [(Value.int .i64 r_.slots), (Value.slice a_r__owners r_.owners.length c_r__owners), (Value.slice a_r__costs r_.costs.length c_r__costs)].toArray 25)] (vC (rSl (rInt .i64))) own_1) (VD.stab _ _) (fun ρ23 w24 g hle hi ht => ?_) ?_
  ·
   obtain ⟨-, hst, -⟩ := hle
   replace f_r__owners := f_r__owners.step hst; replace f_r__costs := f_r__costs.step hst
   refine StepOp_plain (op_call Try.call42 (c42_coalition_own (O := ks (ents g ++ [(some b1, Obj.cells [(Value.int .i64 r_.slots), (Value.slice a_r__owners r_.owners.length c_r__owners), (Value.slice a_r__costs r_.costs.length c_r__costs)].toArray 25)]) O) (r_ := r_) hi.ltw r_r__slots f_r__owners f_r__costs hv26) (by simp only [List.map, Array.toList, (show ev _ (.tmp 17) = _ from (ht 17 rfl))] <;> rfl) ?_)
   rintro v27 w28 ⟨hx29, h30⟩
   exact Goes.call hi hx29 h30
  refine Dw_eq (Value.agg [(Value.int .i64 r_.slots), (Value.slice a_r__owners r_.owners.length c_r__owners), (Value.slice a_r__costs r_.costs.length c_r__costs)].toArray) (fun ρ32 w33 g hle hi ht => ?_) ?_
  ·
   obtain ⟨-, hst, -⟩ := hle
   have hsn := (Step.nx hi).1
   refine StepOp_plain (op_loadA (cs := [(Value.int .i64 r_.slots), (Value.slice a_r__owners r_.owners.length c_r__owners), (Value.slice a_r__costs r_.costs.length c_r__costs)]) (vs := [(Value.int .i64 r_.slots), (Value.slice a_r__owners r_.owners.length c_r__owners), (Value.slice a_r__costs r_.costs.length c_r__costs)]) (i := 0) ty25 hsn (ht 2 rfl) rfl rfl rfl ?_)
   exact Goes.same hi rfl
  replace hm := bd hm; obtain ⟨own_2, hv38, hm⟩ := hm
  refine Dw_op (VD O [(some b1, Obj.cells [(Value.int .i64 r_.slots), (Value.slice a_r__owners r_.owners.length c_r__owners), (Value.slice a_r__costs r_.costs.length c_r__costs)].toArray 25)] (vC (rSl (rInt .i64))) own_2) (VD.stab _ _) (fun ρ35 w36 g hle hi ht => ?_) ?_
  ·
   obtain ⟨-, hst, -⟩ := hle
   replace f_r__owners := f_r__owners.step hst; replace f_r__costs := f_r__costs.step hst
   refine StepOp_plain (op_call Try.call42 (c42_coalition_own (O := ks (ents g ++ [(some b1, Obj.cells [(Value.int .i64 r_.slots), (Value.slice a_r__owners r_.owners.length c_r__owners), (Value.slice a_r__costs r_.costs.length c_r__costs)].toArray 25)]) O) (r_ := r_) hi.ltw r_r__slots f_r__owners f_r__costs hv38) (by simp only [List.map, Array.toList, (show ev _ (.tmp 19) = _ from (ht 19 rfl))] <;> rfl) ?_)
   rintro v39 w40 ⟨hx41, h42⟩
   exact Goes.call hi hx41 h42
  refine Dw_nil fun w48 g49 hl50 hi51 => ?_
  obtain ⟨-, hst52, -⟩ := hl50
  obtain ⟨hs54, p53⟩ := Step.nx hi51
  rintro v55 h56
  replace h56 : Vr.vd (vC (rSl (rInt .i64))) _ _ _ _ := h56
  obtain ⟨a_y57, c_y57, rfl, f_y57⟩ := un_sl h56
  rintro _ rfl
  rintro v58 h59
  replace h59 : Vr.vd (vC (rSl (rInt .i64))) _ _ _ _ := h59
  obtain ⟨a_y60, c_y60, rfl, f_y60⟩ := un_sl h59
  rintro _ rfl
  rintro _ rfl
  have p61 : Step (ks [(some b1, Obj.cells [(Value.int .i64 r_.slots), (Value.slice a_r__owners r_.owners.length c_r__owners), (Value.slice a_r__costs r_.costs.length c_r__costs)].toArray 25)] O) w8 (ks [(some b1, Obj.cells [(Value.int .i64 r_.slots), (Value.slice a_r__owners r_.owners.length c_r__owners), (Value.slice a_r__costs r_.costs.length c_r__costs)].toArray 25)] O) w48 := hst52.trans p53
  replace f_y57 := f_y57.step p53; replace f_y60 := f_y60.step p53; replace f_r__owners := f_r__owners.step p61; replace f_r__costs := f_r__costs.step p61; replace f_slots := f_slots.step p61; clear p61 hs11
  replace hm := bd hm; obtain ⟨costs_1, hv62, hm⟩ := hm
  refine Rg_op rfl (op_call Try.call41 (g41_coalition_costs (r_ := r_) (flights := own_1) (slots := own_2) hs54.ltw r_r__slots f_r__owners f_r__costs f_y60 f_y57 hv62) rfl ?_)
  rintro _ w64 ⟨hx65, a68, c69, k70, o71, rfl, hk72, f73⟩
  obtain ⟨hs67, p74⟩ := hs54.callG (o := o71) hx65 hk72
  rw [← ks_cons (o := o71)] at f73
  replace f_r__owners := f_r__owners.step p74; replace f_r__costs := f_r__costs.step p74; replace f_slots := f_slots.step p74; replace f_y57 := f_y57.step p74; replace f_y60 := f_y60.step p74; clear p74 hs54
  refine Rg_op rfl (op_assign (v := (Value.slice a68 costs_1.length c69)) rfl ?_)
  refine Rg_nil ?_
  refine Wp_seq ?_
  refine Wp_seq ?_
  clear f_y57 f_y60
  refine Wp_drawR (g0 := []) (m := 7) (fl := []) (TS_inv hs67) rfl (.inl rfl) rfl (by decide +kernel) ?_  -- 5
  refine Dw_eq (Value.agg [(Value.int .i64 r_.slots), (Value.slice a_r__owners r_.owners.length c_r__owners), (Value.slice a_r__costs r_.costs.length c_r__costs)].toArray) (fun ρ76 w77 g hle hi ht => ?_) ?_
  ·
   obtain ⟨-, hst, -⟩ := hle
   have hsn := (Step.nx hi).1
   refine StepOp_plain (op_loadA (cs := [(Value.int .i64 r_.slots), (Value.slice a_r__owners r_.owners.length c_r__owners), (Value.slice a_r__costs r_.costs.length c_r__costs)]) (vs := [(Value.int .i64 r_.slots), (Value.slice a_r__owners r_.owners.length c_r__owners), (Value.slice a_r__costs r_.costs.length c_r__costs)]) (i := 1) ty25 hsn (ht 2 rfl) rfl rfl rfl ?_)
   exact Goes.same hi rfl
  refine Dw_eq (Value.agg [(Value.int .i64 r_.slots), (Value.slice a_r__owners r_.owners.length c_r__owners), (Value.slice a_r__costs r_.costs.length c_r__costs)].toArray) (fun ρ79 w80 g hle hi ht => ?_) ?_
  ·
   obtain ⟨-, hst, -⟩ := hle
   have hsn := (Step.nx hi).1
   refine StepOp_plain (op_loadA (cs := [(Value.int .i64 r_.slots), (Value.slice a_r__owners r_.owners.length c_r__owners), (Value.slice a_r__costs r_.costs.length c_r__costs)]) (vs := [(Value.int .i64 r_.slots), (Value.slice a_r__owners r_.owners.length c_r__owners), (Value.slice a_r__costs r_.costs.length c_r__costs)]) (i := 1) ty25 hsn (ht 2 rfl) rfl rfl rfl ?_)
   exact Goes.same hi rfl
  replace hm := bd hm; obtain ⟨own_3, hv85, hm⟩ := hm
  refine Dw_op (VD O [(k70, o71), (some b1, Obj.cells [(Value.int .i64 r_.slots), (Value.slice a_r__owners r_.owners.length c_r__owners), (Value.slice a_r__costs r_.costs.length c_r__costs)].toArray 25)] (vC (rSl (rInt .i64))) own_3) (VD.stab _ _) (fun ρ82 w83 g hle hi ht => ?_) ?_
  ·
   obtain ⟨-, hst, -⟩ := hle
   replace f_r__owners := f_r__owners.step hst; replace f_r__costs := f_r__costs.step hst
   refine StepOp_plain (op_call Try.call42 (c42_coalition_own (O := ks (ents g ++ [(k70, o71), (some b1, Obj.cells [(Value.int .i64 r_.slots), (Value.slice a_r__owners r_.owners.length c_r__owners), (Value.slice a_r__costs r_.costs.length c_r__costs)].toArray 25)]) O) (r_ := r_) hi.ltw r_r__slots f_r__owners f_r__costs hv85) (by simp only [List.map, Array.toList, (show ev _ (.tmp 23) = _ from (ht 23 rfl))] <;> rfl) ?_)
   rintro v86 w87 ⟨hx88, h89⟩
   exact Goes.call hi hx88 h89
  refine Dw_eq (Value.slice a_slots slots.length c_slots) (fun ρ91 w92 g hle hi ht => ?_) ?_
  ·
   obtain ⟨-, hst, -⟩ := hle
   refine StepOp_plain (op_move (v := (Value.slice a_slots slots.length c_slots)) (ht 1 rfl) ?_)
   exact Goes.same hi rfl
  replace hm := bd hm; obtain ⟨costs_2, hv100, hm⟩ := hm
  refine Dw_op (VD O [(k70, o71), (some b1, Obj.cells [(Value.int .i64 r_.slots), (Value.slice a_r__owners r_.owners.length c_r__owners), (Value.slice a_r__costs r_.costs.length c_r__costs)].toArray 25)] (vC (rSl (rInt .i64))) costs_2) (VD.stab _ _) (fun ρ94 w95 g hle hi ht => ?_) ?_
  ·
   obtain ⟨-, hst, -⟩ := hle
   replace f_r__owners := f_r__owners.step hst; replace f_r__costs := f_r__costs.step hst; replace f_slots := f_slots.step hst
   have h97 : Vr.vd (vC (rSl (rInt .i64))) _ _ _ _ := ht 24 rfl
   obtain ⟨a_y99, c_y99, q98, f_y99⟩ := un_sl h97
   refine StepOp_plain (op_call Try.call41 (c41_coalition_costs (O := ks (ents g ++ [(k70, o71), (some b1, Obj.cells [(Value.int .i64 r_.slots), (Value.slice a_r__owners r_.owners.length c_r__owners), (Value.slice a_r__costs r_.costs.length c_r__costs)].toArray 25)]) O) (r_ := r_) (flights := own_3) (slots := slots) hi.ltw r_r__slots f_r__owners f_r__costs f_y99 f_slots hv100) (by simp only [List.map, Array.toList, (show ev _ (.tmp 22) = _ from (ht 22 rfl)), (show ev _ (.tmp 24) = _ from q98), (show ev _ (.tmp 25) = _ from (ht 25 rfl))] <;> rfl) ?_)
   rintro v101 w102 ⟨hx103, h104⟩
   exact Goes.call hi hx103 h104
  refine Dw_op (VD O [(k70, o71), (some b1, Obj.cells [(Value.int .i64 r_.slots), (Value.slice a_r__owners r_.owners.length c_r__owners), (Value.slice a_r__costs r_.costs.length c_r__costs)].toArray 25)] (vI .i64) (costs_2.length : Int)) (VD.stab _ _) (fun ρ106 w107 g hle hi ht => ?_) ?_
  ·
   obtain ⟨-, hst, -⟩ := hle
   have h109 : Vr.vd (vC (rSl (rInt .i64))) _ _ _ _ := ht 26 rfl
   obtain ⟨a_y111, c_y111, q110, f_y111⟩ := un_sl h109
   refine StepOp_plain (op_len Try.underlying22 q110 ?_)
   exact Goes.same hi (show Vr.vd (vI .i64) _ _ _ _ from ⟨rfl, (inK_len f_y111)⟩)
  refine Dw_eq (Value.int .i64 0) (fun ρ112 w113 g hle hi ht => ?_) ?_
  ·
   obtain ⟨-, hst, -⟩ := hle
   refine StepOp_plain (op_move (v := (Value.int .i64 0)) rfl ?_)
   exact Goes.same hi rfl
  refine Dw_nil fun w119 g120 hl121 hi122 => ?_
  obtain ⟨-, hst123, -⟩ := hl121
  obtain ⟨hs125, p124⟩ := Step.nx hi122
  rintro _ rfl
  rintro v126 h127
  replace h127 : Vr.vd (vI .i64) _ _ _ _ := h127
  obtain ⟨rfl, r_y128⟩ := h127
  rintro v129 h130
  replace h130 : Vr.vd (vC (rSl (rInt .i64))) _ _ _ _ := h130
  obtain ⟨a_y131, c_y131, rfl, f_y131⟩ := un_sl h130
  rintro _ rfl
  rintro v132 h133
  replace h133 : Vr.vd (vC (rSl (rInt .i64))) _ _ _ _ := h133
  obtain ⟨a_y134, c_y134, rfl, f_y134⟩ := un_sl h133
  rintro _ rfl
  rintro _ rfl
  have p135 : Step (ks [(k70, o71), (some b1, Obj.cells [(Value.int .i64 r_.slots), (Value.slice a_r__owners r_.owners.length c_r__owners), (Value.slice a_r__costs r_.costs.length c_r__costs)].toArray 25)] O) w64 (ks [(k70, o71), (some b1, Obj.cells [(Value.int .i64 r_.slots), (Value.slice a_r__owners r_.owners.length c_r__owners), (Value.slice a_r__costs r_.costs.length c_r__costs)].toArray 25)] O) w119 := hst123.trans p124
  replace f_y131 := f_y131.step p124; replace f_y134 := f_y134.step p124; replace f_r__owners := f_r__owners.step p135; replace f_r__costs := f_r__costs.step p135; replace f_slots := f_slots.step p135; replace f73 := f73.step p135; clear p135 hs67
  refine Rg_nil ?_
  refine Wp_block ?_
  refine Wp_reset [] [(4, (Value.slice none 0 0)), (7, (Value.slice a68 costs_1.length c69)), (26, (Value.slice a_y131 costs_2.length c_y131)), (27, (Value.int .i64 (costs_2.length : Int))), (28, (Value.int .i64 0))] rfl ⟨rfl, rfl, rfl, rfl, rfl, trivial⟩ fun ξ139 => ?_
  have hs144 := hs125.ghost (Obj.cells #[] 3)
  refine Wp_loopM [4, 8, 9, 28, 29, 30, 31, 32, 33, 34, 35, 36, 37, 38, 39, 40, 41, 42, 43] (fun m fr w' => ∃ (l_1 : List Int) (v_1 : Int) (a_g137 : Option Addr) (c_g137 : Nat) (k_g137 : Option Nat) (o_g137 : Obj) (Ebs : Ents), Ebs = [(k_g137, o_g137), (k70, o71), (some b1, Obj.cells [(Value.int .i64 r_.slots), (Value.slice a_r__owners r_.owners.length c_r__owners), (Value.slice a_r__costs r_.costs.length c_r__costs)].toArray 25)] ∧ fr [] [(4, (Value.slice a_g137 l_1.length c_g137)), (28, (Value.int .i64 v_1))] ∧ Step (ks [(none, (Obj.cells #[] 3)), (k70, o71), (some b1, Obj.cells [(Value.int .i64 r_.slots), (Value.slice a_r__owners r_.owners.length c_r__owners), (Value.slice a_r__costs r_.costs.length c_r__costs)].toArray 25)] O) w119 (ks Ebs O) w' ∧ St ⟨w, [], []⟩ O w' Ebs ∧ Gs (rInt .i64) 3 w' (ks Ebs O) a_g137 c_g137 l_1 k_g137 o_g137 ∧ InK .i64 v_1 ∧ loop2 (m23_coalition_Worse_B0 costs_1 costs_2) m l_1 v_1 = some x) (((costs_2.length : Int) - 0).toNat + 1) ⟨([] : List Int), 0, none, 0, none, (Obj.cells #[] 3), _, rfl, ⟨Out.refl _ _, rfl, rfl, rfl, trivial⟩, Step.refl _ _, hs144, Gs.nil_, (show InK .i64 0 from by decide), hm⟩ ?_ ?_
  · rintro _ _ ⟨_, _, _, _, _, _, _, _, _, _, _, _, _, hm⟩; exact loop2_z hm
  ·
   rintro m143 K142 hK142 ρ150 w146 ⟨l_1, v_1, a_g137, c_g137, k_g137, o_g137, Ebs, hEbs, hfr149, hst148, hs147, f_g137, r_y138, hm⟩
   obtain ⟨sf140, hsf141, hm⟩ := loop2_s hm; unfold m23_coalition_Worse_B0 at hm
   subst hEbs; rw [hfr149.eq]; clear hfr149
   replace f_r__owners := f_r__owners.step hst148; replace f_r__costs := f_r__costs.step hst148; replace f_slots := f_slots.step hst148; replace f73 := f73.step hst148; replace f_y131 := f_y131.step hst148; replace f_y134 := f_y134.step hst148
   have ch151 := hst148
   refine Wp_seq ?_
   clear f_slots f_y134
   refine Wp_region ?_
   refine Rg_op rfl (op_lss rfl rfl ?_)
   refine Rg_nil ?_
   refine Wp_seq ?_
   refine Wp_cond rfl (fun hc152 => ?_) (fun hc152 => ?_)
   ·
    replace hm := bif_t hm hc152
    refine Wp_skip ?_
    refine Wp_seq ?_
    refine Wp_block ?_
    refine Wp_seq ?_
    refine Wp_region ?_
    refine Rg_op rfl (op_move (v := (Value.int .i64 v_1)) rfl ?_)
    replace hm := ck_some hm; obtain ⟨hc153, hm⟩ := hm
    refine Rg_op rfl (op_indexAddr (q := (rInt .i64)) ty22 ty3 rfl rfl f_y131 rfl hc153.1 hc153.2 ?_)
    intro p154 f155
    refine Rg_op rfl (op_loadP ty3 rfl f155 rfl ?_)
    intro v156 h157
    obtain ⟨rfl, r_y158⟩ := un_int h157
    refine Rg_op rfl (op_assign (v := (Value.int .i64 v_1)) rfl ?_)
    refine Rg_op rfl (op_assign (v := (Value.int .i64 (costs_2.getD v_1.toNat default))) rfl ?_)
    refine Rg_nil ?_
    refine Wp_seq ?_
    clear f155
    refine Wp_region ?_
    refine Rg_op rfl (op_move (v := (Value.int .i64 (costs_2.getD v_1.toNat default))) rfl ?_)
    refine Rg_op rfl (op_move (v := (Value.slice a68 costs_1.length c69)) rfl ?_)
    refine Rg_op rfl (op_move (v := (Value.int .i64 v_1)) rfl ?_)
    replace hm := ck_some hm; obtain ⟨hc159, hm⟩ := hm
    refine Rg_op rfl (op_indexAddrG ty22 ty3 rfl rfl f73 hc159 ?_)
    rintro b160 rfl rfl
    refine Rg_op rfl (op_loadG (i := 1) ty3 rfl hs147 rfl rfl f73 hc159 ?_)
    intro v161 h162
    obtain ⟨rfl, r_y163⟩ := un_int h162
    refine Rg_op rfl (op_gtr rfl rfl ?_)
    refine Rg_nil ?_
    refine Wp_cond rfl (fun hc164 => ?_) (fun hc164 => ?_)
    ·
     replace hm := bif_t hm hc164
     refine Wp_region ?_
     refine Rg_op rfl (op_move (v := (Value.slice a_g137 l_1.length c_g137)) rfl ?_)
     refine Rg_op rfl (op_move (v := (Value.int .i64 v_1)) rfl ?_)
     refine Rg_op rfl (op_buildSlice (cs := [(Value.int .i64 v_1)]) (parts := [(0, .tmp 40)]) ty22 ty3 hs147 (by decide) rfl ?_)
     intro b165 w166 hx169 p167 hs168
     replace f_r__owners := f_r__owners.step p167; replace f_r__costs := f_r__costs.step p167; replace f73 := f73.step p167; replace f_y131 := f_y131.step p167; replace f_g137 := f_g137.step p167; replace ch151 := ch151.trans p167; clear p167 hs147
     replace hm := ck_some hm; obtain ⟨hc171, hm⟩ := hm
     refine Rg_op rfl (op_append (q := (rInt .i64)) (i := 1) (xs := l_1) (ys := [v_1]) (news := [(Value.int .i64 v_1)]) ty22 ty3 rfl (by decide) hs168 rfl rfl f_g137 rfl (Src.owned' (len := 1) (hs168.get (i := 0) rfl) rfl) (show Els (rInt .i64) _ _ [(Value.int .i64 v_1)] [v_1] from ⟨_, _, rfl, (mk_int r_y138), Els.nil⟩) hc171 (by have := hc171; simp only [maxLen]; omega) ?_)
     intro a175 c176 k177 o178 w172 p173 hs174 f179
     replace f_r__owners := f_r__owners.step p173; replace f_r__costs := f_r__costs.step p173; replace f73 := f73.step p173; replace f_y131 := f_y131.step p173; replace ch151 := ch151.trans p173; clear p173 hs168
     have hs180 := hs174.drop 0
     replace f_r__owners := f_r__owners.step (hs174.dropS 0)
     replace f_r__costs := f_r__costs.step (hs174.dropS 0)
     replace f73 := f73.step (hs174.dropS 0)
     replace f_y131 := f_y131.step (hs174.dropS 0)
     replace f179 := f179.step (hs174.dropS 0)
     replace ch151 := ch151.trans (hs174.dropS 0); clear hs174
     refine Rg_op rfl (op_assign (v := (Value.slice a175 (l_1 ++ [v_1]).length c176)) rfl ?_)
     refine Rg_nil ?_
     refine Wp_region ?_
     refine Rg_op rfl (op_addw rfl rfl ?_)
     refine Rg_op rfl (op_move (v := (Value.int .i64 (IntKind.wrap .i64 (v_1 + 1)))) rfl ?_)
     refine Rg_nil ?_
     exact hK142 _ _ ⟨(l_1 ++ [v_1]), (IntKind.wrap .i64 (v_1 + 1)), a175, c176, k177, o178, _, rfl, ⟨(by repeat (first | with_reducible exact Out.refl _ _ | refine Out.upd ?_ rfl | refine Out.updL ?_ rfl | refine Out.mix' ?_ rfl | exact Out.refl _ _)), rfl, rfl, rfl, trivial⟩, ch151, hs180, f179, (inK_wrap .i64 _), jnE2 hsf141 hm⟩
    ·
     replace hm := bif_f hm hc164
     refine Wp_skip ?_
     refine Wp_region ?_
     refine Rg_op rfl (op_addw rfl rfl ?_)
     refine Rg_op rfl (op_move (v := (Value.int .i64 (IntKind.wrap .i64 (v_1 + 1)))) rfl ?_)
     refine Rg_nil ?_
     exact hK142 _ _ ⟨l_1, (IntKind.wrap .i64 (v_1 + 1)), a_g137, c_g137, k_g137, o_g137, _, rfl, ⟨(by repeat (first | with_reducible exact Out.refl _ _ | refine Out.upd ?_ rfl | refine Out.updL ?_ rfl | refine Out.mix' ?_ rfl | exact Out.refl _ _)), rfl, rfl, rfl, trivial⟩, ch151, hs147, f_g137, (inK_wrap .i64 _), jnE2 hsf141 hm⟩
   ·
    replace hm := bif_f hm hc152
    refine Wp_exit ?_
    refine Wp_seq ?_
    obtain ⟨hs181, p182⟩ := hs147.sub (bs' := [(k_g137, o_g137)]) (.cons_cons _ (.cons _ (.cons _ List.Sublist.slnil)))
    clear f_r__owners f_r__costs f73 f_y131
    replace f_g137 := f_g137.step p182; replace ch151 := ch151.trans p182; clear p182 hs147
    refine Wp_region ?_
    refine Rg_op rfl (op_move (v := (Value.slice a_g137 l_1.length c_g137)) rfl ?_)
    refine Rg_op rfl (op_assign (v := (Value.slice a_g137 l_1.length c_g137)) rfl ?_)
    refine Rg_op rfl (op_assign (v := (Value.int .i64 0)) rfl ?_)
    refine Rg_nil ?_
    refine Wp_ret ?_
    obtain ⟨hs184, p185, f183⟩ := Gs.publish (i := 0) hs181 rfl f_g137
    replace ch151 := ch151.trans p185; clear p185 hs181
    have hz := step_all hs184
    replace f183 := f183.step hz
    refine ⟨_, (show Closes [] _ _ from rfl), [(Value.slice a_g137 l_1.length c_g137), (Value.int .i64 0)], ⟨rfl, rfl, trivial⟩, hs184.ext, ?_⟩
    exact Vr.eq (a := (vT2 (vC (rSl (rInt .i64))) (vI .i64))) (x := (l_1, 0)) (mkT2 (mkC (mk_sl f183)) ⟨rfl, (show InK .i64 0 from by decide)⟩) (Option.some.inj hm)

end Go.Fx


