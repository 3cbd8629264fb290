/- VectorLeastSpec: Least, Sums and Fits answer as the reference does. -/
import Derived.Test.YteohplgecfdafaaLeast2
import Derived.Test.YteohplgecfdafaaRows
import Derived.WalkKit
import Derived.ShutString
set_option linter.unusedVariables false
set_option linter.unusedSimpArgs false
set_option maxRecDepth 100000
set_option maxHeartbeats 0
namespace Go.Fx
open Go Go.RowKit Go.Proofs
def m53_overflightref06_isLeast_B0 (l : List (List Int)) (at_ : Int) (sf3 : Int → Option Bool) (i_1 : Int) : Option Bool :=
 bif (decide (i_1 < (l.length : Int))) then
  jn (fun (v_1 : Bool) =>
   bif v_1 then
    some false
   else
    sf3 (IntKind.wrap .i64 (i_1 + 1)))
  (fun k17 =>
   ck ((0 : Int) ≤ i_1 ∧ i_1 < (l.length : Int)) <|
   ck ((0 : Int) ≤ at_ ∧ at_ < (l.length : Int)) <|
   (m35_overflightref06_Order (l.getD i_1.toNat default) (l.getD at_.toNat default)).bind fun order_1 =>
   bif (decide (order_1 ≠ 0)) then
    ck ((0 : Int) ≤ i_1 ∧ i_1 < (l.length : Int)) <|
    ck ((0 : Int) ≤ at_ ∧ at_ < (l.length : Int)) <|
    (m33_overflightref06_IsBelow (l.getD i_1.toNat default) (l.getD at_.toNat default)).bind fun isbelow_1 =>
    k17 isbelow_1
   else
    k17 false)
 else
  some true

def m53_overflightref06_isLeast (l : List (List Int)) (at_ : Int) : Option Bool :=
 loop1 (m53_overflightref06_isLeast_B0 l at_) (((l.length : Int) - 0).toNat + 1) 0

theorem c53_overflightref06_isLeast {w : World} {O : List Nat} {l : List (List Int)} {at_ : Int} {a_l : Option Addr} {c_l : Nat} (hO : ∀ k ∈ O, k < w.heap.size) (f_l : SlR (rSl (rInt .i64)) w O a_l c_l l) (r_at_ : InK .i64 at_) {x : Bool} (hm : m53_overflightref06_isLeast l at_ = some x) :
  Ok Try.prog 53 [(Value.slice a_l l.length c_l), (Value.int .i64 at_)] w O vB x := by
 unfold m53_overflightref06_isLeast at hm
 refine Fn_of_Wp (n := 33) (xs := [.tmp 4]) Try.func53 rfl Try.ntmps53 Try.results53 rfl ?_
 have hs := St.start hO
 refine Wp_seq ?_
 refine Wp_region ?_
 refine Rg_op rfl (op_assign (v := (Value.bool false)) rfl ?_)
 refine Rg_nil ?_
 refine Wp_seq ?_
 refine Wp_seq ?_
 refine Wp_region ?_
 refine Rg_op rfl (op_assign (v := (Value.int .i64 0)) rfl ?_)
 refine Rg_nil ?_
 refine Wp_block ?_
 refine Wp_reset [] [(0, (Value.slice a_l l.length c_l)), (1, (Value.int .i64 at_)), (5, (Value.int .i64 0))] rfl ⟨rfl, rfl, rfl, trivial⟩ fun ξ2 => ?_
 refine Wp_loopM [4, 5, 6, 7, 8, 9, 10, 11, 12, 13, 14, 15, 16, 17, 18, 19, 20, 21, 22, 23, 24, 25, 26, 27, 28, 29, 30, 31, 32] (fun m fr w' => ∃ (i_1 : Int) (Ebs : Ents), Ebs = [] ∧ fr [] [(5, (Value.int .i64 i_1))] ∧ Step (ks [] O) w (ks Ebs O) w' ∧ St ⟨w, [], []⟩ O w' Ebs ∧ InK .i64 i_1 ∧ loop1 (m53_overflightref06_isLeast_B0 l at_) m i_1 = some x) (((l.length : Int) - 0).toNat + 1) ⟨0, _, rfl, ⟨Out.refl _ _, rfl, rfl, trivial⟩, Step.refl _ _, hs, (show InK .i64 0 from by decide), hm⟩ ?_ ?_
 · rintro _ _ ⟨_, _, _, _, _, _, _, hm⟩; exact loop1_z hm
 ·
  rintro m6 K5 hK5 ρ11 w7 ⟨i_1, Ebs, hEbs, hfr10, hst9, hs8, r_y1, hm⟩
  obtain ⟨sf3, hsf4, hm⟩ := loop1_s hm; unfold m53_overflightref06_isLeast_B0 at hm
  subst hEbs; rw [hfr10.eq]; clear hfr10
  replace f_l := f_l.step hst9
  have ch12 := hst9
  refine Wp_seq ?_
  refine Wp_seq ?_
  refine Wp_region ?_
  refine Rg_op rfl (op_move (v := (Value.int .i64 i_1)) rfl ?_)
  refine Rg_op rfl (op_move (v := (Value.slice a_l l.length c_l)) rfl ?_)
  refine Rg_op rfl (op_len Try.underlying33 rfl ?_)
  have rl13 := inK_len f_l
  refine Rg_op rfl (op_lss rfl rfl ?_)
  refine Rg_nil ?_
  refine Wp_cond rfl (fun hc14 => ?_) (fun hc14 => ?_)
  ·
   replace hm := bif_t hm hc14
   refine Wp_skip ?_
   refine Wp_seq ?_
   refine Wp_block ?_
   refine Wp_reset2 [4, 5, 6, 7, 8, 9, 10, 11, 12, 13, 14, 15, 16, 17, 18, 19, 20, 21, 22, 23, 24, 25, 26, 27, 28, 29, 30, 31, 32] [] (updL ⟨ξ2, []⟩ [(0, (Value.slice a_l l.length c_l)), (1, (Value.int .i64 at_)), (5, (Value.int .i64 0))]) [(5, (Value.int .i64 i_1))] (by repeat (first | with_reducible exact Out.refl _ _ | refine Out.upd ?_ rfl | refine Out.updL ?_ rfl | refine Out.mix' ?_ rfl | exact Out.refl _ _)) rfl ⟨rfl, trivial⟩ fun ξ15 => ?_
   replace hm := jn_elim hm; obtain ⟨k17, hk18, hm⟩ := hm
   refine Wp_seqJ [12, 13, 14, 15, 16, 17, 18, 19, 20, 21, 22, 23, 24, 25, 26, 27, 28, 29, 30, 31, 32] (fun fr w' => ∃ (v_1 : Bool) (Ebs : Ents), Ebs = [] ∧ fr [] [(32, (Value.bool v_1))] ∧ Step (ks [] O) w7 (ks Ebs O) w' ∧ St ⟨w, [], []⟩ O w' Ebs ∧ k17 v_1 = some x) ?_ ?_
   ·
    rintro ρ24 w20 ⟨v_1, Ebs, hEbs, hfr23, hst22, hs21, hm⟩
    replace hm := jnE1 hk18 hm
    subst hEbs; rw [hfr23.eq]; clear hfr23
    replace f_l := f_l.step hst22; replace ch12 := ch12.trans hst22; clear hst22 hs8
    refine Wp_cond rfl (fun hc25 => ?_) (fun hc25 => ?_)
    ·
     replace hm := bif_t hm hc25
     refine Wp_seq ?_
     clear f_l
     refine Wp_region ?_
     refine Rg_op rfl (op_assign (v := (Value.bool false)) rfl ?_)
     refine Rg_nil ?_
     refine Wp_ret ?_
     have hz := step_all hs21
     refine ⟨_, (show Closes [] _ _ from rfl), [(Value.bool false)], ⟨rfl, trivial⟩, hs21.ext, ?_⟩
     exact Vr.eq (a := vB) (x := false) rfl (Option.some.inj hm)
    ·
     replace hm := bif_f hm hc25
     refine Wp_skip ?_
     refine Wp_region ?_
     refine Rg_op rfl (op_move (v := (Value.int .i64 i_1)) rfl ?_)
     refine Rg_op rfl (op_addw rfl rfl ?_)
     refine Rg_op rfl (op_assign (v := (Value.int .i64 (IntKind.wrap .i64 (i_1 + 1)))) rfl ?_)
     refine Rg_nil ?_
     exact hK5 _ _ ⟨(IntKind.wrap .i64 (i_1 + 1)), _, rfl, ⟨(by repeat (first | with_reducible exact Out.refl _ _ | refine Out.upd ?_ rfl | refine Out.updL ?_ rfl | refine Out.mix' ?_ rfl | exact Out.refl _ _)), rfl, rfl, trivial⟩, ch12, hs21, (inK_wrap .i64 _), jnE1 hsf4 hm⟩
   ·
    intro K19 hK19
    have ch26 := Step.refl (ks [] O) w7
    refine Wp_drawR (g0 := []) (m := 19) (fl := []) (TS_inv hs8) rfl (.inl rfl) rfl (by decide +kernel) ?_  -- 4
    refine Dw_eq (Value.slice a_l l.length c_l) (fun ρ27 w28 g hle hi ht => ?_) ?_
    ·
     obtain ⟨-, hst, -⟩ := hle
     refine StepOp_plain (op_move (v := (Value.slice a_l l.length c_l)) (ht 0 rfl) ?_)
     exact Goes.same hi rfl
    refine Dw_eq (Value.int .i64 i_1) (fun ρ30 w31 g hle hi ht => ?_) ?_
    ·
     obtain ⟨-, hst, -⟩ := hle
     refine StepOp_plain (op_move (v := (Value.int .i64 i_1)) (ht 5 rfl) ?_)
     exact Goes.same hi rfl
    replace hm := ck_some hm; obtain ⟨hc36, hm⟩ := hm
    refine Dw_op (VP O [] (rSl (rInt .i64)) (l.getD i_1.toNat default)) (VP.stab _ _) (fun ρ33 w34 g hle hi ht => ?_) ?_
    ·
     obtain ⟨-, hst, -⟩ := hle
     replace f_l := f_l.step hst
     refine StepOp_plain (op_indexAddr (q := (rSl (rInt .i64))) ty33 ty22 (ht 12 rfl) (ht 13 rfl) f_l rfl hc36.1 hc36.2 ?_)
     intro p37 f38
     exact Goes.same hi ⟨_, rfl, f38⟩
    refine Dw_op (VD O [] (vC (rSl (rInt .i64))) (l.getD i_1.toNat default)) (VD.stab _ _) (fun ρ39 w40 g hle hi ht => ?_) ?_
    ·
     obtain ⟨-, hst, -⟩ := hle
     obtain ⟨p42, q43, f44⟩ := ht 14 rfl
     refine StepOp_plain (op_loadP ty22 q43 f44 rfl ?_)
     intro v45 h46
     obtain ⟨a_y47, c_y47, rfl, f_y47⟩ := un_sl h46
     exact Goes.same hi (show Vr.vd (vC (rSl (rInt .i64))) _ _ _ _ from (mkC (mk_sl f_y47)))
    refine Dw_eq (Value.slice a_l l.length c_l) (fun ρ48 w49 g hle hi ht => ?_) ?_
    ·
     obtain ⟨-, hst, -⟩ := hle
     refine StepOp_plain (op_move (v := (Value.slice a_l l.length c_l)) (ht 0 rfl) ?_)
     exact Goes.same hi rfl
    refine Dw_eq (Value.int .i64 at_) (fun ρ51 w52 g hle hi ht => ?_) ?_
    ·
     obtain ⟨-, hst, -⟩ := hle
     refine StepOp_plain (op_move (v := (Value.int .i64 at_)) (ht 1 rfl) ?_)
     exact Goes.same hi rfl
    replace hm := ck_some hm; obtain ⟨hc57, hm⟩ := hm
    refine Dw_op (VP O [] (rSl (rInt .i64)) (l.getD at_.toNat default)) (VP.stab _ _) (fun ρ54 w55 g hle hi ht => ?_) ?_
    ·
     obtain ⟨-, hst, -⟩ := hle
     replace f_l := f_l.step hst
     refine StepOp_plain (op_indexAddr (q := (rSl (rInt .i64))) ty33 ty22 (ht 16 rfl) (ht 17 rfl) f_l rfl hc57.1 hc57.2 ?_)
     intro p58 f59
     exact Goes.same hi ⟨_, rfl, f59⟩
    refine Dw_op (VD O [] (vC (rSl (rInt .i64))) (l.getD at_.toNat default)) (VD.stab _ _) (fun ρ60 w61 g hle hi ht => ?_) ?_
    ·
     obtain ⟨-, hst, -⟩ := hle
     obtain ⟨p63, q64, f65⟩ := ht 18 rfl
     refine StepOp_plain (op_loadP ty22 q64 f65 rfl ?_)
     intro v66 h67
     obtain ⟨a_y68, c_y68, rfl, f_y68⟩ := un_sl h67
     exact Goes.same hi (show Vr.vd (vC (rSl (rInt .i64))) _ _ _ _ from (mkC (mk_sl f_y68)))
    replace hm := bd hm; obtain ⟨order_1, hv78, hm⟩ := hm
    refine Dw_op (VD O [] (vI .i64) order_1) (VD.stab _ _) (fun ρ69 w70 g hle hi ht => ?_) ?_
    ·
     obtain ⟨-, hst, -⟩ := hle
     have h72 : Vr.vd (vC (rSl (rInt .i64))) _ _ _ _ := ht 19 rfl
     obtain ⟨a_y74, c_y74, q73, f_y74⟩ := un_sl h72
     have h75 : Vr.vd (vC (rSl (rInt .i64))) _ _ _ _ := ht 15 rfl
     obtain ⟨a_y77, c_y77, q76, f_y77⟩ := un_sl h75
     refine StepOp_plain (op_call Try.call35 (c35_overflightref06_Order (O := ks (ents g ++ []) O) (a := (l.getD i_1.toNat default)) (b := (l.getD at_.toNat default)) hi.ltw f_y77 f_y74 hv78) (by simp only [List.map, Array.toList, (show ev _ (.tmp 15) = _ from q76), (show ev _ (.tmp 19) = _ from q73)] <;> rfl) ?_)
     rintro v79 w80 ⟨hx81, h82⟩
     exact Goes.call hi hx81 h82
    refine Dw_eq (Value.bool (decide (order_1 ≠ 0))) (fun ρ84 w85 g hle hi ht => ?_) ?_
    ·
     obtain ⟨-, hst, -⟩ := hle
     have h87 : Vr.vd (vI .i64) _ _ _ _ := ht 20 rfl
     obtain ⟨q88, r_y89⟩ := h87
     refine StepOp_plain (op_neq q88 rfl ?_)
     exact Goes.same hi rfl
    refine Dw_opB (decide (order_1 ≠ 0)) (fun ρ90 w91 g hle hi ht => ?_) (fun hg93 => ?_) (fun hg93 => ?_)
    ·
     obtain ⟨-, hst, -⟩ := hle
     refine StepOp_plain (op_move (v := (Value.bool (decide (order_1 ≠ 0)))) (ht 21 rfl) ?_)
     exact Goes.same hi rfl
    ·
     replace hm := bif_t hm hg93
     refine Dw_eq (Value.slice a_l l.length c_l) (fun ρ94 w95 g hle hi ht => ?_) ?_
     ·
      obtain ⟨-, hst, -⟩ := hle
      refine StepOp_g rfl (ht 22 rfl) (op_move (v := (Value.slice a_l l.length c_l)) (ht 0 rfl) ?_)
      exact Goes.same hi rfl
     refine Dw_eq (Value.int .i64 i_1) (fun ρ97 w98 g hle hi ht => ?_) ?_
     ·
      obtain ⟨-, hst, -⟩ := hle
      refine StepOp_g rfl (ht 22 rfl) (op_move (v := (Value.int .i64 i_1)) (ht 5 rfl) ?_)
      exact Goes.same hi rfl
     replace hm := ck_some hm; obtain ⟨hc103, hm⟩ := hm
     refine Dw_op (VP O [] (rSl (rInt .i64)) (l.getD i_1.toNat default)) (VP.stab _ _) (fun ρ100 w101 g hle hi ht => ?_) ?_
     ·
      obtain ⟨-, hst, -⟩ := hle
      replace f_l := f_l.step hst
      refine StepOp_g rfl (ht 22 rfl) (op_indexAddr (q := (rSl (rInt .i64))) ty33 ty22 (ht 23 rfl) (ht 24 rfl) f_l rfl hc103.1 hc103.2 ?_)
      intro p104 f105
      exact Goes.same hi ⟨_, rfl, f105⟩
     refine Dw_op (VD O [] (vC (rSl (rInt .i64))) (l.getD i_1.toNat default)) (VD.stab _ _) (fun ρ106 w107 g hle hi ht => ?_) ?_
     ·
      obtain ⟨-, hst, -⟩ := hle
      obtain ⟨p109, q110, f111⟩ := ht 25 rfl
      refine StepOp_g rfl (ht 22 rfl) (op_loadP ty22 q110 f111 rfl ?_)
      intro v112 h113
      obtain ⟨a_y114, c_y114, rfl, f_y114⟩ := un_sl h113
      exact Goes.same hi (show Vr.vd (vC (rSl (rInt .i64))) _ _ _ _ from (mkC (mk_sl f_y114)))
     refine Dw_eq (Value.slice a_l l.length c_l) (fun ρ115 w116 g hle hi ht => ?_) ?_
     ·
      obtain ⟨-, hst, -⟩ := hle
      refine StepOp_g rfl (ht 22 rfl) (op_move (v := (Value.slice a_l l.length c_l)) (ht 0 rfl) ?_)
      exact Goes.same hi rfl
     refine Dw_eq (Value.int .i64 at_) (fun ρ118 w119 g hle hi ht => ?_) ?_
     ·
      obtain ⟨-, hst, -⟩ := hle
      refine StepOp_g rfl (ht 22 rfl) (op_move (v := (Value.int .i64 at_)) (ht 1 rfl) ?_)
      exact Goes.same hi rfl
     replace hm := ck_some hm; obtain ⟨hc124, hm⟩ := hm
     refine Dw_op (VP O [] (rSl (rInt .i64)) (l.getD at_.toNat default)) (VP.stab _ _) (fun ρ121 w122 g hle hi ht => ?_) ?_
     ·
      obtain ⟨-, hst, -⟩ := hle
      replace f_l := f_l.step hst
      refine StepOp_g rfl (ht 22 rfl) (op_indexAddr (q := (rSl (rInt .i64))) ty33 ty22 (ht 27 rfl) (ht 28 rfl) f_l rfl hc124.1 hc124.2 ?_)
      intro p125 f126
      exact Goes.same hi ⟨_, rfl, f126⟩
     refine Dw_op (VD O [] (vC (rSl (rInt .i64))) (l.getD at_.toNat default)) (VD.stab _ _) (fun ρ127 w128 g hle hi ht => ?_) ?_
     ·
      obtain ⟨-, hst, -⟩ := hle
      obtain ⟨p130, q131, f132⟩ := ht 29 rfl
      refine StepOp_g rfl (ht 22 rfl) (op_loadP ty22 q131 f132 rfl ?_)
      intro v133 h134
      obtain ⟨a_y135, c_y135, rfl, f_y135⟩ := un_sl h134
      exact Goes.same hi (show Vr.vd (vC (rSl (rInt .i64))) _ _ _ _ from (mkC (mk_sl f_y135)))
     refine Dw_nil fun w140 g141 hl142 hi143 => ?_
     obtain ⟨-, hst144, -⟩ := hl142
     obtain ⟨hs146, p145⟩ := Step.nx hi143
     rintro v147 h148
     replace h148 : Vr.vd (vC (rSl (rInt .i64))) _ _ _ _ := h148
     obtain ⟨a_y149, c_y149, rfl, f_y149⟩ := un_sl h148
     rintro _ ⟨p150, rfl, f151⟩
     rintro _ rfl
     rintro _ rfl
     rintro v152 h153
     replace h153 : Vr.vd (vC (rSl (rInt .i64))) _ _ _ _ := h153
     obtain ⟨a_y154, c_y154, rfl, f_y154⟩ := un_sl h153
     rintro _ ⟨p155, rfl, f156⟩
     rintro _ rfl
     rintro _ rfl
     rintro _ rfl
     rintro _ rfl
     rintro v157 h158
     replace h158 : Vr.vd (vI .i64) _ _ _ _ := h158
     obtain ⟨rfl, r_y159⟩ := h158
     rintro v160 h161
     replace h161 : Vr.vd (vC (rSl (rInt .i64))) _ _ _ _ := h161
     obtain ⟨a_y162, c_y162, rfl, f_y162⟩ := un_sl h161
     rintro _ ⟨p163, rfl, f164⟩
     rintro _ rfl
     rintro _ rfl
     rintro v165 h166
     replace h166 : Vr.vd (vC (rSl (rInt .i64))) _ _ _ _ := h166
     obtain ⟨a_y167, c_y167, rfl, f_y167⟩ := un_sl h166
     rintro _ ⟨p168, rfl, f169⟩
     rintro _ rfl
     rintro _ rfl
     have p170 : Step (ks [] O) w7 (ks [] O) w140 := hst144.trans p145
     replace f_y149 := f_y149.step p145; replace f151 := f151.step p145; replace f_y154 := f_y154.step p145; replace f156 := f156.step p145; replace f_y162 := f_y162.step p145; replace f164 := f164.step p145; replace f_y167 := f_y167.step p145; replace f169 := f169.step p145; replace f_l := f_l.step p170; replace ch12 := ch12.trans p170; replace ch26 := ch26.trans p170; clear p170 hs8
     replace hm := bd hm; obtain ⟨isbelow_1, hv171, hm⟩ := hm
     refine Rg_opg rfl rfl rfl (op_call Try.call33 (c33_overflightref06_IsBelow (a := (l.getD i_1.toNat default)) (b := (l.getD at_.toNat default)) hs146.ltw f_y154 f_y149 hv171) rfl ?_)
     rintro v172 w173 ⟨hx174, h175⟩
     have hs176 := hs146.call hx174
     have p177 := Step.ext (O := ks [] O) hx174
     clear hx174
     replace f_l := f_l.step p177; replace f_y149 := f_y149.step p177; replace f151 := f151.step p177; replace f_y154 := f_y154.step p177; replace f156 := f156.step p177; replace f_y162 := f_y162.step p177; replace f164 := f164.step p177; replace f_y167 := f_y167.step p177; replace f169 := f169.step p177; replace ch12 := ch12.trans p177; replace ch26 := ch26.trans p177; clear p177 hs146
     obtain rfl := h175
     refine Rg_op rfl (op_pick_t (v := (Value.bool isbelow_1)) rfl rfl ?_)
     refine Rg_nil ?_
     exact hK19 _ _ ⟨isbelow_1, _, rfl, ⟨(by repeat (first | with_reducible exact Out.refl _ _ | refine Out.upd ?_ rfl | refine Out.updL ?_ rfl | refine Out.mix' ?_ rfl | exact Out.refl _ _)), rfl, rfl, trivial⟩, ch26, hs176, hm⟩
    ·
     replace hm := bif_f hm hg93
     refine Dw_skip (fun _ _ _ ht => wanted_x rfl (ht 22 rfl) rfl) ?_
     refine Dw_skip (fun _ _ _ ht => wanted_x rfl (ht 22 rfl) rfl) ?_
     refine Dw_skip (fun _ _ _ ht => wanted_x rfl (ht 22 rfl) rfl) ?_
     refine Dw_skip (fun _ _ _ ht => wanted_x rfl (ht 22 rfl) rfl) ?_
     refine Dw_skip (fun _ _ _ ht => wanted_x rfl (ht 22 rfl) rfl) ?_
     refine Dw_skip (fun _ _ _ ht => wanted_x rfl (ht 22 rfl) rfl) ?_
     refine Dw_skip (fun _ _ _ ht => wanted_x rfl (ht 22 rfl) rfl) ?_
     refine Dw_skip (fun _ _ _ ht => wanted_x rfl (ht 22 rfl) rfl) ?_
     refine Dw_nil fun w183 g184 hl185 hi186 => ?_
     obtain ⟨-, hst187, -⟩ := hl185
     obtain ⟨hs189, p188⟩ := Step.nx hi186
     rintro _ rfl
     rintro _ rfl
     rintro _ rfl
     rintro _ rfl
     rintro _ rfl
     rintro _ rfl
     rintro _ rfl
     rintro _ rfl
     rintro _ rfl
     rintro _ rfl
     rintro v190 h191
     replace h191 : Vr.vd (vI .i64) _ _ _ _ := h191
     obtain ⟨rfl, r_y192⟩ := h191
     rintro v193 h194
     replace h194 : Vr.vd (vC (rSl (rInt .i64))) _ _ _ _ := h194
     obtain ⟨a_y195, c_y195, rfl, f_y195⟩ := un_sl h194
     rintro _ ⟨p196, rfl, f197⟩
     rintro _ rfl
     rintro _ rfl
     rintro v198 h199
     replace h199 : Vr.vd (vC (rSl (rInt .i64))) _ _ _ _ := h199
     obtain ⟨a_y200, c_y200, rfl, f_y200⟩ := un_sl h199
     rintro _ ⟨p201, rfl, f202⟩
     rintro _ rfl
     rintro _ rfl
     have p203 : Step (ks [] O) w7 (ks [] O) w183 := hst187.trans p188
     replace f_y195 := f_y195.step p188; replace f197 := f197.step p188; replace f_y200 := f_y200.step p188; replace f202 := f202.step p188; replace f_l := f_l.step p203; replace ch12 := ch12.trans p203; replace ch26 := ch26.trans p203; clear p203 hs8
     refine Rg_opx rfl (asB_ne rfl rfl) rfl ?_
     refine Rg_op rfl (op_pick_f (v := (Value.bool false)) rfl rfl ?_)
     refine Rg_nil ?_
     exact hK19 _ _ ⟨false, _, rfl, ⟨(by repeat (first | with_reducible exact Out.refl _ _ | refine Out.upd ?_ rfl | refine Out.updL ?_ rfl | refine Out.mix' ?_ rfl | exact Out.refl _ _)), rfl, rfl, trivial⟩, ch26, hs189, hm⟩
  ·
   replace hm := bif_f hm hc14
   refine Wp_exit ?_
   refine Wp_seq ?_
   clear f_l
   refine Wp_region ?_
   refine Rg_op rfl (op_assign (v := (Value.bool true)) rfl ?_)
   refine Rg_nil ?_
   refine Wp_ret ?_
   have hz := step_all hs8
   refine ⟨_, (show Closes [] _ _ from rfl), [(Value.bool true)], ⟨rfl, trivial⟩, hs8.ext, ?_⟩
   exact Vr.eq (a := vB) (x := true) rfl (Option.some.inj hm)

end Go.Fx



set_option linter.unusedVariables false
set_option linter.unusedSimpArgs false
set_option maxRecDepth 100000
set_option maxHeartbeats 0
namespace Go.Fx
open Go Go.RowKit Go.Proofs
def m54_overflightref06_insert_B0 (l : List (List Int)) (a : List Int) (k3 : Int → Option (List (List Int))) (sf156 : Int → Option (List (List Int))) (n_2 : Int) : Option (List (List Int)) :=
 jn (fun (v_2 : Bool) =>
  bif v_2 then
   sf156 (IntKind.wrap .i64 (n_2 + 1))
  else
   k3 n_2)
 (fun k168 =>
  bif (decide (n_2 < (l.length : Int))) then
   ck ((0 : Int) ≤ n_2 ∧ n_2 < (l.length : Int)) <|
   (m35_overflightref06_Order (l.getD n_2.toNat default) a).bind fun order_2 =>
   k168 (decide (order_2 < 0))
  else
   k168 false)

def m54_overflightref06_insert (l : List (List Int)) (a : List Int) : Option (List (List Int)) :=
 jn (fun (n_1 : Int) =>
  jn (fun (v_1 : Bool) =>
   bif v_1 then
    some l
   else
    ck ((0 : Int) ≤ n_1 ∧ n_1 ≤ (l.length : Int)) <|
    ck ((([] : List (List Int)).length + ((l.drop 0).take (n_1.toNat - 0)).length) * 24 ≤ 140737488355328) <|
    ck (((([] : List (List Int)) ++ ((l.drop 0).take (n_1.toNat - 0))).length + [a].length) * 24 ≤ 140737488355328) <|
    ck ((0 : Int) ≤ n_1 ∧ n_1 ≤ (l.length : Int)) <|
    ck ((((([] : List (List Int)) ++ ((l.drop 0).take (n_1.toNat - 0))) ++ [a]).length + ((l.drop n_1.toNat).take (l.length - n_1.toNat)).length) * 24 ≤ 140737488355328) <|
    some (((([] : List (List Int)) ++ ((l.drop 0).take (n_1.toNat - 0))) ++ [a]) ++ ((l.drop n_1.toNat).take (l.length - n_1.toNat))))
  (fun k13 =>
   bif (decide (n_1 < (l.length : Int))) then
    ck ((0 : Int) ≤ n_1 ∧ n_1 < (l.length : Int)) <|
    (m35_overflightref06_Order (l.getD n_1.toNat default) a).bind fun order_1 =>
    k13 (decide (order_1 = 0))
   else
    k13 false))
 (fun k3 =>
  loop1 (m54_overflightref06_insert_B0 l a k3) (1000000) 0)

theorem c54_overflightref06_insert {w : World} {O : List Nat} {l : List (List Int)} {a : List Int} {a_l : Option Addr} {c_l : Nat} {a_a : Option Addr} {c_a : Nat} (hO : ∀ k ∈ O, k < w.heap.size) (f_l : SlR (rSl (rInt .i64)) w O a_l c_l l) (f_a : SlR (rInt .i64) w O a_a c_a a) {x : (List (List Int))} (hm : m54_overflightref06_insert l a = some x) :
  Ok Try.prog 54 [(Value.slice a_l l.length c_l), (Value.slice a_a a.length c_a)] w O (vC (rSl (rSl (rInt .i64)))) x := by
 unfold m54_overflightref06_insert at hm
 refine Fn_of_Wp (n := 47) (xs := [.tmp 4]) Try.func54 rfl Try.ntmps54 Try.results54 rfl ?_
 have hs := St.start hO
 refine Wp_seq ?_
 refine Wp_region ?_
 refine Rg_op rfl (op_assign (v := (Value.slice none 0 0)) rfl ?_)
 refine Rg_nil ?_
 refine Wp_seq ?_
 refine Wp_region ?_
 refine Rg_op rfl (op_assign (v := (Value.int .i64 0)) rfl ?_)
 refine Rg_nil ?_
 refine Wp_reset [] [(0, (Value.slice a_l l.length c_l)), (1, (Value.slice a_a a.length c_a)), (5, (Value.int .i64 0))] rfl ⟨rfl, rfl, rfl, trivial⟩ fun ξ1 => ?_
 replace hm := jn_elim hm; obtain ⟨k3, hk4, hm⟩ := hm
 refine Wp_seqJ [5, 6, 7, 8, 9, 10, 11, 12, 13, 14, 15, 16, 17, 18, 19, 20] (fun fr w' => ∃ (n_1 : Int) (Ebs : Ents), Ebs = [] ∧ fr [] [(5, (Value.int .i64 n_1))] ∧ Step (ks [] O) w (ks Ebs O) w' ∧ St ⟨w, [], []⟩ O w' Ebs ∧ InK .i64 n_1 ∧ k3 n_1 = some x) ?_ ?_
 ·
  rintro ρ10 w6 ⟨n_1, Ebs, hEbs, hfr9, hst8, hs7, r_y2, hm⟩
  replace hm := jnE1 hk4 hm
  subst hEbs; rw [hfr9.eq]; clear hfr9
  replace f_l := f_l.step hst8; replace f_a := f_a.step hst8; clear hst8
  refine Wp_seq ?_
  refine Wp_reset [] [(0, (Value.slice a_l l.length c_l)), (1, (Value.slice a_a a.length c_a)), (5, (Value.int .i64 n_1))] rfl ⟨rfl, rfl, rfl, trivial⟩ fun ξ11 => ?_
  replace hm := jn_elim hm; obtain ⟨k13, hk14, hm⟩ := hm
  refine Wp_seqJ [21, 22, 23, 24, 25, 26, 27, 28, 29, 30, 31, 32, 33] (fun fr w' => ∃ (v_1 : Bool) (Ebs : Ents), Ebs = [] ∧ fr [] [(33, (Value.bool v_1))] ∧ Step (ks [] O) w6 (ks Ebs O) w' ∧ St ⟨w, [], []⟩ O w' Ebs ∧ k13 v_1 = some x) ?_ ?_
  ·
   rintro ρ20 w16 ⟨v_1, Ebs, hEbs, hfr19, hst18, hs17, hm⟩
   replace hm := jnE1 hk14 hm
   subst hEbs; rw [hfr19.eq]; clear hfr19
   replace f_l := f_l.step hst18; replace f_a := f_a.step hst18; clear hst18 hs7
   refine Wp_cond rfl (fun hc21 => ?_) (fun hc21 => ?_)
   ·
    replace hm := bif_t hm hc21
    refine Wp_seq ?_
    clear f_a
    refine Wp_region ?_
    refine Rg_op rfl (op_move (v := (Value.slice a_l l.length c_l)) rfl ?_)
    refine Rg_op rfl (op_assign (v := (Value.slice a_l l.length c_l)) rfl ?_)
    refine Rg_nil ?_
    refine Wp_ret ?_
    have hz := step_all hs17
    replace f_l := f_l.step hz
    refine ⟨_, (show Closes [] _ _ from rfl), [(Value.slice a_l l.length c_l)], ⟨rfl, trivial⟩, hs17.ext, ?_⟩
    exact Vr.eq (a := (vC (rSl (rSl (rInt .i64))))) (x := l) (mkC (mk_sl f_l)) (Option.some.inj hm)
   ·
    replace hm := bif_f hm hc21
    refine Wp_skip ?_
    refine Wp_seq ?_
    refine Wp_drawR (g0 := ([], [])) (m := 11) (fl := []) (TX_inv (eat := (fun t : Nat => if t = 0 then 4 else if t = 4 then 7 else 1000)) hs17) rfl (.inl rfl) rfl (by decide +kernel) ?_  -- 6
    refine Dw_opN (XG O [] (fun t : Nat => if t = 0 then 4 else if t = 4 then 7 else 1000) 0 (rSl (rInt .i64)) 22 ([] : List (List Int))) (XG.stab _ _ _ _) (fun ρ22 w23 g hle hi hk ht => ?_) ?_
    ·
     obtain ⟨-, hst, -⟩ := hle
     obtain ⟨hi, hi2⟩ := hi
     replace f_l := f_l.step hst; replace f_a := f_a.step hst
     refine StepOp_plain (op_buildSlice (cs := []) (parts := []) ty33 ty22 hi (by decide) (by simp only [List.map]; rfl) ?_)
     intro b25 w26 hx29 p27 hs28
     replace f_l := f_l.step p27; replace f_a := f_a.step p27
     exact GoesX.own (xs := ([] : List (List Int))) hi2 p27 hs28 (Gs.of_cells (p := (rSl (rInt .i64))) (e := 22) (bl := b25) (c := 0) (show Els (rSl (rInt .i64)) _ _ [] [] from Els.nil) rfl (le_lit rfl)) rfl
    refine Dw_eq (Value.slice a_l l.length c_l) (fun ρ32 w33 g hle hi ht => ?_) ?_
    ·
     obtain ⟨-, hst, -⟩ := hle
     obtain ⟨hi, hi2⟩ := hi
     refine StepOp_plain (op_move (v := (Value.slice a_l l.length c_l)) (ht 0 rfl) ?_)
     exact GoesX.same hi hi2 rfl
    refine Dw_eq (Value.int .i64 n_1) (fun ρ35 w36 g hle hi ht => ?_) ?_
    ·
     obtain ⟨-, hst, -⟩ := hle
     obtain ⟨hi, hi2⟩ := hi
     refine StepOp_plain (op_move (v := (Value.int .i64 n_1)) (ht 5 rfl) ?_)
     exact GoesX.same hi hi2 rfl
    replace hm := ck_some hm; obtain ⟨hc41, hm⟩ := hm
    refine Dw_op (XD O [] (vC (rSl (rSl (rInt .i64)))) ((l.drop 0).take (n_1.toNat - 0))) (XD.stab _ _) (fun ρ38 w39 g hle hi ht => ?_) ?_
    ·
     obtain ⟨-, hst, -⟩ := hle
     obtain ⟨hi, hi2⟩ := hi
     replace f_l := f_l.step hst
     refine StepOp_plain (op_slice (q := (rSl (rInt .i64))) (l := 0) (h := n_1.toNat) (m := c_l) ty33 ty22 (ht 36 rfl) f_l rfl rfl (bndI (ht 37 rfl) (by omega)) rfl (by decide) (by omega) (by omega) (by have h_ : l.length ≤ c_l := f_l.le; omega) (by have h_ : l.length ≤ c_l := f_l.le; omega) ?_)
     intro a42 f43
     exact GoesX.same hi hi2 (show Vr.vd (vC (rSl (rSl (rInt .i64)))) _ _ _ _ from (mkC (mk_sl f43)))
    replace hm := ck_some hm; obtain ⟨hc50, hm⟩ := hm
    refine Dw_opN (XG O [] (fun t : Nat => if t = 0 then 4 else if t = 4 then 7 else 1000) 4 (rSl (rInt .i64)) 22 (([] : List (List Int)) ++ ((l.drop 0).take (n_1.toNat - 0)))) (XG.stab _ _ _ _) (fun ρ44 w45 g hle hi hk ht => ?_) ?_
    ·
     obtain ⟨-, hst, -⟩ := hle
     obtain ⟨hi, hi2⟩ := hi
     have h47 : Vr.vd (vC (rSl (rSl (rInt .i64)))) _ _ _ _ := ht 38 rfl
     obtain ⟨a_y49, c_y49, q48, f_y49⟩ := un_sl h47
     obtain ⟨ns51, he52, hr53⟩ := f_y49.src
     refine StepOp_plain (op_appendX (q := (rSl (rInt .i64))) (xs := ([] : List (List Int))) (ys := ((l.drop 0).take (n_1.toNat - 0))) (news := ns51) (tag := 0) ty33 ty22 rfl (by decide) hi hi2 hk rfl (le_lit rfl) (ht 35 rfl) q48 hr53 he52 hc50 (by have := hc50; simp only [maxLen]; omega))
    refine Dw_eq (Value.slice a_a a.length c_a) (fun ρ54 w55 g hle hi ht => ?_) ?_
    ·
     obtain ⟨-, hst, -⟩ := hle
     obtain ⟨hi, hi2⟩ := hi
     refine StepOp_plain (op_move (v := (Value.slice a_a a.length c_a)) (ht 1 rfl) ?_)
     exact GoesX.same hi hi2 rfl
    refine Dw_op (XD O [] (vC (rSl (rSl (rInt .i64)))) [a]) (XD.stab _ _) (fun ρ57 w58 g hle hi ht => ?_) ?_
    ·
     obtain ⟨-, hst, -⟩ := hle
     obtain ⟨hi, hi2⟩ := hi
     replace f_l := f_l.step hst; replace f_a := f_a.step hst
     refine StepOp_plain (op_buildSlice (cs := [(Value.slice a_a a.length c_a)]) (parts := [(0, .tmp 40)]) ty33 ty22 hi (by decide) (by simp only [List.map, (show ev _ (.tmp 40) = _ from (ht 40 rfl))]; rfl) ?_)
     intro b60 w61 hx64 p62 hs63
     replace f_l := f_l.step p62; replace f_a := f_a.step p62
     obtain ⟨hs66, p67, f68⟩ := St.publish (q := (rSl (rInt .i64))) (i := 0) (o := 0) (c := 1) (xs := [a]) hs63 rfl (show Els (rSl (rInt .i64)) _ _ [(Value.slice a_a a.length c_a)] [a] from ⟨_, _, rfl, (mk_sl f_a), Els.nil⟩) (le_lit rfl) (le_lit rfl) (le_lit rfl)
     exact GoesX.pub hi hi2 hs66 (Step.trans p62 p67) hx64 (show Vr.vd (vC (rSl (rSl (rInt .i64)))) _ _ _ _ from mkC (mk_sl f68))
    replace hm := ck_some hm; obtain ⟨hc75, hm⟩ := hm
    refine Dw_opN (XG O [] (fun t : Nat => if t = 0 then 4 else if t = 4 then 7 else 1000) 7 (rSl (rInt .i64)) 22 ((([] : List (List Int)) ++ ((l.drop 0).take (n_1.toNat - 0))) ++ [a])) (XG.stab _ _ _ _) (fun ρ69 w70 g hle hi hk ht => ?_) ?_
    ·
     obtain ⟨-, hst, -⟩ := hle
     obtain ⟨hi, hi2⟩ := hi
     have h72 : Vr.vd (vC (rSl (rSl (rInt .i64)))) _ _ _ _ := ht 41 rfl
     obtain ⟨a_y74, c_y74, q73, f_y74⟩ := un_sl h72
     obtain ⟨ns76, he77, hr78⟩ := f_y74.src
     refine StepOp_plain (op_appendX (q := (rSl (rInt .i64))) (xs := (([] : List (List Int)) ++ ((l.drop 0).take (n_1.toNat - 0)))) (ys := [a]) (news := ns76) (tag := 4) ty33 ty22 rfl (by decide) hi hi2 hk rfl (le_lit rfl) (ht 39 rfl) q73 hr78 he77 hc75 (by have := hc75; simp only [maxLen]; omega))
    refine Dw_eq (Value.slice a_l l.length c_l) (fun ρ79 w80 g hle hi ht => ?_) ?_
    ·
     obtain ⟨-, hst, -⟩ := hle
     obtain ⟨hi, hi2⟩ := hi
     refine StepOp_plain (op_move (v := (Value.slice a_l l.length c_l)) (ht 0 rfl) ?_)
     exact GoesX.same hi hi2 rfl
    refine Dw_eq (Value.int .i64 n_1) (fun ρ82 w83 g hle hi ht => ?_) ?_
    ·
     obtain ⟨-, hst, -⟩ := hle
     obtain ⟨hi, hi2⟩ := hi
     refine StepOp_plain (op_move (v := (Value.int .i64 n_1)) (ht 5 rfl) ?_)
     exact GoesX.same hi hi2 rfl
    replace hm := ck_some hm; obtain ⟨hc88, hm⟩ := hm
    refine Dw_op (XD O [] (vC (rSl (rSl (rInt .i64)))) ((l.drop n_1.toNat).take (l.length - n_1.toNat))) (XD.stab _ _) (fun ρ85 w86 g hle hi ht => ?_) ?_
    ·
     obtain ⟨-, hst, -⟩ := hle
     obtain ⟨hi, hi2⟩ := hi
     replace f_l := f_l.step hst
     refine StepOp_plain (op_slice (q := (rSl (rInt .i64))) (l := n_1.toNat) (h := l.length) (m := c_l) ty33 ty22 (ht 43 rfl) f_l rfl (bndI (ht 44 rfl) (by omega)) rfl rfl (by decide) (by omega) (by omega) (by have h_ : l.length ≤ c_l := f_l.le; omega) (by have h_ : l.length ≤ c_l := f_l.le; omega) ?_)
     intro a89 f90
     exact GoesX.same hi hi2 (show Vr.vd (vC (rSl (rSl (rInt .i64)))) _ _ _ _ from (mkC (mk_sl f90)))
    refine Dw_nil fun w95 g96 hl97 hi98 => ?_
    obtain ⟨-, hst99, -⟩ := hl97
    obtain ⟨hi98, hi102⟩ := hi98
    rintro v103 h104
    replace h104 : Vr.vd (vC (rSl (rSl (rInt .i64)))) _ _ _ _ := h104
    obtain ⟨a_y105, c_y105, rfl, f_y105⟩ := un_sl h104
    rintro _ rfl
    rintro _ rfl
    rintro v106 hm111
    obtain ⟨a107, c108, k109, o110, rfl, hm111, f112⟩ := hm111.resolve_left (fun h => absurd (hi102 _ h) (by decide))
    rintro v114 h115
    replace h115 : Vr.vd (vC (rSl (rSl (rInt .i64)))) _ _ _ _ := h115
    obtain ⟨a_y116, c_y116, rfl, f_y116⟩ := un_sl h115
    rintro _ rfl
    rintro _ -
    rintro v117 h118
    replace h118 : Vr.vd (vC (rSl (rSl (rInt .i64)))) _ _ _ _ := h118
    obtain ⟨a_y119, c_y119, rfl, f_y119⟩ := un_sl h118
    rintro _ rfl
    rintro _ rfl
    rintro _ -
    obtain ⟨hs101, p100⟩ := Step.nxX1 hi98 hm111; clear hm111
    have p120 : Step (ks [] O) w16 (ks [(k109, o110)] O) w95 := hst99.trans p100
    replace f_y105 := f_y105.step p100; replace f112 := f112.step p100; replace f_y116 := f_y116.step p100; replace f_y119 := f_y119.step p100; replace f_l := f_l.step p120; replace f_a := f_a.step p120; clear p120 hs17
    replace hm := ck_some hm; obtain ⟨hc121, hm⟩ := hm
    obtain ⟨ns122, he123, hr124⟩ := f_y105.src
    refine Rg_op rfl (op_append (q := (rSl (rInt .i64))) (i := 0) (xs := ((([] : List (List Int)) ++ ((l.drop 0).take (n_1.toNat - 0))) ++ [a])) (ys := ((l.drop n_1.toNat).take (l.length - n_1.toNat))) (news := ns122) ty33 ty22 rfl (by decide) hs101 rfl rfl f112 rfl hr124 he123 hc121 (by have := hc121; simp only [maxLen]; omega) ?_)
    intro a128 c129 k130 o131 w125 p126 hs127 f132
    replace f_l := f_l.step p126; replace f_a := f_a.step p126; replace f_y105 := f_y105.step p126; replace f_y116 := f_y116.step p126; replace f_y119 := f_y119.step p126; clear p126 hs101
    refine Rg_op rfl (op_assign (v := (Value.slice a128 (((([] : List (List Int)) ++ ((l.drop 0).take (n_1.toNat - 0))) ++ [a]) ++ ((l.drop n_1.toNat).take (l.length - n_1.toNat))).length c129)) rfl ?_)
    refine Rg_nil ?_
    refine Wp_ret ?_
    obtain ⟨hs134, p135, f133⟩ := Gs.publish (i := 0) hs127 rfl f132
    replace f_l := f_l.step p135; replace f_a := f_a.step p135; replace f_y105 := f_y105.step p135; replace f_y116 := f_y116.step p135; replace f_y119 := f_y119.step p135; clear p135 hs127
    have hz := step_all hs134
    replace f_l := f_l.step hz; replace f_a := f_a.step hz; replace f_y105 := f_y105.step hz; replace f_y116 := f_y116.step hz; replace f_y119 := f_y119.step hz; replace f133 := f133.step hz
    refine ⟨_, (show Closes [] _ _ from rfl), [(Value.slice a128 (((([] : List (List Int)) ++ ((l.drop 0).take (n_1.toNat - 0))) ++ [a]) ++ ((l.drop n_1.toNat).take (l.length - n_1.toNat))).length c129)], ⟨rfl, trivial⟩, hs134.ext, ?_⟩
    exact Vr.eq (a := (vC (rSl (rSl (rInt .i64))))) (x := (((([] : List (List Int)) ++ ((l.drop 0).take (n_1.toNat - 0))) ++ [a]) ++ ((l.drop n_1.toNat).take (l.length - n_1.toNat)))) (mkC (mk_sl f133)) (Option.some.inj hm)
  ·
   intro K15 hK15
   have ch136 := Step.refl (ks [] O) w6
   refine Wp_region ?_
   refine Rg_op rfl (op_move (v := (Value.int .i64 n_1)) rfl ?_)
   refine Rg_op rfl (op_move (v := (Value.slice a_l l.length c_l)) rfl ?_)
   refine Rg_op rfl (op_len Try.underlying33 rfl ?_)
   have rl137 := inK_len f_l
   refine Rg_op rfl (op_lss rfl rfl ?_)
   refine Rg_op rfl (op_move (v := (Value.bool (decide (n_1 < (l.length : Int))))) rfl ?_)
   refine Rg_case (fun hg138 => ?_) (fun hg138 => ?_)
   ·
    replace hm := bif_t hm hg138
    refine Rg_opg rfl rfl rfl (op_move (v := (Value.slice a_l l.length c_l)) rfl ?_)
    refine Rg_opg rfl rfl rfl (op_move (v := (Value.int .i64 n_1)) rfl ?_)
    replace hm := ck_some hm; obtain ⟨hc139, hm⟩ := hm
    refine Rg_opg rfl rfl rfl (op_indexAddr (q := (rSl (rInt .i64))) ty33 ty22 rfl rfl f_l rfl hc139.1 hc139.2 ?_)
    intro p140 f141
    refine Rg_opg rfl rfl rfl (op_loadP ty22 rfl f141 rfl ?_)
    intro v142 h143
    obtain ⟨a_y144, c_y144, rfl, f_y144⟩ := un_sl h143
    refine Rg_opg rfl rfl rfl (op_move (v := (Value.slice a_a a.length c_a)) rfl ?_)
    replace hm := bd hm; obtain ⟨order_1, hv145, hm⟩ := hm
    refine Rg_opg rfl rfl rfl (op_call Try.call35 (c35_overflightref06_Order (a := (l.getD n_1.toNat default)) (b := a) hs7.ltw f_y144 f_a hv145) rfl ?_)
    rintro v146 w147 ⟨hx148, h149⟩
    have hs150 := hs7.call hx148
    have p151 := Step.ext (O := ks [] O) hx148
    clear hx148
    replace f_l := f_l.step p151; replace f_a := f_a.step p151; replace f141 := f141.step p151; replace f_y144 := f_y144.step p151; replace ch136 := ch136.trans p151; clear p151 hs7
    obtain ⟨rfl, r_y152⟩ := h149
    refine Rg_opg rfl rfl rfl (op_eql rfl rfl ?_)
    refine Rg_op rfl (op_pick_t (v := (Value.bool (decide (order_1 = 0)))) rfl rfl ?_)
    refine Rg_nil ?_
    exact hK15 _ _ ⟨(decide (order_1 = 0)), _, rfl, ⟨(by repeat (first | with_reducible exact Out.refl _ _ | refine Out.upd ?_ rfl | refine Out.updL ?_ rfl | refine Out.mix' ?_ rfl | exact Out.refl _ _)), rfl, rfl, trivial⟩, ch136, hs150, hm⟩
   ·
    replace hm := bif_f hm hg138
    iterate 7 refine Rg_opx rfl (asB_ne rfl rfl) rfl ?_
    refine Rg_op rfl (op_pick_f (v := (Value.bool false)) rfl rfl ?_)
    refine Rg_nil ?_
    exact hK15 _ _ ⟨false, _, rfl, ⟨(by repeat (first | with_reducible exact Out.refl _ _ | refine Out.upd ?_ rfl | refine Out.updL ?_ rfl | refine Out.mix' ?_ rfl | exact Out.refl _ _)), rfl, rfl, trivial⟩, ch136, hs7, hm⟩
 ·
  intro K5 hK5
  have ch153 := Step.refl (ks [] O) w
  refine Wp_block ?_
  refine Wp_reset2 [5, 6, 7, 8, 9, 10, 11, 12, 13, 14, 15, 16, 17, 18, 19, 20] [] (updL ⟨ξ1, []⟩ [(0, (Value.slice a_l l.length c_l)), (1, (Value.slice a_a a.length c_a)), (5, (Value.int .i64 0))]) [(5, (Value.int .i64 0))] (by repeat (first | with_reducible exact Out.refl _ _ | refine Out.upd ?_ rfl | refine Out.updL ?_ rfl | refine Out.mix' ?_ rfl | exact Out.refl _ _)) rfl ⟨rfl, trivial⟩ fun ξ155 => ?_
  refine Wp_loopM [5, 6, 7, 8, 9, 10, 11, 12, 13, 14, 15, 16, 17, 18, 19, 20] (fun m fr w' => ∃ (n_2 : Int) (Ebs : Ents), Ebs = [] ∧ fr [] [(5, (Value.int .i64 n_2))] ∧ Step (ks [] O) w (ks Ebs O) w' ∧ St ⟨w, [], []⟩ O w' Ebs ∧ InK .i64 n_2 ∧ loop1 (m54_overflightref06_insert_B0 l a k3) m n_2 = some x) (1000000) ⟨0, _, rfl, ⟨Out.refl _ _, rfl, rfl, trivial⟩, Step.refl _ _, hs, (show InK .i64 0 from by decide), hm⟩ ?_ ?_
  · rintro _ _ ⟨_, _, _, _, _, _, _, hm⟩; exact loop1_z hm
  ·
   rintro m159 K158 hK158 ρ164 w160 ⟨n_2, Ebs, hEbs, hfr163, hst162, hs161, r_y154, hm⟩
   obtain ⟨sf156, hsf157, hm⟩ := loop1_s hm; unfold m54_overflightref06_insert_B0 at hm
   subst hEbs; rw [hfr163.eq]; clear hfr163
   replace f_l := f_l.step hst162; replace f_a := f_a.step hst162; replace ch153 := ch153.trans hst162
   have ch165 := hst162
   refine Wp_seq ?_
   refine Wp_reset2 [5, 6, 7, 8, 9, 10, 11, 12, 13, 14, 15, 16, 17, 18, 19, 20] [] (updL (mix [5, 6, 7, 8, 9, 10, 11, 12, 13, 14, 15, 16, 17, 18, 19, 20] [] ξ155 (updL ⟨ξ1, []⟩ [(0, (Value.slice a_l l.length c_l)), (1, (Value.slice a_a a.length c_a)), (5, (Value.int .i64 0))])) [(5, (Value.int .i64 0))]) [(5, (Value.int .i64 n_2))] (by repeat (first | with_reducible exact Out.refl _ _ | refine Out.upd ?_ rfl | refine Out.updL ?_ rfl | refine Out.mix' ?_ rfl | exact Out.refl _ _)) rfl ⟨rfl, trivial⟩ fun ξ166 => ?_
   replace hm := jn_elim hm; obtain ⟨k168, hk169, hm⟩ := hm
   refine Wp_seqJ [6, 7, 8, 9, 10, 11, 12, 13, 14, 15, 16, 17, 18] (fun fr w' => ∃ (v_2 : Bool) (Ebs : Ents), Ebs = [] ∧ fr [] [(18, (Value.bool v_2))] ∧ Step (ks [] O) w160 (ks Ebs O) w' ∧ St ⟨w, [], []⟩ O w' Ebs ∧ k168 v_2 = some x) ?_ ?_
   ·
    rintro ρ175 w171 ⟨v_2, Ebs, hEbs, hfr174, hst173, hs172, hm⟩
    replace hm := jnE1 hk169 hm
    subst hEbs; rw [hfr174.eq]; clear hfr174
    replace f_l := f_l.step hst173; replace f_a := f_a.step hst173; replace ch153 := ch153.trans hst173; replace ch165 := ch165.trans hst173; clear hst173 hs161
    refine Wp_cond rfl (fun hc176 => ?_) (fun hc176 => ?_)
    ·
     replace hm := bif_t hm hc176
     refine Wp_skip ?_
     refine Wp_block ?_
     refine Wp_region ?_
     refine Rg_op rfl (op_move (v := (Value.int .i64 n_2)) rfl ?_)
     refine Rg_op rfl (op_addw rfl rfl ?_)
     refine Rg_op rfl (op_assign (v := (Value.int .i64 (IntKind.wrap .i64 (n_2 + 1)))) rfl ?_)
     refine Rg_nil ?_
     exact hK158 _ _ ⟨(IntKind.wrap .i64 (n_2 + 1)), _, rfl, ⟨(by repeat (first | with_reducible exact Out.refl _ _ | refine Out.upd ?_ rfl | refine Out.updL ?_ rfl | refine Out.mix' ?_ rfl | exact Out.refl _ _)), rfl, rfl, trivial⟩, ch165, hs172, (inK_wrap .i64 _), jnE1 hsf157 hm⟩
    ·
     replace hm := bif_f hm hc176
     refine Wp_exit ?_
     exact hK5 _ _ ⟨n_2, _, rfl, ⟨(by repeat (first | with_reducible exact Out.refl _ _ | refine Out.upd ?_ rfl | refine Out.updL ?_ rfl | refine Out.mix' ?_ rfl | exact Out.refl _ _)), rfl, rfl, trivial⟩, ch153, hs172, r_y154, hm⟩
   ·
    intro K170 hK170
    have ch177 := Step.refl (ks [] O) w160
    refine Wp_region ?_
    refine Rg_op rfl (op_move (v := (Value.int .i64 n_2)) rfl ?_)
    refine Rg_op rfl (op_move (v := (Value.slice a_l l.length c_l)) rfl ?_)
    refine Rg_op rfl (op_len Try.underlying33 rfl ?_)
    have rl178 := inK_len f_l
    refine Rg_op rfl (op_lss rfl rfl ?_)
    refine Rg_op rfl (op_move (v := (Value.bool (decide (n_2 < (l.length : Int))))) rfl ?_)
    refine Rg_case (fun hg179 => ?_) (fun hg179 => ?_)
    ·
     replace hm := bif_t hm hg179
     refine Rg_opg rfl rfl rfl (op_move (v := (Value.slice a_l l.length c_l)) rfl ?_)
     refine Rg_opg rfl rfl rfl (op_move (v := (Value.int .i64 n_2)) rfl ?_)
     replace hm := ck_some hm; obtain ⟨hc180, hm⟩ := hm
     refine Rg_opg rfl rfl rfl (op_indexAddr (q := (rSl (rInt .i64))) ty33 ty22 rfl rfl f_l rfl hc180.1 hc180.2 ?_)
     intro p181 f182
     refine Rg_opg rfl rfl rfl (op_loadP ty22 rfl f182 rfl ?_)
     intro v183 h184
     obtain ⟨a_y185, c_y185, rfl, f_y185⟩ := un_sl h184
     refine Rg_opg rfl rfl rfl (op_move (v := (Value.slice a_a a.length c_a)) rfl ?_)
     replace hm := bd hm; obtain ⟨order_2, hv186, hm⟩ := hm
     refine Rg_opg rfl rfl rfl (op_call Try.call35 (c35_overflightref06_Order (a := (l.getD n_2.toNat default)) (b := a) hs161.ltw f_y185 f_a hv186) rfl ?_)
     rintro v187 w188 ⟨hx189, h190⟩
     have hs191 := hs161.call hx189
     have p192 := Step.ext (O := ks [] O) hx189
     clear hx189
     replace f_l := f_l.step p192; replace f_a := f_a.step p192; replace f182 := f182.step p192; replace f_y185 := f_y185.step p192; replace ch153 := ch153.trans p192; replace ch165 := ch165.trans p192; replace ch177 := ch177.trans p192; clear p192 hs161
     obtain ⟨rfl, r_y193⟩ := h190
     refine Rg_opg rfl rfl rfl (op_lss rfl rfl ?_)
     refine Rg_op rfl (op_pick_t (v := (Value.bool (decide (order_2 < 0)))) rfl rfl ?_)
     refine Rg_nil ?_
     exact hK170 _ _ ⟨(decide (order_2 < 0)), _, rfl, ⟨(by repeat (first | with_reducible exact Out.refl _ _ | refine Out.upd ?_ rfl | refine Out.updL ?_ rfl | refine Out.mix' ?_ rfl | exact Out.refl _ _)), rfl, rfl, trivial⟩, ch177, hs191, hm⟩
    ·
     replace hm := bif_f hm hg179
     iterate 7 refine Rg_opx rfl (asB_ne rfl rfl) rfl ?_
     refine Rg_op rfl (op_pick_f (v := (Value.bool false)) rfl rfl ?_)
     refine Rg_nil ?_
     exact hK170 _ _ ⟨false, _, rfl, ⟨(by repeat (first | with_reducible exact Out.refl _ _ | refine Out.upd ?_ rfl | refine Out.updL ?_ rfl | refine Out.mix' ?_ rfl | exact Out.refl _ _)), rfl, rfl, trivial⟩, ch177, hs161, hm⟩

end Go.Fx



set_option linter.unusedVariables false
set_option linter.unusedSimpArgs false
set_option maxRecDepth 100000
set_option maxHeartbeats 0
namespace Go.Fx
open Go Go.RowKit Go.Proofs
def m39_overflightref06_least_B0 (l : List (List Int)) (sf10 : (List (List Int)) → Int → Option (List (List Int))) (out_1 : List (List Int)) (i_1 : Int) : Option (List (List Int)) :=
 bif (decide (i_1 < (l.length : Int))) then
  (m53_overflightref06_isLeast l i_1).bind fun isleast_1 =>
  bif isleast_1 then
   ck ((0 : Int) ≤ i_1 ∧ i_1 < (l.length : Int)) <|
   (m54_overflightref06_insert out_1 (l.getD i_1.toNat default)).bind fun insert_1 =>
   sf10 insert_1 (IntKind.wrap .i64 (i_1 + 1))
  else
   sf10 out_1 (IntKind.wrap .i64 (i_1 + 1))
 else
  some out_1

def m39_overflightref06_least (l : List (List Int)) : Option (List (List Int)) :=
 loop2 (m39_overflightref06_least_B0 l) (((l.length : Int) - 0).toNat + 1) [] 0

theorem c39_overflightref06_least {w : World} {O : List Nat} {l : List (List Int)} {a_l : Option Addr} {c_l : Nat} (hO : ∀ k ∈ O, k < w.heap.size) (f_l : SlR (rSl (rInt .i64)) w O a_l c_l l) {x : (List (List Int))} (hm : m39_overflightref06_least l = some x) :
  Ok Try.prog 39 [(Value.slice a_l l.length c_l)] w O (vC (rSl (rSl (rInt .i64)))) x := by
 unfold m39_overflightref06_least at hm
 refine Fn_of_Wp (n := 22) (xs := [.tmp 2]) Try.func39 rfl Try.ntmps39 Try.results39 rfl ?_
 have hs := St.start hO
 refine Wp_seq ?_
 refine Wp_region ?_
 refine Rg_op rfl (op_assign (v := (Value.slice none 0 0)) rfl ?_)
 refine Rg_nil ?_
 refine Wp_seq ?_
 refine Wp_region ?_
 refine Rg_op rfl (op_buildSlice (cs := []) (parts := []) ty33 ty22 hs (by decide) rfl ?_)
 intro b1 w2 hx5 p3 hs4
 replace f_l := f_l.step p3; clear p3
 refine Rg_op rfl (op_assign (v := (Value.slice (some ⟨b1, 0, none⟩) 0 0)) rfl ?_)
 refine Rg_nil ?_
 refine Wp_seq ?_
 refine Wp_seq ?_
 refine Wp_region ?_
 refine Rg_op rfl (op_assign (v := (Value.int .i64 0)) rfl ?_)
 refine Rg_nil ?_
 refine Wp_block ?_
 refine Wp_reset [] [(0, (Value.slice a_l l.length c_l)), (3, (Value.slice (some ⟨b1, 0, none⟩) 0 0)), (4, (Value.int .i64 0))] rfl ⟨rfl, rfl, rfl, trivial⟩ fun ξ9 => ?_
 obtain ⟨hs15, p16, f14⟩ := St.publish (i := 0) (o := 0) (c := 0) (xs := []) hs4 rfl (show Els (rSl (rInt .i64)) _ _ [] [] from Els.nil) (le_lit rfl) (le_lit rfl) (le_lit rfl)
 replace f_l := f_l.step p16; clear p16 hs4
 refine Wp_loopM [3, 4, 6, 7, 8, 9, 10, 11, 12, 13, 14, 15, 16, 17, 18, 19, 20] (fun m fr w' => ∃ (out_1 : List (List Int)) (i_1 : Int) (a_y7 : Option Addr) (c_y7 : Nat) (Ebs : Ents), Ebs = [] ∧ fr [] [(3, (Value.slice a_y7 out_1.length c_y7)), (4, (Value.int .i64 i_1))] ∧ Step (ks [] O) w2 (ks Ebs O) w' ∧ St ⟨w, [], []⟩ O w' Ebs ∧ SlR (rSl (rInt .i64)) w' (ks Ebs O) a_y7 c_y7 out_1 ∧ InK .i64 i_1 ∧ loop2 (m39_overflightref06_least_B0 l) m out_1 i_1 = some x) (((l.length : Int) - 0).toNat + 1) ⟨[], 0, (some ⟨b1, 0, none⟩), 0, _, rfl, ⟨Out.refl _ _, rfl, rfl, rfl, trivial⟩, Step.refl _ _, hs15, f14, (show InK .i64 0 from by decide), hm⟩ ?_ ?_
 · rintro _ _ ⟨_, _, _, _, _, _, _, _, _, _, _, hm⟩; exact loop2_z hm
 ·
  rintro m13 K12 hK12 ρ21 w17 ⟨out_1, i_1, a_y7, c_y7, Ebs, hEbs, hfr20, hst19, hs18, f_y7, r_y8, hm⟩
  obtain ⟨sf10, hsf11, hm⟩ := loop2_s hm; unfold m39_overflightref06_least_B0 at hm
  subst hEbs; rw [hfr20.eq]; clear hfr20
  replace f_l := f_l.step hst19; replace f14 := f14.step hst19
  have ch22 := hst19
  refine Wp_seq ?_
  refine Wp_seq ?_
  clear f14
  refine Wp_region ?_
  refine Rg_op rfl (op_move (v := (Value.int .i64 i_1)) rfl ?_)
  refine Rg_op rfl (op_move (v := (Value.slice a_l l.length c_l)) rfl ?_)
  refine Rg_op rfl (op_len Try.underlying33 rfl ?_)
  have rl23 := inK_len f_l
  refine Rg_op rfl (op_lss rfl rfl ?_)
  refine Rg_nil ?_
  refine Wp_cond rfl (fun hc24 => ?_) (fun hc24 => ?_)
  ·
   replace hm := bif_t hm hc24
   refine Wp_skip ?_
   refine Wp_seq ?_
   refine Wp_block ?_
   refine Wp_seq ?_
   refine Wp_region ?_
   refine Rg_op rfl (op_move (v := (Value.slice a_l l.length c_l)) rfl ?_)
   refine Rg_op rfl (op_move (v := (Value.int .i64 i_1)) rfl ?_)
   replace hm := bd hm; obtain ⟨isleast_1, hv25, hm⟩ := hm
   refine Rg_op rfl (op_call Try.call53 (c53_overflightref06_isLeast (l := l) (at_ := i_1) hs18.ltw f_l r_y8 hv25) rfl ?_)
   rintro v26 w27 ⟨hx28, h29⟩
   have hs30 := hs18.call hx28
   have p31 := Step.ext (O := ks [] O) hx28
   clear hx28
   replace f_l := f_l.step p31; replace f_y7 := f_y7.step p31; replace ch22 := ch22.trans p31; clear p31 hs18
   obtain rfl := h29
   refine Rg_nil ?_
   refine Wp_cond rfl (fun hc33 => ?_) (fun hc33 => ?_)
   ·
    replace hm := bif_t hm hc33
    refine Wp_region ?_
    refine Rg_op rfl (op_move (v := (Value.slice a_y7 out_1.length c_y7)) rfl ?_)
    refine Rg_op rfl (op_move (v := (Value.slice a_l l.length c_l)) rfl ?_)
    refine Rg_op rfl (op_move (v := (Value.int .i64 i_1)) rfl ?_)
    replace hm := ck_some hm; obtain ⟨hc34, hm⟩ := hm
    refine Rg_op rfl (op_indexAddr (q := (rSl (rInt .i64))) ty33 ty22 rfl rfl f_l rfl hc34.1 hc34.2 ?_)
    intro p35 f36
    refine Rg_op rfl (op_loadP ty22 rfl f36 rfl ?_)
    intro v37 h38
    obtain ⟨a_y39, c_y39, rfl, f_y39⟩ := un_sl h38
    replace hm := bd hm; obtain ⟨insert_1, hv40, hm⟩ := hm
    refine Rg_op rfl (op_call Try.call54 (c54_overflightref06_insert (l := out_1) (a := (l.getD i_1.toNat default)) hs30.ltw f_y7 f_y39 hv40) rfl ?_)
    rintro v41 w42 ⟨hx43, h44⟩
    have hs45 := hs30.call hx43
    have p46 := Step.ext (O := ks [] O) hx43
    clear hx43
    replace f_l := f_l.step p46; replace f_y7 := f_y7.step p46; replace f36 := f36.step p46; replace f_y39 := f_y39.step p46; replace ch22 := ch22.trans p46; clear p46 hs30
    obtain ⟨a_y47, c_y47, rfl, f_y47⟩ := un_sl h44
    refine Rg_op rfl (op_assign (v := (Value.slice a_y47 insert_1.length c_y47)) rfl ?_)
    refine Rg_nil ?_
    clear f_y7 f36 f_y39
    refine Wp_region ?_
    refine Rg_op rfl (op_move (v := (Value.int .i64 i_1)) rfl ?_)
    refine Rg_op rfl (op_addw rfl rfl ?_)
    refine Rg_op rfl (op_assign (v := (Value.int .i64 (IntKind.wrap .i64 (i_1 + 1)))) rfl ?_)
    refine Rg_nil ?_
    exact hK12 _ _ ⟨insert_1, (IntKind.wrap .i64 (i_1 + 1)), a_y47, c_y47, _, rfl, ⟨(by repeat (first | with_reducible exact Out.refl _ _ | refine Out.upd ?_ rfl | refine Out.updL ?_ rfl | refine Out.mix' ?_ rfl | exact Out.refl _ _)), rfl, rfl, rfl, trivial⟩, ch22, hs45, f_y47, (inK_wrap .i64 _), jnE2 hsf11 hm⟩
   ·
    replace hm := bif_f hm hc33
    refine Wp_skip ?_
    refine Wp_region ?_
    refine Rg_op rfl (op_move (v := (Value.int .i64 i_1)) rfl ?_)
    refine Rg_op rfl (op_addw rfl rfl ?_)
    refine Rg_op rfl (op_assign (v := (Value.int .i64 (IntKind.wrap .i64 (i_1 + 1)))) rfl ?_)
    refine Rg_nil ?_
    exact hK12 _ _ ⟨out_1, (IntKind.wrap .i64 (i_1 + 1)), a_y7, c_y7, _, rfl, ⟨(by repeat (first | with_reducible exact Out.refl _ _ | refine Out.upd ?_ rfl | refine Out.updL ?_ rfl | refine Out.mix' ?_ rfl | exact Out.refl _ _)), rfl, rfl, rfl, trivial⟩, ch22, hs30, f_y7, (inK_wrap .i64 _), jnE2 hsf11 hm⟩
  ·
   replace hm := bif_f hm hc24
   refine Wp_exit ?_
   refine Wp_seq ?_
   clear f_l
   refine Wp_region ?_
   refine Rg_op rfl (op_move (v := (Value.slice a_y7 out_1.length c_y7)) rfl ?_)
   refine Rg_op rfl (op_assign (v := (Value.slice a_y7 out_1.length c_y7)) rfl ?_)
   refine Rg_nil ?_
   refine Wp_ret ?_
   have hz := step_all hs18
   replace f_y7 := f_y7.step hz
   refine ⟨_, (show Closes [] _ _ from rfl), [(Value.slice a_y7 out_1.length c_y7)], ⟨rfl, trivial⟩, hs18.ext, ?_⟩
   exact Vr.eq (a := (vC (rSl (rSl (rInt .i64))))) (x := out_1) (mkC (mk_sl f_y7)) (Option.some.inj hm)

end Go.Fx



set_option linter.unusedVariables false
set_option linter.unusedSimpArgs false
set_option maxRecDepth 100000
set_option maxHeartbeats 0
namespace Go.Fx
open Go Go.RowKit Go.Proofs
def m22_overflightref06_Least (l : List (List Int)) : Option ((List (List Int)) × Int) :=
 bif (decide ((l.length : Int) = 0)) then
  some (([] : List (List Int)), 0)
 else
  ck ((0 : Int) ≤ 0 ∧ 0 < (l.length : Int)) <|
  (m38_overflightref06_alike l ((l.getD 0 default).length : Int)).bind fun alike_1 =>
  bif (!alike_1) then
   some (([] : List (List Int)), 60)
  else
   bif (decide (4096 < (l.length : Int))) then
    some (([] : List (List Int)), 2)
   else
    (m39_overflightref06_least l).bind fun least_1 =>
    some (least_1, 0)

theorem c22_overflightref06_Least {w : World} {O : List Nat} {l : List (List Int)} {a_l : Option Addr} {c_l : Nat} (hO : ∀ k ∈ O, k < w.heap.size) (f_l : SlR (rSl (rInt .i64)) w O a_l c_l l) {x : (List (List Int)) × Int} (hm : m22_overflightref06_Least l = some x) :
  Ok Try.prog 22 [(Value.slice a_l l.length c_l)] w O (vT2 (vC (rSl (rSl (rInt .i64)))) (vI .i64)) x := by
 unfold m22_overflightref06_Least at hm
 refine Fn_of_Wp (n := 19) (xs := [.tmp 2, .tmp 3]) Try.func22 rfl Try.ntmps22 Try.results22 rfl ?_
 have hs := St.start hO
 refine Wp_seq ?_
 refine Wp_region ?_
 refine Rg_op rfl (op_assign (v := (Value.slice none 0 0)) rfl ?_)
 refine Rg_op rfl (op_assign (v := (Value.int .i64 0)) rfl ?_)
 refine Rg_nil ?_
 refine Wp_seq ?_
 refine Wp_seq ?_
 refine Wp_region ?_
 refine Rg_op rfl (op_move (v := (Value.slice a_l l.length c_l)) rfl ?_)
 refine Rg_op rfl (op_len Try.underlying33 rfl ?_)
 have rl1 := inK_len f_l
 refine Rg_op rfl (op_eql rfl rfl ?_)
 refine Rg_nil ?_
 refine Wp_cond rfl (fun hc2 => ?_) (fun hc2 => ?_)
 ·
  replace hm := bif_t hm hc2
  refine Wp_seq ?_
  clear f_l
  refine Wp_region ?_
  refine Rg_op rfl (op_assign (v := (Value.slice none 0 0)) rfl ?_)
  refine Rg_op rfl (op_assign (v := (Value.int .i64 0)) rfl ?_)
  refine Rg_nil ?_
  refine Wp_ret ?_
  have hz := step_all hs
  refine ⟨_, (show Closes [] _ _ from rfl), [(Value.slice none 0 0), (Value.int .i64 0)], ⟨rfl, rfl, trivial⟩, hs.ext, ?_⟩
  exact Vr.eq (a := (vT2 (vC (rSl (rSl (rInt .i64)))) (vI .i64))) (x := (([] : List (List Int)), 0)) (mkT2 (mkC (mk_sl SlR.nil_)) ⟨rfl, (show InK .i64 0 from by decide)⟩) (Option.some.inj hm)
 ·
  replace hm := bif_f hm hc2
  refine Wp_skip ?_
  refine Wp_seq ?_
  refine Wp_seq ?_
  refine Wp_region ?_
  refine Rg_op rfl (op_move (v := (Value.slice a_l l.length c_l)) rfl ?_)
  refine Rg_op rfl (op_move (v := (Value.slice a_l l.length c_l)) rfl ?_)
  replace hm := ck_some hm; obtain ⟨hc3, hm⟩ := hm
  refine Rg_op rfl (op_indexAddr (q := (rSl (rInt .i64))) ty33 ty22 rfl rfl f_l rfl hc3.1 hc3.2 ?_)
  intro p4 f5
  refine Rg_op rfl (op_loadP ty22 rfl f5 rfl ?_)
  intro v6 h7
  obtain ⟨a_y8, c_y8, rfl, f_y8⟩ := un_sl h7
  refine Rg_op rfl (op_len Try.underlying22 rfl ?_)
  have rl9 := inK_len f_y8
  replace hm := bd hm; obtain ⟨alike_1, hv10, hm⟩ := hm
  refine Rg_op rfl (op_call Try.call38 (c38_overflightref06_alike (l := l) (n := ((l.getD 0 default).length : Int)) hs.ltw f_l rl9 hv10) rfl ?_)
  rintro v11 w12 ⟨hx13, h14⟩
  have hs15 := hs.call hx13
  have p16 := Step.ext (O := ks [] O) hx13
  clear hx13
  replace f_l := f_l.step p16; replace f5 := f5.step p16; replace f_y8 := f_y8.step p16; clear p16
  obtain rfl := h14
  refine Rg_op rfl (op_not rfl ?_)
  refine Rg_nil ?_
  refine Wp_cond rfl (fun hc18 => ?_) (fun hc18 => ?_)
  ·
   replace hm := bif_t hm hc18
   refine Wp_seq ?_
   clear f_l f5 f_y8
   refine Wp_region ?_
   refine Rg_op rfl (op_assign (v := (Value.slice none 0 0)) rfl ?_)
   refine Rg_op rfl (op_assign (v := (Value.int .i64 60)) rfl ?_)
   refine Rg_nil ?_
   refine Wp_ret ?_
   have hz := step_all hs15
   refine ⟨_, (show Closes [] _ _ from rfl), [(Value.slice none 0 0), (Value.int .i64 60)], ⟨rfl, rfl, trivial⟩, hs15.ext, ?_⟩
   exact Vr.eq (a := (vT2 (vC (rSl (rSl (rInt .i64)))) (vI .i64))) (x := (([] : List (List Int)), 60)) (mkT2 (mkC (mk_sl SlR.nil_)) ⟨rfl, (show InK .i64 60 from by decide)⟩) (Option.some.inj hm)
  ·
   replace hm := bif_f hm hc18
   refine Wp_skip ?_
   refine Wp_seq ?_
   refine Wp_seq ?_
   clear f5 f_y8
   refine Wp_region ?_
   refine Rg_op rfl (op_move (v := (Value.slice a_l l.length c_l)) rfl ?_)
   refine Rg_op rfl (op_len Try.underlying33 rfl ?_)
   have rl19 := inK_len f_l
   refine Rg_op rfl (op_gtr rfl rfl ?_)
   refine Rg_nil ?_
   refine Wp_cond rfl (fun hc20 => ?_) (fun hc20 => ?_)
   ·
    replace hm := bif_t hm hc20
    refine Wp_seq ?_
    clear f_l
    refine Wp_region ?_
    refine Rg_op rfl (op_assign (v := (Value.slice none 0 0)) rfl ?_)
    refine Rg_op rfl (op_assign (v := (Value.int .i64 2)) rfl ?_)
    refine Rg_nil ?_
    refine Wp_ret ?_
    have hz := step_all hs15
    refine ⟨_, (show Closes [] _ _ from rfl), [(Value.slice none 0 0), (Value.int .i64 2)], ⟨rfl, rfl, trivial⟩, hs15.ext, ?_⟩
    exact Vr.eq (a := (vT2 (vC (rSl (rSl (rInt .i64)))) (vI .i64))) (x := (([] : List (List Int)), 2)) (mkT2 (mkC (mk_sl SlR.nil_)) ⟨rfl, (show InK .i64 2 from by decide)⟩) (Option.some.inj hm)
   ·
    replace hm := bif_f hm hc20
    refine Wp_skip ?_
    refine Wp_seq ?_
    refine Wp_region ?_
    refine Rg_op rfl (op_move (v := (Value.slice a_l l.length c_l)) rfl ?_)
    replace hm := bd hm; obtain ⟨least_1, hv21, hm⟩ := hm
    refine Rg_op rfl (op_call Try.call39 (c39_overflightref06_least (l := l) hs15.ltw f_l hv21) rfl ?_)
    rintro v22 w23 ⟨hx24, h25⟩
    have hs26 := hs15.call hx24
    have p27 := Step.ext (O := ks [] O) hx24
    clear hx24
    replace f_l := f_l.step p27; clear p27 hs15
    obtain ⟨a_y28, c_y28, rfl, f_y28⟩ := un_sl h25
    refine Rg_op rfl (op_assign (v := (Value.slice a_y28 least_1.length c_y28)) rfl ?_)
    refine Rg_op rfl (op_assign (v := (Value.int .i64 0)) rfl ?_)
    refine Rg_nil ?_
    refine Wp_ret ?_
    have hz := step_all hs26
    replace f_l := f_l.step hz; replace f_y28 := f_y28.step hz
    refine ⟨_, (show Closes [] _ _ from rfl), [(Value.slice a_y28 least_1.length c_y28), (Value.int .i64 0)], ⟨rfl, rfl, trivial⟩, hs26.ext, ?_⟩
    exact Vr.eq (a := (vT2 (vC (rSl (rSl (rInt .i64)))) (vI .i64))) (x := (least_1, 0)) (mkT2 (mkC (mk_sl f_y28)) ⟨rfl, (show InK .i64 0 from by decide)⟩) (Option.some.inj hm)

end Go.Fx



set_option linter.unusedVariables false
set_option linter.unusedSimpArgs false
set_option maxRecDepth 100000
set_option maxHeartbeats 0
namespace Go.Fx
open Go Go.RowKit Go.Proofs
def m31_overflightref06_Small_B0 (a : List Int) (sf3 : Int → Option Bool) (i_1 : Int) : Option Bool :=
 bif (decide (i_1 < (a.length : Int))) then
  jn (fun (v_1 : Bool) =>
   bif v_1 then
    some false
   else
    sf3 (IntKind.wrap .i64 (i_1 + 1)))
  (fun k17 =>
   ck ((0 : Int) ≤ i_1 ∧ i_1 < (a.length : Int)) <|
   bif (decide ((a.getD i_1.toNat default) < (-1152921504606846976))) then
    k17 true
   else
    ck ((0 : Int) ≤ i_1 ∧ i_1 < (a.length : Int)) <|
    k17 (decide (1152921504606846976 < (a.getD i_1.toNat default))))
 else
  some true

def m31_overflightref06_Small (a : List Int) : Option Bool :=
 loop1 (m31_overflightref06_Small_B0 a) (((a.length : Int) - 0).toNat + 1) 0

theorem c31_overflightref06_Small {w : World} {O : List Nat} {a : List Int} {a_a : Option Addr} {c_a : Nat} (hO : ∀ k ∈ O, k < w.heap.size) (f_a : SlR (rInt .i64) w O a_a c_a a) {x : Bool} (hm : m31_overflightref06_Small a = some x) :
  Ok Try.prog 31 [(Value.slice a_a a.length c_a)] w O vB x := by
 unfold m31_overflightref06_Small at hm
 refine Fn_of_Wp (n := 22) (xs := [.tmp 2]) Try.func31 rfl Try.ntmps31 Try.results31 rfl ?_
 have hs := St.start hO
 refine Wp_seq ?_
 refine Wp_region ?_
 refine Rg_op rfl (op_assign (v := (Value.bool false)) rfl ?_)
 refine Rg_nil ?_
 refine Wp_seq ?_
 refine Wp_seq ?_
 refine Wp_region ?_
 refine Rg_op rfl (op_assign (v := (Value.int .i64 0)) rfl ?_)
 refine Rg_nil ?_
 refine Wp_block ?_
 refine Wp_reset [] [(0, (Value.slice a_a a.length c_a)), (3, (Value.int .i64 0))] rfl ⟨rfl, rfl, trivial⟩ fun ξ2 => ?_
 refine Wp_loopM [2, 3, 4, 5, 6, 7, 8, 9, 10, 11, 12, 13, 14, 15, 16, 17, 18, 19, 20, 21] (fun m fr w' => ∃ (i_1 : Int) (Ebs : Ents), Ebs = [] ∧ fr [] [(3, (Value.int .i64 i_1))] ∧ Step (ks [] O) w (ks Ebs O) w' ∧ St ⟨w, [], []⟩ O w' Ebs ∧ InK .i64 i_1 ∧ loop1 (m31_overflightref06_Small_B0 a) m i_1 = some x) (((a.length : Int) - 0).toNat + 1) ⟨0, _, rfl, ⟨Out.refl _ _, rfl, rfl, trivial⟩, Step.refl _ _, hs, (show InK .i64 0 from by decide), hm⟩ ?_ ?_
 · rintro _ _ ⟨_, _, _, _, _, _, _, hm⟩; exact loop1_z hm
 ·
  rintro m6 K5 hK5 ρ11 w7 ⟨i_1, Ebs, hEbs, hfr10, hst9, hs8, r_y1, hm⟩
  obtain ⟨sf3, hsf4, hm⟩ := loop1_s hm; unfold m31_overflightref06_Small_B0 at hm
  subst hEbs; rw [hfr10.eq]; clear hfr10
  replace f_a := f_a.step hst9
  have ch12 := hst9
  refine Wp_seq ?_
  refine Wp_seq ?_
  refine Wp_region ?_
  refine Rg_op rfl (op_move (v := (Value.int .i64 i_1)) rfl ?_)
  refine Rg_op rfl (op_move (v := (Value.slice a_a a.length c_a)) rfl ?_)
  refine Rg_op rfl (op_len Try.underlying22 rfl ?_)
  have rl13 := inK_len f_a
  refine Rg_op rfl (op_lss rfl rfl ?_)
  refine Rg_nil ?_
  refine Wp_cond rfl (fun hc14 => ?_) (fun hc14 => ?_)
  ·
   replace hm := bif_t hm hc14
   refine Wp_skip ?_
   refine Wp_seq ?_
   refine Wp_block ?_
   refine Wp_reset2 [2, 3, 4, 5, 6, 7, 8, 9, 10, 11, 12, 13, 14, 15, 16, 17, 18, 19, 20, 21] [] (updL ⟨ξ2, []⟩ [(0, (Value.slice a_a a.length c_a)), (3, (Value.int .i64 0))]) [(3, (Value.int .i64 i_1))] (by repeat (first | with_reducible exact Out.refl _ _ | refine Out.upd ?_ rfl | refine Out.updL ?_ rfl | refine Out.mix' ?_ rfl | exact Out.refl _ _)) rfl ⟨rfl, trivial⟩ fun ξ15 => ?_
   replace hm := jn_elim hm; obtain ⟨k17, hk18, hm⟩ := hm
   refine Wp_seqJ [10, 11, 12, 13, 14, 15, 16, 17, 18, 19, 20, 21] (fun fr w' => ∃ (v_1 : Bool) (Ebs : Ents), Ebs = [] ∧ fr [] [(21, (Value.bool v_1))] ∧ Step (ks [] O) w7 (ks Ebs O) w' ∧ St ⟨w, [], []⟩ O w' Ebs ∧ k17 v_1 = some x) ?_ ?_
   ·
    rintro ρ24 w20 ⟨v_1, Ebs, hEbs, hfr23, hst22, hs21, hm⟩
    replace hm := jnE1 hk18 hm
    subst hEbs; rw [hfr23.eq]; clear hfr23
    replace f_a := f_a.step hst22; replace ch12 := ch12.trans hst22; clear hst22 hs8
    refine Wp_cond rfl (fun hc25 => ?_) (fun hc25 => ?_)
    ·
     replace hm := bif_t hm hc25
     refine Wp_seq ?_
     clear f_a
     refine Wp_region ?_
     refine Rg_op rfl (op_assign (v := (Value.bool false)) rfl ?_)
     refine Rg_nil ?_
     refine Wp_ret ?_
     have hz := step_all hs21
     refine ⟨_, (show Closes [] _ _ from rfl), [(Value.bool false)], ⟨rfl, trivial⟩, hs21.ext, ?_⟩
     exact Vr.eq (a := vB) (x := false) rfl (Option.some.inj hm)
    ·
     replace hm := bif_f hm hc25
     refine Wp_skip ?_
     refine Wp_region ?_
     refine Rg_op rfl (op_move (v := (Value.int .i64 i_1)) rfl ?_)
     refine Rg_op rfl (op_addw rfl rfl ?_)
     refine Rg_op rfl (op_assign (v := (Value.int .i64 (IntKind.wrap .i64 (i_1 + 1)))) rfl ?_)
     refine Rg_nil ?_
     exact hK5 _ _ ⟨(IntKind.wrap .i64 (i_1 + 1)), _, rfl, ⟨(by repeat (first | with_reducible exact Out.refl _ _ | refine Out.upd ?_ rfl | refine Out.updL ?_ rfl | refine Out.mix' ?_ rfl | exact Out.refl _ _)), rfl, rfl, trivial⟩, ch12, hs21, (inK_wrap .i64 _), jnE1 hsf4 hm⟩
   ·
    intro K19 hK19
    have ch26 := Step.refl (ks [] O) w7
    refine Wp_region ?_
    refine Rg_op rfl (op_move (v := (Value.slice a_a a.length c_a)) rfl ?_)
    refine Rg_op rfl (op_move (v := (Value.int .i64 i_1)) rfl ?_)
    replace hm := ck_some hm; obtain ⟨hc27, hm⟩ := hm
    refine Rg_op rfl (op_indexAddr (q := (rInt .i64)) ty22 ty3 rfl rfl f_a rfl hc27.1 hc27.2 ?_)
    intro p28 f29
    refine Rg_op rfl (op_loadP ty3 rfl f29 rfl ?_)
    intro v30 h31
    obtain ⟨rfl, r_y32⟩ := un_int h31
    refine Rg_op rfl (op_lss rfl rfl ?_)
    refine Rg_op rfl (op_move (v := (Value.bool (decide ((a.getD i_1.toNat default) < (-1152921504606846976))))) rfl ?_)
    refine Rg_case (fun hg33 => ?_) (fun hg33 => ?_)
    ·
     replace hm := bif_t hm hg33
     iterate 5 refine Rg_opx rfl (asB_ne rfl rfl) rfl ?_
     refine Rg_op rfl (op_pick_t (v := (Value.bool true)) rfl rfl ?_)
     refine Rg_nil ?_
     exact hK19 _ _ ⟨true, _, rfl, ⟨(by repeat (first | with_reducible exact Out.refl _ _ | refine Out.upd ?_ rfl | refine Out.updL ?_ rfl | refine Out.mix' ?_ rfl | exact Out.refl _ _)), rfl, rfl, trivial⟩, ch26, hs8, hm⟩
    ·
     replace hm := bif_f hm hg33
     refine Rg_opg rfl rfl rfl (op_move (v := (Value.slice a_a a.length c_a)) rfl ?_)
     refine Rg_opg rfl rfl rfl (op_move (v := (Value.int .i64 i_1)) rfl ?_)
     replace hm := ck_some hm; obtain ⟨hc34, hm⟩ := hm
     refine Rg_opg rfl rfl rfl (op_indexAddr (q := (rInt .i64)) ty22 ty3 rfl rfl f_a rfl hc34.1 hc34.2 ?_)
     intro p35 f36
     refine Rg_opg rfl rfl rfl (op_loadP ty3 rfl f36 rfl ?_)
     intro v37 h38
     obtain ⟨rfl, r_y39⟩ := un_int h38
     refine Rg_opg rfl rfl rfl (op_gtr rfl rfl ?_)
     refine Rg_op rfl (op_pick_f (v := (Value.bool (decide (1152921504606846976 < (a.getD i_1.toNat default))))) rfl rfl ?_)
     refine Rg_nil ?_
     exact hK19 _ _ ⟨(decide (1152921504606846976 < (a.getD i_1.toNat default))), _, rfl, ⟨(by repeat (first | with_reducible exact Out.refl _ _ | refine Out.upd ?_ rfl | refine Out.updL ?_ rfl | refine Out.mix' ?_ rfl | exact Out.refl _ _)), rfl, rfl, trivial⟩, ch26, hs8, hm⟩
  ·
   replace hm := bif_f hm hc14
   refine Wp_exit ?_
   refine Wp_seq ?_
   clear f_a
   refine Wp_region ?_
   refine Rg_op rfl (op_assign (v := (Value.bool true)) rfl ?_)
   refine Rg_nil ?_
   refine Wp_ret ?_
   have hz := step_all hs8
   refine ⟨_, (show Closes [] _ _ from rfl), [(Value.bool true)], ⟨rfl, trivial⟩, hs8.ext, ?_⟩
   exact Vr.eq (a := vB) (x := true) rfl (Option.some.inj hm)

end Go.Fx



set_option linter.unusedVariables false
set_option linter.unusedSimpArgs false
set_option maxRecDepth 100000
set_option maxHeartbeats 0
namespace Go.Fx
open Go Go.RowKit Go.Proofs
def m14_overflightref06_Add_B0 (a : List Int) (b : List Int) (sf21 : (List Int) → Int → Option ((List Int) × Int)) (c_1 : List Int) (i_1 : Int) : Option ((List Int) × Int) :=
 bif (decide (i_1 < (a.length : Int))) then
  ck ((0 : Int) ≤ i_1 ∧ i_1 < (a.length : Int)) <|
  ck ((0 : Int) ≤ i_1 ∧ i_1 < (b.length : Int)) <|
  ck ((c_1.length + [(IntKind.wrap .i64 ((a.getD i_1.toNat default) + (b.getD i_1.toNat default)))].length) * 8 ≤ 140737488355328) <|
  sf21 (c_1 ++ [(IntKind.wrap .i64 ((a.getD i_1.toNat default) + (b.getD i_1.toNat default)))]) (IntKind.wrap .i64 (i_1 + 1))
 else
  some (c_1, 0)

def m14_overflightref06_Add (a : List Int) (b : List Int) : Option ((List Int) × Int) :=
 jn (fun (v_1 : Bool) =>
  bif v_1 then
   some (([] : List Int), 60)
  else
   loop2 (m14_overflightref06_Add_B0 a b) (((a.length : Int) - 0).toNat + 1) [] 0)
 (fun k3 =>
  bif (decide ((a.length : Int) ≠ (b.length : Int))) then
   k3 true
  else
   (m31_overflightref06_Small a).bind fun small_1 =>
   bif (!small_1) then
    k3 true
   else
    (m31_overflightref06_Small b).bind fun small_2 =>
    k3 (!small_2))

theorem c14_overflightref06_Add {w : World} {O : List Nat} {a : List Int} {b : List Int} {a_a : Option Addr} {c_a : Nat} {a_b : Option Addr} {c_b : Nat} (hO : ∀ k ∈ O, k < w.heap.size) (f_a : SlR (rInt .i64) w O a_a c_a a) (f_b : SlR (rInt .i64) w O a_b c_b b) {x : (List Int) × Int} (hm : m14_overflightref06_Add a b = some x) :
  Ok Try.prog 14 [(Value.slice a_a a.length c_a), (Value.slice a_b b.length c_b)] w O (vT2 (vC (rSl (rInt .i64))) (vI .i64)) x := by
 unfold m14_overflightref06_Add at hm
 refine Fn_of_Wp (n := 43) (xs := [.tmp 4, .tmp 5]) Try.func14 rfl Try.ntmps14 Try.results14 rfl ?_
 have hs := St.start hO
 refine Wp_seq ?_
 refine Wp_region ?_
 refine Rg_op rfl (op_assign (v := (Value.slice none 0 0)) rfl ?_)
 refine Rg_op rfl (op_assign (v := (Value.int .i64 0)) rfl ?_)
 refine Rg_nil ?_
 refine Wp_seq ?_
 refine Wp_reset [] [(0, (Value.slice a_a a.length c_a)), (1, (Value.slice a_b b.length c_b))] rfl ⟨rfl, rfl, trivial⟩ fun ξ1 => ?_
 replace hm := jn_elim hm; obtain ⟨k3, hk4, hm⟩ := hm
 refine Wp_seqJ [8, 9, 10, 11, 12, 13, 14, 15, 16, 17, 18, 19, 20, 21, 22] (fun fr w' => ∃ (v_1 : Bool) (Ebs : Ents), Ebs = [] ∧ fr [] [(22, (Value.bool v_1))] ∧ Step (ks [] O) w (ks Ebs O) w' ∧ St ⟨w, [], []⟩ O w' Ebs ∧ k3 v_1 = some x) ?_ ?_
 ·
  rintro ρ10 w6 ⟨v_1, Ebs, hEbs, hfr9, hst8, hs7, hm⟩
  replace hm := jnE1 hk4 hm
  subst hEbs; rw [hfr9.eq]; clear hfr9
  replace f_a := f_a.step hst8; replace f_b := f_b.step hst8; clear hst8
  refine Wp_cond rfl (fun hc11 => ?_) (fun hc11 => ?_)
  ·
   replace hm := bif_t hm hc11
   refine Wp_seq ?_
   clear f_a f_b
   refine Wp_region ?_
   refine Rg_op rfl (op_assign (v := (Value.slice none 0 0)) rfl ?_)
   refine Rg_op rfl (op_assign (v := (Value.int .i64 60)) rfl ?_)
   refine Rg_nil ?_
   refine Wp_ret ?_
   have hz := step_all hs7
   refine ⟨_, (show Closes [] _ _ from rfl), [(Value.slice none 0 0), (Value.int .i64 60)], ⟨rfl, rfl, trivial⟩, hs7.ext, ?_⟩
   exact Vr.eq (a := (vT2 (vC (rSl (rInt .i64))) (vI .i64))) (x := (([] : List Int), 60)) (mkT2 (mkC (mk_sl SlR.nil_)) ⟨rfl, (show InK .i64 60 from by decide)⟩) (Option.some.inj hm)
  ·
   replace hm := bif_f hm hc11
   refine Wp_skip ?_
   refine Wp_seq ?_
   refine Wp_region ?_
   refine Rg_op rfl (op_buildSlice (cs := []) (parts := []) ty22 ty3 hs7 (by decide) rfl ?_)
   intro b12 w13 hx16 p14 hs15
   replace f_a := f_a.step p14; replace f_b := f_b.step p14; clear p14 hs7
   refine Rg_op rfl (op_assign (v := (Value.slice (some ⟨b12, 0, none⟩) 0 0)) rfl ?_)
   refine Rg_nil ?_
   refine Wp_seq ?_
   refine Wp_seq ?_
   refine Wp_region ?_
   refine Rg_op rfl (op_assign (v := (Value.int .i64 0)) rfl ?_)
   refine Rg_nil ?_
   refine Wp_block ?_
   refine Wp_reset [] [(0, (Value.slice a_a a.length c_a)), (1, (Value.slice a_b b.length c_b)), (6, (Value.slice (some ⟨b12, 0, none⟩) 0 0)), (7, (Value.int .i64 0))] rfl ⟨rfl, rfl, rfl, rfl, trivial⟩ fun ξ20 => ?_
   have f25 := Gs.of_cells (p := (rInt .i64)) (e := 3) (bl := b12) (c := 0) (w := w13) (O := ks [(some b12, Obj.cells [].toArray 3)] O) (show Els (rInt .i64) _ _ [] [] from Els.nil) rfl (le_lit rfl)
   refine Wp_loopM [6, 7, 24, 25, 26, 27, 28, 29, 30, 31, 32, 33, 34, 35, 36, 37, 38, 39, 40, 41] (fun m fr w' => ∃ (c_1 : List Int) (i_1 : Int) (a_g18 : Option Addr) (c_g18 : Nat) (k_g18 : Option Nat) (o_g18 : Obj) (Ebs : Ents), Ebs = [(k_g18, o_g18)] ∧ fr [] [(6, (Value.slice a_g18 c_1.length c_g18)), (7, (Value.int .i64 i_1))] ∧ Step (ks [(some b12, Obj.cells [].toArray 3)] O) w13 (ks Ebs O) w' ∧ St ⟨w, [], []⟩ O w' Ebs ∧ Gs (rInt .i64) 3 w' (ks Ebs O) a_g18 c_g18 c_1 k_g18 o_g18 ∧ InK .i64 i_1 ∧ loop2 (m14_overflightref06_Add_B0 a b) m c_1 i_1 = some x) (((a.length : Int) - 0).toNat + 1) ⟨[], 0, (some ⟨b12, 0, none⟩), 0, (some b12), (Obj.cells [].toArray 3), _, rfl, ⟨Out.refl _ _, rfl, rfl, rfl, trivial⟩, Step.refl _ _, hs15, f25, (show InK .i64 0 from by decide), hm⟩ ?_ ?_
   · rintro _ _ ⟨_, _, _, _, _, _, _, _, _, _, _, _, _, hm⟩; exact loop2_z hm
   ·
    rintro m24 K23 hK23 ρ30 w26 ⟨c_1, i_1, a_g18, c_g18, k_g18, o_g18, Ebs, hEbs, hfr29, hst28, hs27, f_g18, r_y19, hm⟩
    obtain ⟨sf21, hsf22, hm⟩ := loop2_s hm; unfold m14_overflightref06_Add_B0 at hm
    subst hEbs; rw [hfr29.eq]; clear hfr29
    replace f_a := f_a.step hst28; replace f_b := f_b.step hst28; replace f25 := f25.step hst28
    have ch31 := hst28
    refine Wp_seq ?_
    refine Wp_seq ?_
    clear f25
    refine Wp_region ?_
    refine Rg_op rfl (op_move (v := (Value.int .i64 i_1)) rfl ?_)
    refine Rg_op rfl (op_move (v := (Value.slice a_a a.length c_a)) rfl ?_)
    refine Rg_op rfl (op_len Try.underlying22 rfl ?_)
    have rl32 := inK_len f_a
    refine Rg_op rfl (op_lss rfl rfl ?_)
    refine Rg_nil ?_
    refine Wp_cond rfl (fun hc33 => ?_) (fun hc33 => ?_)
    ·
     replace hm := bif_t hm hc33
     refine Wp_skip ?_
     refine Wp_seq ?_
     refine Wp_block ?_
     refine Wp_drawR (g0 := []) (m := 9) (fl := [0]) (TS_inv hs27) rfl (.inl rfl) rfl (by decide +kernel) ?_  -- 7
     refine Dw_eq (Value.slice a_g18 c_1.length c_g18) (fun ρ34 w35 g hle hi ht => ?_) ?_
     ·
      obtain ⟨-, hst, -⟩ := hle
      refine StepOp_plain (op_move (v := (Value.slice a_g18 c_1.length c_g18)) (ht 6 rfl) ?_)
      exact Goes.same hi rfl
     refine Dw_eq (Value.slice a_a a.length c_a) (fun ρ37 w38 g hle hi ht => ?_) ?_
     ·
      obtain ⟨-, hst, -⟩ := hle
      refine StepOp_plain (op_move (v := (Value.slice a_a a.length c_a)) (ht 0 rfl) ?_)
      exact Goes.same hi rfl
     refine Dw_eq (Value.int .i64 i_1) (fun ρ40 w41 g hle hi ht => ?_) ?_
     ·
      obtain ⟨-, hst, -⟩ := hle
      refine StepOp_plain (op_move (v := (Value.int .i64 i_1)) (ht 7 rfl) ?_)
      exact Goes.same hi rfl
     replace hm := ck_some hm; obtain ⟨hc46, hm⟩ := hm
     refine Dw_op (VP O [(k_g18, o_g18)] (rInt .i64) (a.getD i_1.toNat default)) (VP.stab _ _) (fun ρ43 w44 g hle hi ht => ?_) ?_
     ·
      obtain ⟨-, hst, -⟩ := hle
      replace f_a := f_a.step hst
      refine StepOp_plain (op_indexAddr (q := (rInt .i64)) ty22 ty3 (ht 31 rfl) (ht 32 rfl) f_a rfl hc46.1 hc46.2 ?_)
      intro p47 f48
      exact Goes.same hi ⟨_, rfl, f48⟩
     refine Dw_op (VD O [(k_g18, o_g18)] (vI .i64) (a.getD i_1.toNat default)) (VD.stab _ _) (fun ρ49 w50 g hle hi ht => ?_) ?_
     ·
      obtain ⟨-, hst, -⟩ := hle
      obtain ⟨p52, q53, f54⟩ := ht 33 rfl
      refine StepOp_plain (op_loadP ty3 q53 f54 rfl ?_)
      intro v55 h56
      obtain ⟨rfl, r_y57⟩ := un_int h56
      exact Goes.same hi (show Vr.vd (vI .i64) _ _ _ _ from ⟨rfl, r_y57⟩)
     refine Dw_eq (Value.slice a_b b.length c_b) (fun ρ58 w59 g hle hi ht => ?_) ?_
     ·
      obtain ⟨-, hst, -⟩ := hle
      refine StepOp_plain (op_move (v := (Value.slice a_b b.length c_b)) (ht 1 rfl) ?_)
      exact Goes.same hi rfl
     refine Dw_eq (Value.int .i64 i_1) (fun ρ61 w62 g hle hi ht => ?_) ?_
     ·
      obtain ⟨-, hst, -⟩ := hle
      refine StepOp_plain (op_move (v := (Value.int .i64 i_1)) (ht 7 rfl) ?_)
      exact Goes.same hi rfl
     replace hm := ck_some hm; obtain ⟨hc67, hm⟩ := hm
     refine Dw_op (VP O [(k_g18, o_g18)] (rInt .i64) (b.getD i_1.toNat default)) (VP.stab _ _) (fun ρ64 w65 g hle hi ht => ?_) ?_
     ·
      obtain ⟨-, hst, -⟩ := hle
      replace f_b := f_b.step hst
      refine StepOp_plain (op_indexAddr (q := (rInt .i64)) ty22 ty3 (ht 35 rfl) (ht 36 rfl) f_b rfl hc67.1 hc67.2 ?_)
      intro p68 f69
      exact Goes.same hi ⟨_, rfl, f69⟩
     refine Dw_op (VD O [(k_g18, o_g18)] (vI .i64) (b.getD i_1.toNat default)) (VD.stab _ _) (fun ρ70 w71 g hle hi ht => ?_) ?_
     ·
      obtain ⟨-, hst, -⟩ := hle
      obtain ⟨p73, q74, f75⟩ := ht 37 rfl
      refine StepOp_plain (op_loadP ty3 q74 f75 rfl ?_)
      intro v76 h77
      obtain ⟨rfl, r_y78⟩ := un_int h77
      exact Goes.same hi (show Vr.vd (vI .i64) _ _ _ _ from ⟨rfl, r_y78⟩)
     refine Dw_nil fun w83 g84 hl85 hi86 => ?_
     obtain ⟨-, hst87, -⟩ := hl85
     obtain ⟨hs89, p88⟩ := Step.nx hi86
     rintro v90 h91
     replace h91 : Vr.vd (vI .i64) _ _ _ _ := h91
     obtain ⟨rfl, r_y92⟩ := h91
     rintro _ ⟨p93, rfl, f94⟩
     rintro _ rfl
     rintro _ rfl
     rintro v95 h96
     replace h96 : Vr.vd (vI .i64) _ _ _ _ := h96
     obtain ⟨rfl, r_y97⟩ := h96
     rintro _ ⟨p98, rfl, f99⟩
     rintro _ rfl
     rintro _ rfl
     rintro _ rfl
     have p100 : Step (ks [(k_g18, o_g18)] O) w26 (ks [(k_g18, o_g18)] O) w83 := hst87.trans p88
     replace f94 := f94.step p88; replace f99 := f99.step p88; replace f_a := f_a.step p100; replace f_b := f_b.step p100; replace f_g18 := f_g18.step p100; replace ch31 := ch31.trans p100; clear p100 hs27
     refine Rg_op rfl (op_addw rfl rfl ?_)
     refine Rg_op rfl (op_buildSlice (cs := [(Value.int .i64 (IntKind.wrap .i64 ((a.getD i_1.toNat default) + (b.getD i_1.toNat default))))]) (parts := [(0, .tmp 39)]) ty22 ty3 hs89 (by decide) rfl ?_)
     intro b101 w102 hx105 p103 hs104
     replace f_a := f_a.step p103; replace f_b := f_b.step p103; replace f_g18 := f_g18.step p103; replace f94 := f94.step p103; replace f99 := f99.step p103; replace ch31 := ch31.trans p103; clear p103 hs89
     replace hm := ck_some hm; obtain ⟨hc107, hm⟩ := hm
     refine Rg_op rfl (op_append (q := (rInt .i64)) (i := 1) (xs := c_1) (ys := [(IntKind.wrap .i64 ((a.getD i_1.toNat default) + (b.getD i_1.toNat default)))]) (news := [(Value.int .i64 (IntKind.wrap .i64 ((a.getD i_1.toNat default) + (b.getD i_1.toNat default))))]) ty22 ty3 rfl (by decide) hs104 rfl rfl f_g18 rfl (Src.owned' (len := 1) (hs104.get (i := 0) rfl) rfl) (show Els (rInt .i64) _ _ [(Value.int .i64 (IntKind.wrap .i64 ((a.getD i_1.toNat default) + (b.getD i_1.toNat default))))] [(IntKind.wrap .i64 ((a.getD i_1.toNat default) + (b.getD i_1.toNat default)))] from ⟨_, _, rfl, (mk_int (inK_wrap .i64 _)), Els.nil⟩) hc107 (by have := hc107; simp only [maxLen]; omega) ?_)
     intro a111 c112 k113 o114 w108 p109 hs110 f115
     replace f_a := f_a.step p109; replace f_b := f_b.step p109; replace f94 := f94.step p109; replace f99 := f99.step p109; replace ch31 := ch31.trans p109; clear p109 hs104
     have hs116 := hs110.drop 0
     replace f_a := f_a.step (hs110.dropS 0)
     replace f_b := f_b.step (hs110.dropS 0)
     replace f94 := f94.step (hs110.dropS 0)
     replace f99 := f99.step (hs110.dropS 0)
     replace f115 := f115.step (hs110.dropS 0)
     replace ch31 := ch31.trans (hs110.dropS 0); clear hs110
     refine Rg_op rfl (op_assign (v := (Value.slice a111 (c_1 ++ [(IntKind.wrap .i64 ((a.getD i_1.toNat default) + (b.getD i_1.toNat default)))]).length c112)) rfl ?_)
     refine Rg_nil ?_
     clear f94 f99
     refine Wp_region ?_
     refine Rg_op rfl (op_move (v := (Value.int .i64 i_1)) rfl ?_)
     refine Rg_op rfl (op_addw rfl rfl ?_)
     refine Rg_op rfl (op_assign (v := (Value.int .i64 (IntKind.wrap .i64 (i_1 + 1)))) rfl ?_)
     refine Rg_nil ?_
     exact hK23 _ _ ⟨(c_1 ++ [(IntKind.wrap .i64 ((a.getD i_1.toNat default) + (b.getD i_1.toNat default)))]), (IntKind.wrap .i64 (i_1 + 1)), a111, c112, k113, o114, _, rfl, ⟨(by repeat (first | with_reducible exact Out.refl _ _ | refine Out.upd ?_ rfl | refine Out.updL ?_ rfl | refine Out.mix' ?_ rfl | exact Out.refl _ _)), rfl, rfl, rfl, trivial⟩, ch31, hs116, f115, (inK_wrap .i64 _), jnE2 hsf22 hm⟩
    ·
     replace hm := bif_f hm hc33
     refine Wp_exit ?_
     refine Wp_seq ?_
     clear f_a f_b
     refine Wp_region ?_
     refine Rg_op rfl (op_move (v := (Value.slice a_g18 c_1.length c_g18)) rfl ?_)
     refine Rg_op rfl (op_assign (v := (Value.slice a_g18 c_1.length c_g18)) rfl ?_)
     refine Rg_op rfl (op_assign (v := (Value.int .i64 0)) rfl ?_)
     refine Rg_nil ?_
     refine Wp_ret ?_
     obtain ⟨hs118, p119, f117⟩ := Gs.publish (i := 0) hs27 rfl f_g18
     replace ch31 := ch31.trans p119; clear p119 hs27
     have hz := step_all hs118
     replace f117 := f117.step hz
     refine ⟨_, (show Closes [] _ _ from rfl), [(Value.slice a_g18 c_1.length c_g18), (Value.int .i64 0)], ⟨rfl, rfl, trivial⟩, hs118.ext, ?_⟩
     exact Vr.eq (a := (vT2 (vC (rSl (rInt .i64))) (vI .i64))) (x := (c_1, 0)) (mkT2 (mkC (mk_sl f117)) ⟨rfl, (show InK .i64 0 from by decide)⟩) (Option.some.inj hm)
 ·
  intro K5 hK5
  have ch120 := Step.refl (ks [] O) w
  refine Wp_region ?_
  refine Rg_op rfl (op_move (v := (Value.slice a_a a.length c_a)) rfl ?_)
  refine Rg_op rfl (op_len Try.underlying22 rfl ?_)
  have rl121 := inK_len f_a
  refine Rg_op rfl (op_move (v := (Value.slice a_b b.length c_b)) rfl ?_)
  refine Rg_op rfl (op_len Try.underlying22 rfl ?_)
  have rl122 := inK_len f_b
  refine Rg_op rfl (op_neq rfl rfl ?_)
  refine Rg_op rfl (op_move (v := (Value.bool (decide ((a.length : Int) ≠ (b.length : Int))))) rfl ?_)
  refine Rg_case (fun hg123 => ?_) (fun hg123 => ?_)
  ·
   replace hm := bif_t hm hg123
   iterate 3 refine Rg_opx rfl (asB_ne rfl rfl) rfl ?_
   refine Rg_op rfl (op_pick_t (v := (Value.bool true)) rfl rfl ?_)
   refine Rg_op rfl (op_move (v := (Value.bool true)) rfl ?_)
   iterate 3 refine Rg_opx rfl (asB_ne rfl rfl) rfl ?_
   refine Rg_op rfl (op_pick_t (v := (Value.bool true)) rfl rfl ?_)
   refine Rg_nil ?_
   exact hK5 _ _ ⟨true, _, rfl, ⟨(by repeat (first | with_reducible exact Out.refl _ _ | refine Out.upd ?_ rfl | refine Out.updL ?_ rfl | refine Out.mix' ?_ rfl | exact Out.refl _ _)), rfl, rfl, trivial⟩, ch120, hs, hm⟩
  ·
   replace hm := bif_f hm hg123
   refine Rg_opg rfl rfl rfl (op_move (v := (Value.slice a_a a.length c_a)) rfl ?_)
   replace hm := bd hm; obtain ⟨small_1, hv124, hm⟩ := hm
   refine Rg_opg rfl rfl rfl (op_call Try.call31 (c31_overflightref06_Small (a := a) hs.ltw f_a hv124) rfl ?_)
   rintro v125 w126 ⟨hx127, h128⟩
   have hs129 := hs.call hx127
   have p130 := Step.ext (O := ks [] O) hx127
   clear hx127
   replace f_a := f_a.step p130; replace f_b := f_b.step p130; replace ch120 := ch120.trans p130; clear p130
   obtain rfl := h128
   refine Rg_opg rfl rfl rfl (op_not rfl ?_)
   refine Rg_op rfl (op_pick_f (v := (Value.bool (!small_1))) rfl rfl ?_)
   refine Rg_op rfl (op_move (v := (Value.bool (!small_1))) rfl ?_)
   refine Rg_case (fun hg132 => ?_) (fun hg132 => ?_)
   ·
    replace hm := bif_t hm hg132
    iterate 3 refine Rg_opx rfl (asB_ne rfl rfl) rfl ?_
    refine Rg_op rfl (op_pick_t (v := (Value.bool true)) rfl rfl ?_)
    refine Rg_nil ?_
    exact hK5 _ _ ⟨true, _, rfl, ⟨(by repeat (first | with_reducible exact Out.refl _ _ | refine Out.upd ?_ rfl | refine Out.updL ?_ rfl | refine Out.mix' ?_ rfl | exact Out.refl _ _)), rfl, rfl, trivial⟩, ch120, hs129, hm⟩
   ·
    replace hm := bif_f hm hg132
    refine Rg_opg rfl rfl rfl (op_move (v := (Value.slice a_b b.length c_b)) rfl ?_)
    replace hm := bd hm; obtain ⟨small_2, hv133, hm⟩ := hm
    refine Rg_opg rfl rfl rfl (op_call Try.call31 (c31_overflightref06_Small (a := b) hs129.ltw f_b hv133) rfl ?_)
    rintro v134 w135 ⟨hx136, h137⟩
    have hs138 := hs129.call hx136
    have p139 := Step.ext (O := ks [] O) hx136
    clear hx136
    replace f_a := f_a.step p139; replace f_b := f_b.step p139; replace ch120 := ch120.trans p139; clear p139 hs129
    obtain rfl := h137
    refine Rg_opg rfl rfl rfl (op_not rfl ?_)
    refine Rg_op rfl (op_pick_f (v := (Value.bool (!small_2))) rfl rfl ?_)
    refine Rg_nil ?_
    exact hK5 _ _ ⟨(!small_2), _, rfl, ⟨(by repeat (first | with_reducible exact Out.refl _ _ | refine Out.upd ?_ rfl | refine Out.updL ?_ rfl | refine Out.mix' ?_ rfl | exact Out.refl _ _)), rfl, rfl, trivial⟩, ch120, hs138, hm⟩

end Go.Fx



set_option linter.unusedVariables false
set_option linter.unusedSimpArgs false
set_option maxRecDepth 100000
set_option maxHeartbeats 0
namespace Go.Fx
open Go Go.RowKit Go.Proofs
def m41_overflightref06_small_B0 (l : List (List Int)) (sf3 : Int → Option Bool) (i_1 : Int) : Option Bool :=
 bif (decide (i_1 < (l.length : Int))) then
  ck ((0 : Int) ≤ i_1 ∧ i_1 < (l.length : Int)) <|
  (m31_overflightref06_Small (l.getD i_1.toNat default)).bind fun small_1 =>
  bif (!small_1) then
   some false
  else
   sf3 (IntKind.wrap .i64 (i_1 + 1))
 else
  some true

def m41_overflightref06_small (l : List (List Int)) : Option Bool :=
 loop1 (m41_overflightref06_small_B0 l) (((l.length : Int) - 0).toNat + 1) 0

theorem c41_overflightref06_small {w : World} {O : List Nat} {l : List (List Int)} {a_l : Option Addr} {c_l : Nat} (hO : ∀ k ∈ O, k < w.heap.size) (f_l : SlR (rSl (rInt .i64)) w O a_l c_l l) {x : Bool} (hm : m41_overflightref06_small l = some x) :
  Ok Try.prog 41 [(Value.slice a_l l.length c_l)] w O vB x := by
 unfold m41_overflightref06_small at hm
 refine Fn_of_Wp (n := 16) (xs := [.tmp 2]) Try.func41 rfl Try.ntmps41 Try.results41 rfl ?_
 have hs := St.start hO
 refine Wp_seq ?_
 refine Wp_region ?_
 refine Rg_op rfl (op_assign (v := (Value.bool false)) rfl ?_)
 refine Rg_nil ?_
 refine Wp_seq ?_
 refine Wp_seq ?_
 refine Wp_region ?_
 refine Rg_op rfl (op_assign (v := (Value.int .i64 0)) rfl ?_)
 refine Rg_nil ?_
 refine Wp_block ?_
 refine Wp_reset [] [(0, (Value.slice a_l l.length c_l)), (3, (Value.int .i64 0))] rfl ⟨rfl, rfl, trivial⟩ fun ξ2 => ?_
 refine Wp_loopM [2, 3, 4, 5, 6, 7, 8, 9, 10, 11, 12, 13, 14, 15] (fun m fr w' => ∃ (i_1 : Int) (Ebs : Ents), Ebs = [] ∧ fr [] [(3, (Value.int .i64 i_1))] ∧ Step (ks [] O) w (ks Ebs O) w' ∧ St ⟨w, [], []⟩ O w' Ebs ∧ InK .i64 i_1 ∧ loop1 (m41_overflightref06_small_B0 l) m i_1 = some x) (((l.length : Int) - 0).toNat + 1) ⟨0, _, rfl, ⟨Out.refl _ _, rfl, rfl, trivial⟩, Step.refl _ _, hs, (show InK .i64 0 from by decide), hm⟩ ?_ ?_
 · rintro _ _ ⟨_, _, _, _, _, _, _, hm⟩; exact loop1_z hm
 ·
  rintro m6 K5 hK5 ρ11 w7 ⟨i_1, Ebs, hEbs, hfr10, hst9, hs8, r_y1, hm⟩
  obtain ⟨sf3, hsf4, hm⟩ := loop1_s hm; unfold m41_overflightref06_small_B0 at hm
  subst hEbs; rw [hfr10.eq]; clear hfr10
  replace f_l := f_l.step hst9
  have ch12 := hst9
  refine Wp_seq ?_
  refine Wp_seq ?_
  refine Wp_region ?_
  refine Rg_op rfl (op_move (v := (Value.int .i64 i_1)) rfl ?_)
  refine Rg_op rfl (op_move (v := (Value.slice a_l l.length c_l)) rfl ?_)
  refine Rg_op rfl (op_len Try.underlying33 rfl ?_)
  have rl13 := inK_len f_l
  refine Rg_op rfl (op_lss rfl rfl ?_)
  refine Rg_nil ?_
  refine Wp_cond rfl (fun hc14 => ?_) (fun hc14 => ?_)
  ·
   replace hm := bif_t hm hc14
   refine Wp_skip ?_
   refine Wp_seq ?_
   refine Wp_block ?_
   refine Wp_seq ?_
   refine Wp_region ?_
   refine Rg_op rfl (op_move (v := (Value.slice a_l l.length c_l)) rfl ?_)
   refine Rg_op rfl (op_move (v := (Value.int .i64 i_1)) rfl ?_)
   replace hm := ck_some hm; obtain ⟨hc15, hm⟩ := hm
   refine Rg_op rfl (op_indexAddr (q := (rSl (rInt .i64))) ty33 ty22 rfl rfl f_l rfl hc15.1 hc15.2 ?_)
   intro p16 f17
   refine Rg_op rfl (op_loadP ty22 rfl f17 rfl ?_)
   intro v18 h19
   obtain ⟨a_y20, c_y20, rfl, f_y20⟩ := un_sl h19
   replace hm := bd hm; obtain ⟨small_1, hv21, hm⟩ := hm
   refine Rg_op rfl (op_call Try.call31 (c31_overflightref06_Small (a := (l.getD i_1.toNat default)) hs8.ltw f_y20 hv21) rfl ?_)
   rintro v22 w23 ⟨hx24, h25⟩
   have hs26 := hs8.call hx24
   have p27 := Step.ext (O := ks [] O) hx24
   clear hx24
   replace f_l := f_l.step p27; replace f17 := f17.step p27; replace f_y20 := f_y20.step p27; replace ch12 := ch12.trans p27; clear p27 hs8
   obtain rfl := h25
   refine Rg_op rfl (op_not rfl ?_)
   refine Rg_nil ?_
   refine Wp_cond rfl (fun hc29 => ?_) (fun hc29 => ?_)
   ·
    replace hm := bif_t hm hc29
    refine Wp_seq ?_
    clear f_l f17 f_y20
    refine Wp_region ?_
    refine Rg_op rfl (op_assign (v := (Value.bool false)) rfl ?_)
    refine Rg_nil ?_
    refine Wp_ret ?_
    have hz := step_all hs26
    refine ⟨_, (show Closes [] _ _ from rfl), [(Value.bool false)], ⟨rfl, trivial⟩, hs26.ext, ?_⟩
    exact Vr.eq (a := vB) (x := false) rfl (Option.some.inj hm)
   ·
    replace hm := bif_f hm hc29
    refine Wp_skip ?_
    clear f17 f_y20
    refine Wp_region ?_
    refine Rg_op rfl (op_move (v := (Value.int .i64 i_1)) rfl ?_)
    refine Rg_op rfl (op_addw rfl rfl ?_)
    refine Rg_op rfl (op_assign (v := (Value.int .i64 (IntKind.wrap .i64 (i_1 + 1)))) rfl ?_)
    refine Rg_nil ?_
    exact hK5 _ _ ⟨(IntKind.wrap .i64 (i_1 + 1)), _, rfl, ⟨(by repeat (first | with_reducible exact Out.refl _ _ | refine Out.upd ?_ rfl | refine Out.updL ?_ rfl | refine Out.mix' ?_ rfl | exact Out.refl _ _)), rfl, rfl, trivial⟩, ch12, hs26, (inK_wrap .i64 _), jnE1 hsf4 hm⟩
  ·
   replace hm := bif_f hm hc14
   refine Wp_exit ?_
   refine Wp_seq ?_
   clear f_l
   refine Wp_region ?_
   refine Rg_op rfl (op_assign (v := (Value.bool true)) rfl ?_)
   refine Rg_nil ?_
   refine Wp_ret ?_
   have hz := step_all hs8
   refine ⟨_, (show Closes [] _ _ from rfl), [(Value.bool true)], ⟨rfl, trivial⟩, hs8.ext, ?_⟩
   exact Vr.eq (a := vB) (x := true) rfl (Option.some.inj hm)

end Go.Fx



set_option linter.unusedVariables false
set_option linter.unusedSimpArgs false
set_option maxRecDepth 100000
set_option maxHeartbeats 0
namespace Go.Fx
open Go Go.RowKit Go.Proofs
def m24_overflightref06_Sums_B1 (a : List (List Int)) (b : List (List Int)) (i_1 : Int) (sf73 : (List (List Int)) → Int → Option ((List (List Int)) × Int)) (sf89 : (List (List Int)) → Int → Option ((List (List Int)) × Int)) (all_2 : List (List Int)) (k_1 : Int) : Option ((List (List Int)) × Int) :=
 bif (decide (k_1 < (b.length : Int))) then
  ck ((0 : Int) ≤ i_1 ∧ i_1 < (a.length : Int)) <|
  ck ((0 : Int) ≤ k_1 ∧ k_1 < (b.length : Int)) <|
  (m14_overflightref06_Add (a.getD i_1.toNat default) (b.getD k_1.toNat default)).bind fun add_1 =>
  ck ((all_2.length + [add_1.1].length) * 24 ≤ 140737488355328) <|
  sf89 (all_2 ++ [add_1.1]) (IntKind.wrap .i64 (k_1 + 1))
 else
  sf73 all_2 (IntKind.wrap .i64 (i_1 + 1))

def m24_overflightref06_Sums_B0 (a : List (List Int)) (b : List (List Int)) (sf73 : (List (List Int)) → Int → Option ((List (List Int)) × Int)) (all_1 : List (List Int)) (i_1 : Int) : Option ((List (List Int)) × Int) :=
 bif (decide (i_1 < (a.length : Int))) then
  loop2 (m24_overflightref06_Sums_B1 a b i_1 sf73) (((b.length : Int) - 0).toNat + 1) all_1 0
 else
  (m39_overflightref06_least all_1).bind fun least_1 =>
  bif (decide (4096 < (least_1.length : Int))) then
   some (([] : List (List Int)), 2)
  else
   some (least_1, 0)

def m24_overflightref06_Sums (a : List (List Int)) (b : List (List Int)) : Option ((List (List Int)) × Int) :=
 ck ((([] : List (List Int)).length + a.length) * 24 ≤ 140737488355328) <|
 ck (((([] : List (List Int)) ++ a).length + b.length) * 24 ≤ 140737488355328) <|
 bif (decide ((((([] : List (List Int)) ++ a) ++ b).length : Int) = 0)) then
  some (([] : List (List Int)), 0)
 else
  jn (fun (v_1 : Bool) =>
   bif v_1 then
    some (([] : List (List Int)), 60)
   else
    jn (fun (v_2 : Bool) =>
     bif v_2 then
      some (([] : List (List Int)), 2)
     else
      loop2 (m24_overflightref06_Sums_B0 a b) (((a.length : Int) - 0).toNat + 1) [] 0)
    (fun k51 =>
     bif (decide (4096 < (a.length : Int))) then
      k51 true
     else
      bif (decide (4096 < (b.length : Int))) then
       k51 true
      else
       k51 (decide (1048576 < (IntKind.wrap .i64 ((a.length : Int) * (b.length : Int)))))))
  (fun k38 =>
   ck ((0 : Int) ≤ 0 ∧ 0 < (((([] : List (List Int)) ++ a) ++ b).length : Int)) <|
   (m38_overflightref06_alike ((([] : List (List Int)) ++ a) ++ b) ((((([] : List (List Int)) ++ a) ++ b).getD 0 default).length : Int)).bind fun alike_1 =>
   bif (!alike_1) then
    k38 true
   else
    (m41_overflightref06_small ((([] : List (List Int)) ++ a) ++ b)).bind fun small_1 =>
    k38 (!small_1))

theorem c24_overflightref06_Sums {w : World} {O : List Nat} {a : List (List Int)} {b : List (List Int)} {a_a : Option Addr} {c_a : Nat} {a_b : Option Addr} {c_b : Nat} (hO : ∀ k ∈ O, k < w.heap.size) (f_a : SlR (rSl (rInt .i64)) w O a_a c_a a) (f_b : SlR (rSl (rInt .i64)) w O a_b c_b b) {x : (List (List Int)) × Int} (hm : m24_overflightref06_Sums a b = some x) :
  Ok Try.prog 24 [(Value.slice a_a a.length c_a), (Value.slice a_b b.length c_b)] w O (vT2 (vC (rSl (rSl (rInt .i64)))) (vI .i64)) x := by
 unfold m24_overflightref06_Sums at hm
 refine Fn_of_Wp (n := 84) (xs := [.tmp 4, .tmp 5]) Try.func24 rfl Try.ntmps24 Try.results24 rfl ?_
 have hs := St.start hO
 refine Wp_seq ?_
 refine Wp_region ?_
 refine Rg_op rfl (op_assign (v := (Value.slice none 0 0)) rfl ?_)
 refine Rg_op rfl (op_assign (v := (Value.int .i64 0)) rfl ?_)
 refine Rg_nil ?_
 refine Wp_seq ?_
 refine Wp_region ?_
 refine Rg_op rfl (op_buildSlice (cs := []) (parts := []) ty33 ty22 hs (by decide) rfl ?_)
 intro b1 w2 hx5 p3 hs4
 replace f_a := f_a.step p3; replace f_b := f_b.step p3; clear p3
 refine Rg_op rfl (op_move (v := (Value.slice a_a a.length c_a)) rfl ?_)
 have f7 := Gs.of_cells (p := (rSl (rInt .i64))) (e := 22) (bl := b1) (c := 0) (w := w2) (O := ks [(some b1, Obj.cells [].toArray 22)] O) (show Els (rSl (rInt .i64)) _ _ [] [] from Els.nil) rfl (le_lit rfl)
 replace hm := ck_some hm; obtain ⟨hc8, hm⟩ := hm
 obtain ⟨ns9, he10, hr11⟩ := f_a.src
 refine Rg_op rfl (op_append (q := (rSl (rInt .i64))) (i := 0) (xs := ([] : List (List Int))) (ys := a) (news := ns9) ty33 ty22 rfl (by decide) hs4 rfl rfl f7 rfl hr11 he10 hc8 (by have := hc8; simp only [maxLen]; omega) ?_)
 intro a15 c16 k17 o18 w12 p13 hs14 f19
 replace f_a := f_a.step p13; replace f_b := f_b.step p13; clear p13 hs4
 refine Rg_op rfl (op_move (v := (Value.slice a_b b.length c_b)) rfl ?_)
 replace hm := ck_some hm; obtain ⟨hc20, hm⟩ := hm
 obtain ⟨ns21, he22, hr23⟩ := f_b.src
 refine Rg_op rfl (op_append (q := (rSl (rInt .i64))) (i := 0) (xs := (([] : List (List Int)) ++ a)) (ys := b) (news := ns21) ty33 ty22 rfl (by decide) hs14 rfl rfl f19 rfl hr23 he22 hc20 (by have := hc20; simp only [maxLen]; omega) ?_)
 intro a27 c28 k29 o30 w24 p25 hs26 f31
 replace f_a := f_a.step p25; replace f_b := f_b.step p25; clear p25 hs14
 refine Rg_op rfl (op_assign (v := (Value.slice a27 ((([] : List (List Int)) ++ a) ++ b).length c28)) rfl ?_)
 refine Rg_nil ?_
 refine Wp_seq ?_
 refine Wp_seq ?_
 refine Wp_region ?_
 refine Rg_op rfl (op_move (v := (Value.slice a27 ((([] : List (List Int)) ++ a) ++ b).length c28)) rfl ?_)
 refine Rg_op rfl (op_len Try.underlying33 rfl ?_)
 have rl32 := inK_lenG f31
 refine Rg_op rfl (op_eql rfl rfl ?_)
 refine Rg_nil ?_
 refine Wp_cond rfl (fun hc33 => ?_) (fun hc33 => ?_)
 ·
  replace hm := bif_t hm hc33
  refine Wp_seq ?_
  obtain ⟨hs34, p35⟩ := hs26.sub (bs' := []) (.cons _ List.Sublist.slnil)
  clear f_a f_b f31
  clear p35 hs26
  refine Wp_region ?_
  refine Rg_op rfl (op_assign (v := (Value.slice none 0 0)) rfl ?_)
  refine Rg_op rfl (op_assign (v := (Value.int .i64 0)) rfl ?_)
  refine Rg_nil ?_
  refine Wp_ret ?_
  have hz := step_all hs34
  refine ⟨_, (show Closes [] _ _ from rfl), [(Value.slice none 0 0), (Value.int .i64 0)], ⟨rfl, rfl, trivial⟩, hs34.ext, ?_⟩
  exact Vr.eq (a := (vT2 (vC (rSl (rSl (rInt .i64)))) (vI .i64))) (x := (([] : List (List Int)), 0)) (mkT2 (mkC (mk_sl SlR.nil_)) ⟨rfl, (show InK .i64 0 from by decide)⟩) (Option.some.inj hm)
 ·
  replace hm := bif_f hm hc33
  refine Wp_skip ?_
  refine Wp_seq ?_
  refine Wp_reset [] [(0, (Value.slice a_a a.length c_a)), (1, (Value.slice a_b b.length c_b)), (6, (Value.slice a27 ((([] : List (List Int)) ++ a) ++ b).length c28))] rfl ⟨rfl, rfl, rfl, trivial⟩ fun ξ36 => ?_
  replace hm := jn_elim hm; obtain ⟨k38, hk39, hm⟩ := hm
  refine Wp_seqJ [21, 22, 23, 24, 25, 26, 27, 28, 29, 30, 31, 32] (fun fr w' => ∃ (v_1 : Bool) (Ebs : Ents), Ebs = [(k29, o30)] ∧ fr [] [(32, (Value.bool v_1))] ∧ Step (ks [(k29, o30)] O) w24 (ks Ebs O) w' ∧ St ⟨w, [], []⟩ O w' Ebs ∧ k38 v_1 = some x) ?_ ?_
  ·
   rintro ρ45 w41 ⟨v_1, Ebs, hEbs, hfr44, hst43, hs42, hm⟩
   replace hm := jnE1 hk39 hm
   subst hEbs; rw [hfr44.eq]; clear hfr44
   replace f_a := f_a.step hst43; replace f_b := f_b.step hst43; replace f31 := f31.step hst43; clear hst43 hs26
   refine Wp_cond rfl (fun hc46 => ?_) (fun hc46 => ?_)
   ·
    replace hm := bif_t hm hc46
    refine Wp_seq ?_
    obtain ⟨hs47, p48⟩ := hs42.sub (bs' := []) (.cons _ List.Sublist.slnil)
    clear f_a f_b f31
    clear p48 hs42
    refine Wp_region ?_
    refine Rg_op rfl (op_assign (v := (Value.slice none 0 0)) rfl ?_)
    refine Rg_op rfl (op_assign (v := (Value.int .i64 60)) rfl ?_)
    refine Rg_nil ?_
    refine Wp_ret ?_
    have hz := step_all hs47
    refine ⟨_, (show Closes [] _ _ from rfl), [(Value.slice none 0 0), (Value.int .i64 60)], ⟨rfl, rfl, trivial⟩, hs47.ext, ?_⟩
    exact Vr.eq (a := (vT2 (vC (rSl (rSl (rInt .i64)))) (vI .i64))) (x := (([] : List (List Int)), 60)) (mkT2 (mkC (mk_sl SlR.nil_)) ⟨rfl, (show InK .i64 60 from by decide)⟩) (Option.some.inj hm)
   ·
    replace hm := bif_f hm hc46
    refine Wp_skip ?_
    refine Wp_seq ?_
    refine Wp_reset [] [(0, (Value.slice a_a a.length c_a)), (1, (Value.slice a_b b.length c_b))] rfl ⟨rfl, rfl, trivial⟩ fun ξ49 => ?_
    replace hm := jn_elim hm; obtain ⟨k51, hk52, hm⟩ := hm
    refine Wp_seqJ [33, 34, 35, 36, 37, 38, 39, 40, 41, 42, 43, 44, 45, 46, 47, 48] (fun fr w' => ∃ (v_2 : Bool) (Ebs : Ents), Ebs = [(k29, o30)] ∧ fr [] [(48, (Value.bool v_2))] ∧ Step (ks [(k29, o30)] O) w41 (ks Ebs O) w' ∧ St ⟨w, [], []⟩ O w' Ebs ∧ k51 v_2 = some x) ?_ ?_
    ·
     rintro ρ58 w54 ⟨v_2, Ebs, hEbs, hfr57, hst56, hs55, hm⟩
     replace hm := jnE1 hk52 hm
     subst hEbs; rw [hfr57.eq]; clear hfr57
     replace f_a := f_a.step hst56; replace f_b := f_b.step hst56; replace f31 := f31.step hst56; clear hst56 hs42
     refine Wp_cond rfl (fun hc59 => ?_) (fun hc59 => ?_)
     ·
      replace hm := bif_t hm hc59
      refine Wp_seq ?_
      obtain ⟨hs60, p61⟩ := hs55.sub (bs' := []) (.cons _ List.Sublist.slnil)
      clear f_a f_b f31
      clear p61 hs55
      refine Wp_region ?_
      refine Rg_op rfl (op_assign (v := (Value.slice none 0 0)) rfl ?_)
      refine Rg_op rfl (op_assign (v := (Value.int .i64 2)) rfl ?_)
      refine Rg_nil ?_
      refine Wp_ret ?_
      have hz := step_all hs60
      refine ⟨_, (show Closes [] _ _ from rfl), [(Value.slice none 0 0), (Value.int .i64 2)], ⟨rfl, rfl, trivial⟩, hs60.ext, ?_⟩
      exact Vr.eq (a := (vT2 (vC (rSl (rSl (rInt .i64)))) (vI .i64))) (x := (([] : List (List Int)), 2)) (mkT2 (mkC (mk_sl SlR.nil_)) ⟨rfl, (show InK .i64 2 from by decide)⟩) (Option.some.inj hm)
     ·
      replace hm := bif_f hm hc59
      refine Wp_skip ?_
      refine Wp_seq ?_
      obtain ⟨hs62, p63⟩ := hs55.sub (bs' := []) (.cons _ List.Sublist.slnil)
      clear f31
      replace f_a := f_a.step p63; replace f_b := f_b.step p63; clear p63 hs55
      refine Wp_region ?_
      refine Rg_op rfl (op_buildSlice (cs := []) (parts := []) ty33 ty22 hs62 (by decide) rfl ?_)
      intro b64 w65 hx68 p66 hs67
      replace f_a := f_a.step p66; replace f_b := f_b.step p66; clear p66 hs62
      refine Rg_op rfl (op_assign (v := (Value.slice (some ⟨b64, 0, none⟩) 0 0)) rfl ?_)
      refine Rg_nil ?_
      refine Wp_seq ?_
      refine Wp_seq ?_
      refine Wp_region ?_
      refine Rg_op rfl (op_assign (v := (Value.int .i64 0)) rfl ?_)
      refine Rg_nil ?_
      refine Wp_block ?_
      refine Wp_reset [] [(0, (Value.slice a_a a.length c_a)), (1, (Value.slice a_b b.length c_b)), (7, (Value.slice (some ⟨b64, 0, none⟩) 0 0)), (8, (Value.int .i64 0))] rfl ⟨rfl, rfl, rfl, rfl, trivial⟩ fun ξ72 => ?_
      have f77 := Gs.of_cells (p := (rSl (rInt .i64))) (e := 22) (bl := b64) (c := 0) (w := w65) (O := ks [(some b64, Obj.cells [].toArray 22)] O) (show Els (rSl (rInt .i64)) _ _ [] [] from Els.nil) rfl (le_lit rfl)
      refine Wp_loopM [7, 8, 9, 10, 11, 50, 51, 52, 53, 54, 55, 56, 57, 58, 59, 60, 61, 62, 63, 64, 65, 66, 67, 68, 69, 70, 71, 72, 73, 74, 75, 76, 77] (fun m fr w' => ∃ (all_1 : List (List Int)) (i_1 : Int) (a_g70 : Option Addr) (c_g70 : Nat) (k_g70 : Option Nat) (o_g70 : Obj) (Ebs : Ents), Ebs = [(k_g70, o_g70)] ∧ fr [] [(7, (Value.slice a_g70 all_1.length c_g70)), (8, (Value.int .i64 i_1))] ∧ Step (ks [(some b64, Obj.cells [].toArray 22)] O) w65 (ks Ebs O) w' ∧ St ⟨w, [], []⟩ O w' Ebs ∧ Gs (rSl (rInt .i64)) 22 w' (ks Ebs O) a_g70 c_g70 all_1 k_g70 o_g70 ∧ InK .i64 i_1 ∧ loop2 (m24_overflightref06_Sums_B0 a b) m all_1 i_1 = some x) (((a.length : Int) - 0).toNat + 1) ⟨[], 0, (some ⟨b64, 0, none⟩), 0, (some b64), (Obj.cells [].toArray 22), _, rfl, ⟨Out.refl _ _, rfl, rfl, rfl, trivial⟩, Step.refl _ _, hs67, f77, (show InK .i64 0 from by decide), hm⟩ ?_ ?_
      · rintro _ _ ⟨_, _, _, _, _, _, _, _, _, _, _, _, _, hm⟩; exact loop2_z hm
      ·
       rintro m76 K75 hK75 ρ82 w78 ⟨all_1, i_1, a_g70, c_g70, k_g70, o_g70, Ebs, hEbs, hfr81, hst80, hs79, f_g70, r_y71, hm⟩
       obtain ⟨sf73, hsf74, hm⟩ := loop2_s hm; unfold m24_overflightref06_Sums_B0 at hm
       subst hEbs; rw [hfr81.eq]; clear hfr81
       replace f_a := f_a.step hst80; replace f_b := f_b.step hst80; replace f77 := f77.step hst80
       have ch83 := hst80
       refine Wp_seq ?_
       refine Wp_seq ?_
       clear f77
       refine Wp_region ?_
       refine Rg_op rfl (op_move (v := (Value.int .i64 i_1)) rfl ?_)
       refine Rg_op rfl (op_move (v := (Value.slice a_a a.length c_a)) rfl ?_)
       refine Rg_op rfl (op_len Try.underlying33 rfl ?_)
       have rl84 := inK_len f_a
       refine Rg_op rfl (op_lss rfl rfl ?_)
       refine Rg_nil ?_
       refine Wp_cond rfl (fun hc85 => ?_) (fun hc85 => ?_)
       ·
        replace hm := bif_t hm hc85
        refine Wp_skip ?_
        refine Wp_seq ?_
        refine Wp_block ?_
        refine Wp_seq ?_
        refine Wp_region ?_
        refine Rg_op rfl (op_assign (v := (Value.int .i64 0)) rfl ?_)
        refine Rg_nil ?_
        refine Wp_block ?_
        refine Wp_reset2 [7, 8, 9, 10, 11, 50, 51, 52, 53, 54, 55, 56, 57, 58, 59, 60, 61, 62, 63, 64, 65, 66, 67, 68, 69, 70, 71, 72, 73, 74, 75, 76, 77] [] (updL ⟨ξ72, []⟩ [(0, (Value.slice a_a a.length c_a)), (1, (Value.slice a_b b.length c_b)), (7, (Value.slice (some ⟨b64, 0, none⟩) 0 0)), (8, (Value.int .i64 0))]) [(7, (Value.slice a_g70 all_1.length c_g70)), (8, (Value.int .i64 i_1)), (9, (Value.int .i64 0))] (by repeat (first | with_reducible exact Out.refl _ _ | refine Out.upd ?_ rfl | refine Out.updL ?_ rfl | refine Out.mix' ?_ rfl | exact Out.refl _ _)) rfl ⟨rfl, rfl, rfl, trivial⟩ fun ξ88 => ?_
        refine Wp_loopM [7, 9, 10, 11, 56, 57, 58, 59, 60, 61, 62, 63, 64, 65, 66, 67, 68, 69, 70, 71, 72, 73, 74, 75, 76, 77] (fun m fr w' => ∃ (all_2 : List (List Int)) (k_1 : Int) (a_g86 : Option Addr) (c_g86 : Nat) (k_g86 : Option Nat) (o_g86 : Obj) (Ebs : Ents), Ebs = [(k_g86, o_g86)] ∧ fr [] [(7, (Value.slice a_g86 all_2.length c_g86)), (9, (Value.int .i64 k_1))] ∧ Step (ks [(k_g70, o_g70)] O) w78 (ks Ebs O) w' ∧ St ⟨w, [], []⟩ O w' Ebs ∧ Gs (rSl (rInt .i64)) 22 w' (ks Ebs O) a_g86 c_g86 all_2 k_g86 o_g86 ∧ InK .i64 k_1 ∧ loop2 (m24_overflightref06_Sums_B1 a b i_1 sf73) m all_2 k_1 = some x) (((b.length : Int) - 0).toNat + 1) ⟨all_1, 0, a_g70, c_g70, k_g70, o_g70, _, rfl, ⟨Out.refl _ _, rfl, rfl, rfl, trivial⟩, Step.refl _ _, hs79, f_g70, (show InK .i64 0 from by decide), hm⟩ ?_ ?_
        · rintro _ _ ⟨_, _, _, _, _, _, _, _, _, _, _, _, _, hm⟩; exact loop2_z hm
        ·
         rintro m92 K91 hK91 ρ97 w93 ⟨all_2, k_1, a_g86, c_g86, k_g86, o_g86, Ebs, hEbs, hfr96, hst95, hs94, f_g86, r_y87, hm⟩
         obtain ⟨sf89, hsf90, hm⟩ := loop2_s hm; unfold m24_overflightref06_Sums_B1 at hm
         subst hEbs; rw [hfr96.eq]; clear hfr96
         replace f_a := f_a.step hst95; replace f_b := f_b.step hst95; replace f_g70 := f_g70.step hst95; replace ch83 := ch83.trans hst95
         have ch98 := hst95
         refine Wp_seq ?_
         refine Wp_seq ?_
         clear f_g70
         refine Wp_region ?_
         refine Rg_op rfl (op_move (v := (Value.int .i64 k_1)) rfl ?_)
         refine Rg_op rfl (op_move (v := (Value.slice a_b b.length c_b)) rfl ?_)
         refine Rg_op rfl (op_len Try.underlying33 rfl ?_)
         have rl99 := inK_len f_b
         refine Rg_op rfl (op_lss rfl rfl ?_)
         refine Rg_nil ?_
         refine Wp_cond rfl (fun hc100 => ?_) (fun hc100 => ?_)
         ·
          replace hm := bif_t hm hc100
          refine Wp_skip ?_
          refine Wp_seq ?_
          refine Wp_block ?_
          refine Wp_seq ?_
          refine Wp_drawR (g0 := []) (m := 12) (fl := [11]) (TS_inv hs94) rfl (.inl rfl) rfl (by decide +kernel) ?_  -- 15
          refine Dw_eq (Value.slice a_a a.length c_a) (fun ρ101 w102 g hle hi ht => ?_) ?_
          ·
           obtain ⟨-, hst, -⟩ := hle
           refine StepOp_plain (op_move (v := (Value.slice a_a a.length c_a)) (ht 0 rfl) ?_)
           exact Goes.same hi rfl
          refine Dw_eq (Value.int .i64 i_1) (fun ρ104 w105 g hle hi ht => ?_) ?_
          ·
           obtain ⟨-, hst, -⟩ := hle
           refine StepOp_plain (op_move (v := (Value.int .i64 i_1)) (ht 8 rfl) ?_)
           exact Goes.same hi rfl
          replace hm := ck_some hm; obtain ⟨hc110, hm⟩ := hm
          refine Dw_op (VP O [(k_g86, o_g86)] (rSl (rInt .i64)) (a.getD i_1.toNat default)) (VP.stab _ _) (fun ρ107 w108 g hle hi ht => ?_) ?_
          ·
           obtain ⟨-, hst, -⟩ := hle
           replace f_a := f_a.step hst
           refine StepOp_plain (op_indexAddr (q := (rSl (rInt .i64))) ty33 ty22 (ht 63 rfl) (ht 64 rfl) f_a rfl hc110.1 hc110.2 ?_)
           intro p111 f112
           exact Goes.same hi ⟨_, rfl, f112⟩
          refine Dw_op (VD O [(k_g86, o_g86)] (vC (rSl (rInt .i64))) (a.getD i_1.toNat default)) (VD.stab _ _) (fun ρ113 w114 g hle hi ht => ?_) ?_
          ·
           obtain ⟨-, hst, -⟩ := hle
           obtain ⟨p116, q117, f118⟩ := ht 65 rfl
           refine StepOp_plain (op_loadP ty22 q117 f118 rfl ?_)
           intro v119 h120
           obtain ⟨a_y121, c_y121, rfl, f_y121⟩ := un_sl h120
           exact Goes.same hi (show Vr.vd (vC (rSl (rInt .i64))) _ _ _ _ from (mkC (mk_sl f_y121)))
          refine Dw_eq (Value.slice a_b b.length c_b) (fun ρ122 w123 g hle hi ht => ?_) ?_
          ·
           obtain ⟨-, hst, -⟩ := hle
           refine StepOp_plain (op_move (v := (Value.slice a_b b.length c_b)) (ht 1 rfl) ?_)
           exact Goes.same hi rfl
          refine Dw_eq (Value.int .i64 k_1) (fun ρ125 w126 g hle hi ht => ?_) ?_
          ·
           obtain ⟨-, hst, -⟩ := hle
           refine StepOp_plain (op_move (v := (Value.int .i64 k_1)) (ht 9 rfl) ?_)
           exact Goes.same hi rfl
          replace hm := ck_some hm; obtain ⟨hc131, hm⟩ := hm
          refine Dw_op (VP O [(k_g86, o_g86)] (rSl (rInt .i64)) (b.getD k_1.toNat default)) (VP.stab _ _) (fun ρ128 w129 g hle hi ht => ?_) ?_
          ·
           obtain ⟨-, hst, -⟩ := hle
           replace f_b := f_b.step hst
           refine StepOp_plain (op_indexAddr (q := (rSl (rInt .i64))) ty33 ty22 (ht 67 rfl) (ht 68 rfl) f_b rfl hc131.1 hc131.2 ?_)
           intro p132 f133
           exact Goes.same hi ⟨_, rfl, f133⟩
          refine Dw_op (VD O [(k_g86, o_g86)] (vC (rSl (rInt .i64))) (b.getD k_1.toNat default)) (VD.stab _ _) (fun ρ134 w135 g hle hi ht => ?_) ?_
          ·
           obtain ⟨-, hst, -⟩ := hle
           obtain ⟨p137, q138, f139⟩ := ht 69 rfl
           refine StepOp_plain (op_loadP ty22 q138 f139 rfl ?_)
           intro v140 h141
           obtain ⟨a_y142, c_y142, rfl, f_y142⟩ := un_sl h141
           exact Goes.same hi (show Vr.vd (vC (rSl (rInt .i64))) _ _ _ _ from (mkC (mk_sl f_y142)))
          replace hm := bd hm; obtain ⟨add_1, hv152, hm⟩ := hm
          refine Dw_op (VD O [(k_g86, o_g86)] (vT2 (vC (rSl (rInt .i64))) (vI .i64)) add_1) (VD.stab _ _) (fun ρ143 w144 g hle hi ht => ?_) ?_
          ·
           obtain ⟨-, hst, -⟩ := hle
           have h146 : Vr.vd (vC (rSl (rInt .i64))) _ _ _ _ := ht 66 rfl
           obtain ⟨a_y148, c_y148, q147, f_y148⟩ := un_sl h146
           have h149 : Vr.vd (vC (rSl (rInt .i64))) _ _ _ _ := ht 70 rfl
           obtain ⟨a_y151, c_y151, q150, f_y151⟩ := un_sl h149
           refine StepOp_plain (op_call Try.call14 (c14_overflightref06_Add (O := ks (ents g ++ [(k_g86, o_g86)]) O) (a := (a.getD i_1.toNat default)) (b := (b.getD k_1.toNat default)) hi.ltw f_y148 f_y151 hv152) (by simp only [List.map, Array.toList, (show ev _ (.tmp 66) = _ from q147), (show ev _ (.tmp 70) = _ from q150)] <;> rfl) ?_)
           rintro v153 w154 ⟨hx155, h156⟩
           exact Goes.call hi hx155 h156
          refine Dw_op (VD O [(k_g86, o_g86)] (vT2 (vC (rSl (rInt .i64))) (vI .i64)) add_1) (VD.stab _ _) (fun ρ158 w159 g hle hi ht => ?_) ?_
          ·
           obtain ⟨-, hst, -⟩ := hle
           have h : Vr.vd (vT2 (vC (rSl (rInt .i64))) (vI .i64)) _ _ _ _ := ht 71 rfl
           refine StepOp_plain (op_move rfl (Goes.same hi h))
          refine Dw_op (VD O [(k_g86, o_g86)] (vC (rSl (rInt .i64))) add_1.1) (VD.stab _ _) (fun ρ169 w170 g hle hi ht => ?_) ?_
          ·
           obtain ⟨-, hst, -⟩ := hle
           have h172 : Vr.vd (vT2 (vC (rSl (rInt .i64))) (vI .i64)) _ _ _ _ := ht 62 rfl
           obtain ⟨v174, v175, q173, h176, h177⟩ := h172
           obtain ⟨a_y178, c_y178, rfl, f_y178⟩ := un_sl h176
           obtain ⟨rfl, r_y179⟩ := h177
           refine StepOp_plain (op_extract (v := (Value.slice a_y178 add_1.1.length c_y178)) q173 rfl ?_)
           exact Goes.same hi (show Vr.vd (vC (rSl (rInt .i64))) _ _ _ _ from (mkC (mk_sl f_y178)))
          refine Dw_op (VD O [(k_g86, o_g86)] (vI .i64) add_1.2) (VD.stab _ _) (fun ρ180 w181 g hle hi ht => ?_) ?_
          ·
           obtain ⟨-, hst, -⟩ := hle
           have h183 : Vr.vd (vT2 (vC (rSl (rInt .i64))) (vI .i64)) _ _ _ _ := ht 62 rfl
           obtain ⟨v185, v186, q184, h187, h188⟩ := h183
           obtain ⟨a_y189, c_y189, rfl, f_y189⟩ := un_sl h187
           obtain ⟨rfl, r_y190⟩ := h188
           refine StepOp_plain (op_extract (v := (Value.int .i64 add_1.2)) q184 rfl ?_)
           exact Goes.same hi (show Vr.vd (vI .i64) _ _ _ _ from ⟨rfl, r_y190⟩)
          refine Dw_nil fun w195 g196 hl197 hi198 => ?_
          obtain ⟨-, hst199, -⟩ := hl197
          obtain ⟨hs201, p200⟩ := Step.nx hi198
          rintro v202 h203
          replace h203 : Vr.vd (vI .i64) _ _ _ _ := h203
          obtain ⟨rfl, r_y204⟩ := h203
          rintro v205 h206
          replace h206 : Vr.vd (vC (rSl (rInt .i64))) _ _ _ _ := h206
          obtain ⟨a_y207, c_y207, rfl, f_y207⟩ := un_sl h206
          rintro v208 h209
          replace h209 : Vr.vd (vT2 (vC (rSl (rInt .i64))) (vI .i64)) _ _ _ _ := h209
          obtain ⟨v210, v211, rfl, h212, h213⟩ := h209
          obtain ⟨a_y214, c_y214, rfl, f_y214⟩ := un_sl h212
          obtain ⟨rfl, r_y215⟩ := h213
          rintro v216 h217
          replace h217 : Vr.vd (vT2 (vC (rSl (rInt .i64))) (vI .i64)) _ _ _ _ := h217
          obtain ⟨v218, v219, rfl, h220, h221⟩ := h217
          obtain ⟨a_y222, c_y222, rfl, f_y222⟩ := un_sl h220
          obtain ⟨rfl, r_y223⟩ := h221
          rintro v224 h225
          replace h225 : Vr.vd (vC (rSl (rInt .i64))) _ _ _ _ := h225
          obtain ⟨a_y226, c_y226, rfl, f_y226⟩ := un_sl h225
          rintro _ ⟨p227, rfl, f228⟩
          rintro _ rfl
          rintro _ rfl
          rintro v229 h230
          replace h230 : Vr.vd (vC (rSl (rInt .i64))) _ _ _ _ := h230
          obtain ⟨a_y231, c_y231, rfl, f_y231⟩ := un_sl h230
          rintro _ ⟨p232, rfl, f233⟩
          rintro _ rfl
          rintro _ rfl
          have p234 : Step (ks [(k_g86, o_g86)] O) w93 (ks [(k_g86, o_g86)] O) w195 := hst199.trans p200
          replace f_y207 := f_y207.step p200; replace f_y214 := f_y214.step p200; replace f_y222 := f_y222.step p200; replace f_y226 := f_y226.step p200; replace f228 := f228.step p200; replace f_y231 := f_y231.step p200; replace f233 := f233.step p200; replace f_a := f_a.step p234; replace f_b := f_b.step p234; replace f_g86 := f_g86.step p234; replace ch83 := ch83.trans p234; replace ch98 := ch98.trans p234; clear p234 hs94
          refine Rg_op rfl (op_assign (v := (Value.slice a_y207 add_1.1.length c_y207)) rfl ?_)
          refine Rg_op rfl (op_assign (v := (Value.int .i64 add_1.2)) rfl ?_)
          refine Rg_nil ?_
          clear f_y214 f_y222 f_y226 f228 f_y231 f233
          refine Wp_region ?_
          refine Rg_op rfl (op_move (v := (Value.slice a_g86 all_2.length c_g86)) rfl ?_)
          refine Rg_op rfl (op_move (v := (Value.slice a_y207 add_1.1.length c_y207)) rfl ?_)
          refine Rg_op rfl (op_buildSlice (cs := [(Value.slice a_y207 add_1.1.length c_y207)]) (parts := [(0, .tmp 75)]) ty33 ty22 hs201 (by decide) rfl ?_)
          intro b235 w236 hx239 p237 hs238
          replace f_a := f_a.step p237; replace f_b := f_b.step p237; replace f_g86 := f_g86.step p237; replace f_y207 := f_y207.step p237; replace ch83 := ch83.trans p237; replace ch98 := ch98.trans p237; clear p237 hs201
          replace hm := ck_some hm; obtain ⟨hc241, hm⟩ := hm
          refine Rg_op rfl (op_append (q := (rSl (rInt .i64))) (i := 1) (xs := all_2) (ys := [add_1.1]) (news := [(Value.slice a_y207 add_1.1.length c_y207)]) ty33 ty22 rfl (by decide) hs238 rfl rfl f_g86 rfl (Src.owned' (len := 1) (hs238.get (i := 0) rfl) rfl) (show Els (rSl (rInt .i64)) _ _ [(Value.slice a_y207 add_1.1.length c_y207)] [add_1.1] from ⟨_, _, rfl, (mk_sl f_y207), Els.nil⟩) hc241 (by have := hc241; simp only [maxLen]; omega) ?_)
          intro a245 c246 k247 o248 w242 p243 hs244 f249
          replace f_a := f_a.step p243; replace f_b := f_b.step p243; replace f_y207 := f_y207.step p243; replace ch83 := ch83.trans p243; replace ch98 := ch98.trans p243; clear p243 hs238
          have hs250 := hs244.drop 0
          replace f_a := f_a.step (hs244.dropS 0)
          replace f_b := f_b.step (hs244.dropS 0)
          replace f_y207 := f_y207.step (hs244.dropS 0)
          replace f249 := f249.step (hs244.dropS 0)
          replace ch83 := ch83.trans (hs244.dropS 0)
          replace ch98 := ch98.trans (hs244.dropS 0); clear hs244
          refine Rg_op rfl (op_assign (v := (Value.slice a245 (all_2 ++ [add_1.1]).length c246)) rfl ?_)
          refine Rg_nil ?_
          clear f_y207
          refine Wp_region ?_
          refine Rg_op rfl (op_move (v := (Value.int .i64 k_1)) rfl ?_)
          refine Rg_op rfl (op_addw rfl rfl ?_)
          refine Rg_op rfl (op_assign (v := (Value.int .i64 (IntKind.wrap .i64 (k_1 + 1)))) rfl ?_)
          refine Rg_nil ?_
          exact hK91 _ _ ⟨(all_2 ++ [add_1.1]), (IntKind.wrap .i64 (k_1 + 1)), a245, c246, k247, o248, _, rfl, ⟨(by repeat (first | with_reducible exact Out.refl _ _ | refine Out.upd ?_ rfl | refine Out.updL ?_ rfl | refine Out.mix' ?_ rfl | exact Out.refl _ _)), rfl, rfl, rfl, trivial⟩, ch98, hs250, f249, (inK_wrap .i64 _), jnE2 hsf90 hm⟩
         ·
          replace hm := bif_f hm hc100
          refine Wp_exit ?_
          refine Wp_region ?_
          refine Rg_op rfl (op_move (v := (Value.int .i64 i_1)) rfl ?_)
          refine Rg_op rfl (op_addw rfl rfl ?_)
          refine Rg_op rfl (op_assign (v := (Value.int .i64 (IntKind.wrap .i64 (i_1 + 1)))) rfl ?_)
          refine Rg_nil ?_
          exact hK75 _ _ ⟨all_2, (IntKind.wrap .i64 (i_1 + 1)), a_g86, c_g86, k_g86, o_g86, _, rfl, ⟨(by repeat (first | with_reducible exact Out.refl _ _ | refine Out.upd ?_ rfl | refine Out.updL ?_ rfl | refine Out.mix' ?_ rfl | exact Out.refl _ _)), rfl, rfl, rfl, trivial⟩, ch83, hs94, f_g86, (inK_wrap .i64 _), jnE2 hsf74 hm⟩
       ·
        replace hm := bif_f hm hc85
        refine Wp_exit ?_
        refine Wp_seq ?_
        clear f_a f_b
        refine Wp_region ?_
        refine Rg_op rfl (op_move (v := (Value.slice a_g70 all_1.length c_g70)) rfl ?_)
        obtain ⟨hs252, p253, f251⟩ := Gs.publish (i := 0) hs79 rfl f_g70
        replace ch83 := ch83.trans p253; clear p253 hs79
        replace hm := bd hm; obtain ⟨least_1, hv254, hm⟩ := hm
        refine Rg_op rfl (op_call Try.call39 (c39_overflightref06_least (l := all_1) hs252.ltw f251 hv254) rfl ?_)
        rintro v255 w256 ⟨hx257, h258⟩
        have hs259 := hs252.call hx257
        have p260 := Step.ext (O := ks [] O) hx257
        clear hx257
        replace f251 := f251.step p260; replace ch83 := ch83.trans p260; clear p260 hs252
        obtain ⟨a_y261, c_y261, rfl, f_y261⟩ := un_sl h258
        refine Rg_op rfl (op_assign (v := (Value.slice a_y261 least_1.length c_y261)) rfl ?_)
        refine Rg_nil ?_
        refine Wp_seq ?_
        refine Wp_seq ?_
        clear f251
        refine Wp_region ?_
        refine Rg_op rfl (op_move (v := (Value.slice a_y261 least_1.length c_y261)) rfl ?_)
        refine Rg_op rfl (op_len Try.underlying33 rfl ?_)
        have rl262 := inK_len f_y261
        refine Rg_op rfl (op_gtr rfl rfl ?_)
        refine Rg_nil ?_
        refine Wp_cond rfl (fun hc263 => ?_) (fun hc263 => ?_)
        ·
         replace hm := bif_t hm hc263
         refine Wp_seq ?_
         clear f_y261
         refine Wp_region ?_
         refine Rg_op rfl (op_assign (v := (Value.slice none 0 0)) rfl ?_)
         refine Rg_op rfl (op_assign (v := (Value.int .i64 2)) rfl ?_)
         refine Rg_nil ?_
         refine Wp_ret ?_
         have hz := step_all hs259
         refine ⟨_, (show Closes [] _ _ from rfl), [(Value.slice none 0 0), (Value.int .i64 2)], ⟨rfl, rfl, trivial⟩, hs259.ext, ?_⟩
         exact Vr.eq (a := (vT2 (vC (rSl (rSl (rInt .i64)))) (vI .i64))) (x := (([] : List (List Int)), 2)) (mkT2 (mkC (mk_sl SlR.nil_)) ⟨rfl, (show InK .i64 2 from by decide)⟩) (Option.some.inj hm)
        ·
         replace hm := bif_f hm hc263
         refine Wp_skip ?_
         refine Wp_seq ?_
         refine Wp_region ?_
         refine Rg_op rfl (op_move (v := (Value.slice a_y261 least_1.length c_y261)) rfl ?_)
         refine Rg_op rfl (op_assign (v := (Value.slice a_y261 least_1.length c_y261)) rfl ?_)
         refine Rg_op rfl (op_assign (v := (Value.int .i64 0)) rfl ?_)
         refine Rg_nil ?_
         refine Wp_ret ?_
         have hz := step_all hs259
         replace f_y261 := f_y261.step hz
         refine ⟨_, (show Closes [] _ _ from rfl), [(Value.slice a_y261 least_1.length c_y261), (Value.int .i64 0)], ⟨rfl, rfl, trivial⟩, hs259.ext, ?_⟩
         exact Vr.eq (a := (vT2 (vC (rSl (rSl (rInt .i64)))) (vI .i64))) (x := (least_1, 0)) (mkT2 (mkC (mk_sl f_y261)) ⟨rfl, (show InK .i64 0 from by decide)⟩) (Option.some.inj hm)
    ·
     intro K53 hK53
     have ch264 := Step.refl (ks [(k29, o30)] O) w41
     clear f31
     refine Wp_region ?_
     refine Rg_op rfl (op_move (v := (Value.slice a_a a.length c_a)) rfl ?_)
     refine Rg_op rfl (op_len Try.underlying33 rfl ?_)
     have rl265 := inK_len f_a
     refine Rg_op rfl (op_gtr rfl rfl ?_)
     refine Rg_op rfl (op_move (v := (Value.bool (decide (4096 < (a.length : Int))))) rfl ?_)
     refine Rg_case (fun hg266 => ?_) (fun hg266 => ?_)
     ·
      replace hm := bif_t hm hg266
      iterate 3 refine Rg_opx rfl (asB_ne rfl rfl) rfl ?_
      refine Rg_op rfl (op_pick_t (v := (Value.bool true)) rfl rfl ?_)
      refine Rg_op rfl (op_move (v := (Value.bool true)) rfl ?_)
      iterate 6 refine Rg_opx rfl (asB_ne rfl rfl) rfl ?_
      refine Rg_op rfl (op_pick_t (v := (Value.bool true)) rfl rfl ?_)
      refine Rg_nil ?_
      exact hK53 _ _ ⟨true, _, rfl, ⟨(by repeat (first | with_reducible exact Out.refl _ _ | refine Out.upd ?_ rfl | refine Out.updL ?_ rfl | refine Out.mix' ?_ rfl | exact Out.refl _ _)), rfl, rfl, trivial⟩, ch264, hs42, hm⟩
     ·
      replace hm := bif_f hm hg266
      refine Rg_opg rfl rfl rfl (op_move (v := (Value.slice a_b b.length c_b)) rfl ?_)
      refine Rg_opg rfl rfl rfl (op_len Try.underlying33 rfl ?_)
      have rl267 := inK_len f_b
      refine Rg_opg rfl rfl rfl (op_gtr rfl rfl ?_)
      refine Rg_op rfl (op_pick_f (v := (Value.bool (decide (4096 < (b.length : Int))))) rfl rfl ?_)
      refine Rg_op rfl (op_move (v := (Value.bool (decide (4096 < (b.length : Int))))) rfl ?_)
      refine Rg_case (fun hg268 => ?_) (fun hg268 => ?_)
      ·
       replace hm := bif_t hm hg268
       iterate 6 refine Rg_opx rfl (asB_ne rfl rfl) rfl ?_
       refine Rg_op rfl (op_pick_t (v := (Value.bool true)) rfl rfl ?_)
       refine Rg_nil ?_
       exact hK53 _ _ ⟨true, _, rfl, ⟨(by repeat (first | with_reducible exact Out.refl _ _ | refine Out.upd ?_ rfl | refine Out.updL ?_ rfl | refine Out.mix' ?_ rfl | exact Out.refl _ _)), rfl, rfl, trivial⟩, ch264, hs42, hm⟩
      ·
       replace hm := bif_f hm hg268
       refine Rg_opg rfl rfl rfl (op_move (v := (Value.slice a_a a.length c_a)) rfl ?_)
       refine Rg_opg rfl rfl rfl (op_len Try.underlying33 rfl ?_)
       have rl269 := inK_len f_a
       refine Rg_opg rfl rfl rfl (op_move (v := (Value.slice a_b b.length c_b)) rfl ?_)
       refine Rg_opg rfl rfl rfl (op_len Try.underlying33 rfl ?_)
       have rl270 := inK_len f_b
       refine Rg_opg rfl rfl rfl (op_mulw rfl rfl ?_)
       refine Rg_opg rfl rfl rfl (op_gtr rfl rfl ?_)
       refine Rg_op rfl (op_pick_f (v := (Value.bool (decide (1048576 < (IntKind.wrap .i64 ((a.length : Int) * (b.length : Int))))))) rfl rfl ?_)
       refine Rg_nil ?_
       exact hK53 _ _ ⟨(decide (1048576 < (IntKind.wrap .i64 ((a.length : Int) * (b.length : Int))))), _, rfl, ⟨(by repeat (first | with_reducible exact Out.refl _ _ | refine Out.upd ?_ rfl | refine Out.updL ?_ rfl | refine Out.mix' ?_ rfl | exact Out.refl _ _)), rfl, rfl, trivial⟩, ch264, hs42, hm⟩
  ·
   intro K40 hK40
   have ch271 := Step.refl (ks [(k29, o30)] O) w24
   refine Wp_region ?_
   refine Rg_op rfl (op_move (v := (Value.slice a27 ((([] : List (List Int)) ++ a) ++ b).length c28)) rfl ?_)
   refine Rg_op rfl (op_move (v := (Value.slice a27 ((([] : List (List Int)) ++ a) ++ b).length c28)) rfl ?_)
   replace hm := ck_some hm; obtain ⟨hc272, hm⟩ := hm
   refine Rg_op rfl (op_indexAddrG ty33 ty22 rfl rfl f31 hc272 ?_)
   rintro b273 rfl rfl
   refine Rg_op rfl (op_loadG (i := 0) ty22 rfl hs26 rfl rfl f31 hc272 ?_)
   intro v274 h275
   obtain ⟨a_y276, c_y276, rfl, f_y276⟩ := un_sl h275
   refine Rg_op rfl (op_len Try.underlying22 rfl ?_)
   have rl277 := inK_len f_y276
   obtain ⟨hs278, p279, f280⟩ := Gs.publish (i := 0) hs26 rfl f31
   replace hm := bd hm; obtain ⟨alike_1, hv281, hm⟩ := hm
   refine Rg_op rfl (op_call Try.call38 (c38_overflightref06_alike (l := ((([] : List (List Int)) ++ a) ++ b)) (n := ((((([] : List (List Int)) ++ a) ++ b).getD 0 default).length : Int)) hs278.ltw f280 rl277 hv281) rfl ?_)
   rintro v282 w283 ⟨hx284, h285⟩
   have hs286 := hs26.call hx284
   have p287 := Step.ext (O := ks [(some b273, o30)] O) hx284
   clear hx284
   replace f_a := f_a.step p287; replace f_b := f_b.step p287; replace f31 := f31.step p287; replace f_y276 := f_y276.step p287; replace ch271 := ch271.trans p287; clear p287 hs26
   obtain rfl := h285
   refine Rg_op rfl (op_not rfl ?_)
   refine Rg_op rfl (op_move (v := (Value.bool (!alike_1))) rfl ?_)
   refine Rg_case (fun hg289 => ?_) (fun hg289 => ?_)
   ·
    replace hm := bif_t hm hg289
    iterate 3 refine Rg_opx rfl (asB_ne rfl rfl) rfl ?_
    refine Rg_op rfl (op_pick_t (v := (Value.bool true)) rfl rfl ?_)
    refine Rg_nil ?_
    exact hK40 _ _ ⟨true, _, rfl, ⟨(by repeat (first | with_reducible exact Out.refl _ _ | refine Out.upd ?_ rfl | refine Out.updL ?_ rfl | refine Out.mix' ?_ rfl | exact Out.refl _ _)), rfl, rfl, trivial⟩, ch271, hs286, hm⟩
   ·
    replace hm := bif_f hm hg289
    refine Rg_opg rfl rfl rfl (op_move (v := (Value.slice (some ⟨b273, 0, none⟩) ((([] : List (List Int)) ++ a) ++ b).length c28)) rfl ?_)
    obtain ⟨hs290, p291, f292⟩ := Gs.publish (i := 0) hs286 rfl f31
    replace hm := bd hm; obtain ⟨small_1, hv293, hm⟩ := hm
    refine Rg_opg rfl rfl rfl (op_call Try.call41 (c41_overflightref06_small (l := ((([] : List (List Int)) ++ a) ++ b)) hs290.ltw f292 hv293) rfl ?_)
    rintro v294 w295 ⟨hx296, h297⟩
    have hs298 := hs286.call hx296
    have p299 := Step.ext (O := ks [(some b273, o30)] O) hx296
    clear hx296
    replace f_a := f_a.step p299; replace f_b := f_b.step p299; replace f31 := f31.step p299; replace f_y276 := f_y276.step p299; replace ch271 := ch271.trans p299; clear p299 hs286
    obtain rfl := h297
    refine Rg_opg rfl rfl rfl (op_not rfl ?_)
    refine Rg_op rfl (op_pick_f (v := (Value.bool (!small_1))) rfl rfl ?_)
    refine Rg_nil ?_
    exact hK40 _ _ ⟨(!small_1), _, rfl, ⟨(by repeat (first | with_reducible exact Out.refl _ _ | refine Out.upd ?_ rfl | refine Out.updL ?_ rfl | refine Out.mix' ?_ rfl | exact Out.refl _ _)), rfl, rfl, trivial⟩, ch271, hs298, hm⟩

end Go.Fx



set_option linter.unusedVariables false
set_option linter.unusedSimpArgs false
set_option maxRecDepth 100000
set_option maxHeartbeats 0
namespace Go.Fx
open Go Go.RowKit Go.Proofs
def m26_overflightref06_Fits_B0 (l : List (List Int)) (budget : List Int) (sf13 : Int → Option (Bool × Int)) (i_1 : Int) : Option (Bool × Int) :=
 bif (decide (i_1 < (l.length : Int))) then
  ck ((0 : Int) ≤ i_1 ∧ i_1 < (l.length : Int)) <|
  (m33_overflightref06_IsBelow (l.getD i_1.toNat default) budget).bind fun isbelow_1 =>
  bif isbelow_1 then
   some (true, 0)
  else
   sf13 (IntKind.wrap .i64 (i_1 + 1))
 else
  some (false, 0)

def m26_overflightref06_Fits (l : List (List Int)) (budget : List Int) : Option (Bool × Int) :=
 (m38_overflightref06_alike l (budget.length : Int)).bind fun alike_1 =>
 bif (!alike_1) then
  some (false, 60)
 else
  loop1 (m26_overflightref06_Fits_B0 l budget) (((l.length : Int) - 0).toNat + 1) 0

theorem c26_overflightref06_Fits {w : World} {O : List Nat} {l : List (List Int)} {budget : List Int} {a_l : Option Addr} {c_l : Nat} {a_budget : Option Addr} {c_budget : Nat} (hO : ∀ k ∈ O, k < w.heap.size) (f_l : SlR (rSl (rInt .i64)) w O a_l c_l l) (f_budget : SlR (rInt .i64) w O a_budget c_budget budget) {x : Bool × Int} (hm : m26_overflightref06_Fits l budget = some x) :
  Ok Try.prog 26 [(Value.slice a_l l.length c_l), (Value.slice a_budget budget.length c_budget)] w O (vT2 vB (vI .i64)) x := by
 unfold m26_overflightref06_Fits at hm
 refine Fn_of_Wp (n := 24) (xs := [.tmp 4, .tmp 5]) Try.func26 rfl Try.ntmps26 Try.results26 rfl ?_
 have hs := St.start hO
 refine Wp_seq ?_
 refine Wp_region ?_
 refine Rg_op rfl (op_assign (v := (Value.bool false)) rfl ?_)
 refine Rg_op rfl (op_assign (v := (Value.int .i64 0)) rfl ?_)
 refine Rg_nil ?_
 refine Wp_seq ?_
 refine Wp_seq ?_
 refine Wp_region ?_
 refine Rg_op rfl (op_move (v := (Value.slice a_l l.length c_l)) rfl ?_)
 refine Rg_op rfl (op_move (v := (Value.slice a_budget budget.length c_budget)) rfl ?_)
 refine Rg_op rfl (op_len Try.underlying22 rfl ?_)
 have rl1 := inK_len f_budget
 replace hm := bd hm; obtain ⟨alike_1, hv2, hm⟩ := hm
 refine Rg_op rfl (op_call Try.call38 (c38_overflightref06_alike (l := l) (n := (budget.length : Int)) hs.ltw f_l rl1 hv2) rfl ?_)
 rintro v3 w4 ⟨hx5, h6⟩
 have hs7 := hs.call hx5
 have p8 := Step.ext (O := ks [] O) hx5
 clear hx5
 replace f_l := f_l.step p8; replace f_budget := f_budget.step p8; clear p8
 obtain rfl := h6
 refine Rg_op rfl (op_not rfl ?_)
 refine Rg_nil ?_
 refine Wp_cond rfl (fun hc10 => ?_) (fun hc10 => ?_)
 ·
  replace hm := bif_t hm hc10
  refine Wp_seq ?_
  clear f_l f_budget
  refine Wp_region ?_
  refine Rg_op rfl (op_assign (v := (Value.bool false)) rfl ?_)
  refine Rg_op rfl (op_assign (v := (Value.int .i64 60)) rfl ?_)
  refine Rg_nil ?_
  refine Wp_ret ?_
  have hz := step_all hs7
  refine ⟨_, (show Closes [] _ _ from rfl), [(Value.bool false), (Value.int .i64 60)], ⟨rfl, rfl, trivial⟩, hs7.ext, ?_⟩
  exact Vr.eq (a := (vT2 vB (vI .i64))) (x := (false, 60)) (mkT2 rfl ⟨rfl, (show InK .i64 60 from by decide)⟩) (Option.some.inj hm)
 ·
  replace hm := bif_f hm hc10
  refine Wp_skip ?_
  refine Wp_seq ?_
  refine Wp_seq ?_
  refine Wp_region ?_
  refine Rg_op rfl (op_assign (v := (Value.int .i64 0)) rfl ?_)
  refine Rg_nil ?_
  refine Wp_block ?_
  refine Wp_reset [] [(0, (Value.slice a_l l.length c_l)), (1, (Value.slice a_budget budget.length c_budget)), (6, (Value.int .i64 0))] rfl ⟨rfl, rfl, rfl, trivial⟩ fun ξ12 => ?_
  refine Wp_loopM [4, 5, 6, 12, 13, 14, 15, 16, 17, 18, 19, 20, 21, 22, 23] (fun m fr w' => ∃ (i_1 : Int) (Ebs : Ents), Ebs = [] ∧ fr [] [(6, (Value.int .i64 i_1))] ∧ Step (ks [] O) w4 (ks Ebs O) w' ∧ St ⟨w, [], []⟩ O w' Ebs ∧ InK .i64 i_1 ∧ loop1 (m26_overflightref06_Fits_B0 l budget) m i_1 = some x) (((l.length : Int) - 0).toNat + 1) ⟨0, _, rfl, ⟨Out.refl _ _, rfl, rfl, trivial⟩, Step.refl _ _, hs7, (show InK .i64 0 from by decide), hm⟩ ?_ ?_
  · rintro _ _ ⟨_, _, _, _, _, _, _, hm⟩; exact loop1_z hm
  ·
   rintro m16 K15 hK15 ρ21 w17 ⟨i_1, Ebs, hEbs, hfr20, hst19, hs18, r_y11, hm⟩
   obtain ⟨sf13, hsf14, hm⟩ := loop1_s hm; unfold m26_overflightref06_Fits_B0 at hm
   subst hEbs; rw [hfr20.eq]; clear hfr20
   replace f_l := f_l.step hst19; replace f_budget := f_budget.step hst19
   have ch22 := hst19
   refine Wp_seq ?_
   refine Wp_seq ?_
   refine Wp_region ?_
   refine Rg_op rfl (op_move (v := (Value.int .i64 i_1)) rfl ?_)
   refine Rg_op rfl (op_move (v := (Value.slice a_l l.length c_l)) rfl ?_)
   refine Rg_op rfl (op_len Try.underlying33 rfl ?_)
   have rl23 := inK_len f_l
   refine Rg_op rfl (op_lss rfl rfl ?_)
   refine Rg_nil ?_
   refine Wp_cond rfl (fun hc24 => ?_) (fun hc24 => ?_)
   ·
    replace hm := bif_t hm hc24
    refine Wp_skip ?_
    refine Wp_seq ?_
    refine Wp_block ?_
    refine Wp_seq ?_
    refine Wp_region ?_
    refine Rg_op rfl (op_move (v := (Value.slice a_l l.length c_l)) rfl ?_)
    refine Rg_op rfl (op_move (v := (Value.int .i64 i_1)) rfl ?_)
    replace hm := ck_some hm; obtain ⟨hc25, hm⟩ := hm
    refine Rg_op rfl (op_indexAddr (q := (rSl (rInt .i64))) ty33 ty22 rfl rfl f_l rfl hc25.1 hc25.2 ?_)
    intro p26 f27
    refine Rg_op rfl (op_loadP ty22 rfl f27 rfl ?_)
    intro v28 h29
    obtain ⟨a_y30, c_y30, rfl, f_y30⟩ := un_sl h29
    refine Rg_op rfl (op_move (v := (Value.slice a_budget budget.length c_budget)) rfl ?_)
    replace hm := bd hm; obtain ⟨isbelow_1, hv31, hm⟩ := hm
    refine Rg_op rfl (op_call Try.call33 (c33_overflightref06_IsBelow (a := (l.getD i_1.toNat default)) (b := budget) hs18.ltw f_y30 f_budget hv31) rfl ?_)
    rintro v32 w33 ⟨hx34, h35⟩
    have hs36 := hs18.call hx34
    have p37 := Step.ext (O := ks [] O) hx34
    clear hx34
    replace f_l := f_l.step p37; replace f_budget := f_budget.step p37; replace f27 := f27.step p37; replace f_y30 := f_y30.step p37; replace ch22 := ch22.trans p37; clear p37 hs18
    obtain rfl := h35
    refine Rg_nil ?_
    refine Wp_cond rfl (fun hc39 => ?_) (fun hc39 => ?_)
    ·
     replace hm := bif_t hm hc39
     refine Wp_seq ?_
     clear f_l f_budget f27 f_y30
     refine Wp_region ?_
     refine Rg_op rfl (op_assign (v := (Value.bool true)) rfl ?_)
     refine Rg_op rfl (op_assign (v := (Value.int .i64 0)) rfl ?_)
     refine Rg_nil ?_
     refine Wp_ret ?_
     have hz := step_all hs36
     refine ⟨_, (show Closes [] _ _ from rfl), [(Value.bool true), (Value.int .i64 0)], ⟨rfl, rfl, trivial⟩, hs36.ext, ?_⟩
     exact Vr.eq (a := (vT2 vB (vI .i64))) (x := (true, 0)) (mkT2 rfl ⟨rfl, (show InK .i64 0 from by decide)⟩) (Option.some.inj hm)
    ·
     replace hm := bif_f hm hc39
     refine Wp_skip ?_
     clear f27 f_y30
     refine Wp_region ?_
     refine Rg_op rfl (op_move (v := (Value.int .i64 i_1)) rfl ?_)
     refine Rg_op rfl (op_addw rfl rfl ?_)
     refine Rg_op rfl (op_assign (v := (Value.int .i64 (IntKind.wrap .i64 (i_1 + 1)))) rfl ?_)
     refine Rg_nil ?_
     exact hK15 _ _ ⟨(IntKind.wrap .i64 (i_1 + 1)), _, rfl, ⟨(by repeat (first | with_reducible exact Out.refl _ _ | refine Out.upd ?_ rfl | refine Out.updL ?_ rfl | refine Out.mix' ?_ rfl | exact Out.refl _ _)), rfl, rfl, trivial⟩, ch22, hs36, (inK_wrap .i64 _), jnE1 hsf14 hm⟩
   ·
    replace hm := bif_f hm hc24
    refine Wp_exit ?_
    refine Wp_seq ?_
    clear f_l f_budget
    refine Wp_region ?_
    refine Rg_op rfl (op_assign (v := (Value.bool false)) rfl ?_)
    refine Rg_op rfl (op_assign (v := (Value.int .i64 0)) rfl ?_)
    refine Rg_nil ?_
    refine Wp_ret ?_
    have hz := step_all hs18
    refine ⟨_, (show Closes [] _ _ from rfl), [(Value.bool false), (Value.int .i64 0)], ⟨rfl, rfl, trivial⟩, hs18.ext, ?_⟩
    exact Vr.eq (a := (vT2 vB (vI .i64))) (x := (false, 0)) (mkT2 rfl ⟨rfl, (show InK .i64 0 from by decide)⟩) (Option.some.inj hm)

end Go.Fx



set_option linter.unusedVariables false
set_option linter.unusedSimpArgs false
set_option maxRecDepth 100000
set_option maxHeartbeats 0
namespace Go.Fx
open Go Go.RowKit Go.Proofs
def m4_overflightlaw06_VectorLeastSpec (a : List (List Int)) (b : List (List Int)) (budget : List Int) : Option Bool :=
 (m11_overflightlaw06_sane).bind fun sane_1 =>
 bif (!sane_1) then
  some false
 else
  jn (fun (v_1 : Bool) =>
   bif v_1 then
    some true
   else
    (m21_vector_Least a).bind fun least_1 =>
    (m22_overflightref06_Least a).bind fun least_2 =>
    (m23_vector_Sums a b).bind fun sums_1 =>
    (m24_overflightref06_Sums a b).bind fun sums_2 =>
    (m25_vector_Fits a budget).bind fun fits_1 =>
    (m26_overflightref06_Fits a budget).bind fun fits_2 =>
    jn (fun (v_2 : Bool) =>
     some v_2)
    (fun k102 =>
     (m27_overflightref06_SameList least_1.1 least_2.1).bind fun samelist_1 =>
     bif samelist_1 then
      bif (decide (least_1.2 = least_2.2)) then
       (m27_overflightref06_SameList sums_1.1 sums_2.1).bind fun samelist_2 =>
       bif samelist_2 then
        bif (decide (sums_1.2 = sums_2.2)) then
         bif (fits_1.1 == fits_2.1) then
          k102 (decide (fits_1.2 = fits_2.2))
         else
          k102 false
        else
         k102 false
       else
        k102 false
      else
       k102 false
     else
      k102 false))
  (fun k12 =>
   (m20_overflightref06_Few a).bind fun few_1 =>
   bif (!few_1) then
    k12 true
   else
    (m20_overflightref06_Few b).bind fun few_2 =>
    bif (!few_2) then
     k12 true
    else
     (m12_overflightlaw06_short [budget]).bind fun short_1 =>
     k12 (!short_1))

theorem c4_overflightlaw06_VectorLeastSpec {w : World} {O : List Nat} {a : List (List Int)} {b : List (List Int)} {budget : List Int} {a_a : Option Addr} {c_a : Nat} {a_b : Option Addr} {c_b : Nat} {a_budget : Option Addr} {c_budget : Nat} (hO : ∀ k ∈ O, k < w.heap.size) (f_a : SlR (rSl (rInt .i64)) w O a_a c_a a) (f_b : SlR (rSl (rInt .i64)) w O a_b c_b b) (f_budget : SlR (rInt .i64) w O a_budget c_budget budget) {x : Bool} (hm : m4_overflightlaw06_VectorLeastSpec a b budget = some x) :
  Ok Try.prog 4 [(Value.slice a_a a.length c_a), (Value.slice a_b b.length c_b), (Value.slice a_budget budget.length c_budget)] w O vB x := by
 unfold m4_overflightlaw06_VectorLeastSpec at hm
 refine Fn_of_Wp (n := 97) (xs := [.tmp 6]) Try.func4 rfl Try.ntmps4 Try.results4 rfl ?_
 have hs := St.start hO
 refine Wp_seq ?_
 refine Wp_region ?_
 refine Rg_op rfl (op_assign (v := (Value.bool false)) rfl ?_)
 refine Rg_nil ?_
 refine Wp_seq ?_
 refine Wp_seq ?_
 refine Wp_region ?_
 replace hm := bd hm; obtain ⟨sane_1, hv1, hm⟩ := hm
 refine Rg_op rfl (op_call Try.call11 (c11_overflightlaw06_sane  hs.ltw  hv1) rfl ?_)
 rintro v2 w3 ⟨hx4, h5⟩
 have hs6 := hs.call hx4
 have p7 := Step.ext (O := ks [] O) hx4
 clear hx4
 replace f_a := f_a.step p7; replace f_b := f_b.step p7; replace f_budget := f_budget.step p7; clear p7
 obtain rfl := h5
 refine Rg_op rfl (op_not rfl ?_)
 refine Rg_nil ?_
 refine Wp_cond rfl (fun hc9 => ?_) (fun hc9 => ?_)
 ·
  replace hm := bif_t hm hc9
  refine Wp_seq ?_
  clear f_a f_b f_budget
  refine Wp_region ?_
  refine Rg_op rfl (op_assign (v := (Value.bool false)) rfl ?_)
  refine Rg_nil ?_
  refine Wp_ret ?_
  have hz := step_all hs6
  refine ⟨_, (show Closes [] _ _ from rfl), [(Value.bool false)], ⟨rfl, trivial⟩, hs6.ext, ?_⟩
  exact Vr.eq (a := vB) (x := false) rfl (Option.some.inj hm)
 ·
  replace hm := bif_f hm hc9
  refine Wp_skip ?_
  refine Wp_seq ?_
  refine Wp_reset [] [(0, (Value.slice a_a a.length c_a)), (1, (Value.slice a_b b.length c_b)), (2, (Value.slice a_budget budget.length c_budget))] rfl ⟨rfl, rfl, rfl, trivial⟩ fun ξ10 => ?_
  replace hm := jn_elim hm; obtain ⟨k12, hk13, hm⟩ := hm
  refine Wp_seqJ [21, 22, 23, 24, 25, 26, 27, 28, 29, 30, 31, 32, 33, 34] (fun fr w' => ∃ (v_1 : Bool) (Ebs : Ents), Ebs = [] ∧ fr [] [(34, (Value.bool v_1))] ∧ Step (ks [] O) w3 (ks Ebs O) w' ∧ St ⟨w, [], []⟩ O w' Ebs ∧ k12 v_1 = some x) ?_ ?_
  ·
   rintro ρ19 w15 ⟨v_1, Ebs, hEbs, hfr18, hst17, hs16, hm⟩
   replace hm := jnE1 hk13 hm
   subst hEbs; rw [hfr18.eq]; clear hfr18
   replace f_a := f_a.step hst17; replace f_b := f_b.step hst17; replace f_budget := f_budget.step hst17; clear hst17 hs6
   refine Wp_cond rfl (fun hc20 => ?_) (fun hc20 => ?_)
   ·
    replace hm := bif_t hm hc20
    refine Wp_seq ?_
    clear f_a f_b f_budget
    refine Wp_region ?_
    refine Rg_op rfl (op_assign (v := (Value.bool true)) rfl ?_)
    refine Rg_nil ?_
    refine Wp_ret ?_
    have hz := step_all hs16
    refine ⟨_, (show Closes [] _ _ from rfl), [(Value.bool true)], ⟨rfl, trivial⟩, hs16.ext, ?_⟩
    exact Vr.eq (a := vB) (x := true) rfl (Option.some.inj hm)
   ·
    replace hm := bif_f hm hc20
    refine Wp_skip ?_
    refine Wp_seq ?_
    refine Wp_region ?_
    refine Rg_op rfl (op_move (v := (Value.slice a_a a.length c_a)) rfl ?_)
    replace hm := bd hm; obtain ⟨least_1, hv21, hm⟩ := hm
    refine Rg_op rfl (op_call Try.call21 (c21_vector_Least (l := a) hs16.ltw f_a hv21) rfl ?_)
    rintro v22 w23 ⟨hx24, h25⟩
    have hs26 := hs16.call hx24
    have p27 := Step.ext (O := ks [] O) hx24
    clear hx24
    replace f_a := f_a.step p27; replace f_b := f_b.step p27; replace f_budget := f_budget.step p27; clear p27 hs16
    obtain ⟨v28, v29, rfl, h30, h31⟩ := h25
    obtain ⟨a_y32, c_y32, rfl, f_y32⟩ := un_sl h30
    obtain ⟨rfl, r_y33⟩ := h31
    refine Rg_op rfl (op_move (v := (Value.tuple [(Value.slice a_y32 least_1.1.length c_y32), (Value.int .i64 least_1.2)].toArray)) rfl ?_)
    refine Rg_op rfl (op_extract (v := (Value.slice a_y32 least_1.1.length c_y32)) rfl rfl ?_)
    refine Rg_op rfl (op_extract (v := (Value.int .i64 least_1.2)) rfl rfl ?_)
    refine Rg_op rfl (op_assign (v := (Value.slice a_y32 least_1.1.length c_y32)) rfl ?_)
    refine Rg_op rfl (op_assign (v := (Value.int .i64 least_1.2)) rfl ?_)
    refine Rg_nil ?_
    refine Wp_seq ?_
    refine Wp_region ?_
    refine Rg_op rfl (op_move (v := (Value.slice a_a a.length c_a)) rfl ?_)
    replace hm := bd hm; obtain ⟨least_2, hv34, hm⟩ := hm
    refine Rg_op rfl (op_call Try.call22 (c22_overflightref06_Least (l := a) hs26.ltw f_a hv34) rfl ?_)
    rintro v35 w36 ⟨hx37, h38⟩
    have hs39 := hs26.call hx37
    have p40 := Step.ext (O := ks [] O) hx37
    clear hx37
    replace f_a := f_a.step p40; replace f_b := f_b.step p40; replace f_budget := f_budget.step p40; replace f_y32 := f_y32.step p40; clear p40 hs26
    obtain ⟨v41, v42, rfl, h43, h44⟩ := h38
    obtain ⟨a_y45, c_y45, rfl, f_y45⟩ := un_sl h43
    obtain ⟨rfl, r_y46⟩ := h44
    refine Rg_op rfl (op_move (v := (Value.tuple [(Value.slice a_y45 least_2.1.length c_y45), (Value.int .i64 least_2.2)].toArray)) rfl ?_)
    refine Rg_op rfl (op_extract (v := (Value.slice a_y45 least_2.1.length c_y45)) rfl rfl ?_)
    refine Rg_op rfl (op_extract (v := (Value.int .i64 least_2.2)) rfl rfl ?_)
    refine Rg_op rfl (op_assign (v := (Value.slice a_y45 least_2.1.length c_y45)) rfl ?_)
    refine Rg_op rfl (op_assign (v := (Value.int .i64 least_2.2)) rfl ?_)
    refine Rg_nil ?_
    refine Wp_seq ?_
    refine Wp_region ?_
    refine Rg_op rfl (op_move (v := (Value.slice a_a a.length c_a)) rfl ?_)
    refine Rg_op rfl (op_move (v := (Value.slice a_b b.length c_b)) rfl ?_)
    replace hm := bd hm; obtain ⟨sums_1, hv47, hm⟩ := hm
    refine Rg_op rfl (op_call Try.call23 (c23_vector_Sums (a := a) (b := b) hs39.ltw f_a f_b hv47) rfl ?_)
    rintro v48 w49 ⟨hx50, h51⟩
    have hs52 := hs39.call hx50
    have p53 := Step.ext (O := ks [] O) hx50
    clear hx50
    replace f_a := f_a.step p53; replace f_b := f_b.step p53; replace f_budget := f_budget.step p53; replace f_y32 := f_y32.step p53; replace f_y45 := f_y45.step p53; clear p53 hs39
    obtain ⟨v54, v55, rfl, h56, h57⟩ := h51
    obtain ⟨a_y58, c_y58, rfl, f_y58⟩ := un_sl h56
    obtain ⟨rfl, r_y59⟩ := h57
    refine Rg_op rfl (op_move (v := (Value.tuple [(Value.slice a_y58 sums_1.1.length c_y58), (Value.int .i64 sums_1.2)].toArray)) rfl ?_)
    refine Rg_op rfl (op_extract (v := (Value.slice a_y58 sums_1.1.length c_y58)) rfl rfl ?_)
    refine Rg_op rfl (op_extract (v := (Value.int .i64 sums_1.2)) rfl rfl ?_)
    refine Rg_op rfl (op_assign (v := (Value.slice a_y58 sums_1.1.length c_y58)) rfl ?_)
    refine Rg_op rfl (op_assign (v := (Value.int .i64 sums_1.2)) rfl ?_)
    refine Rg_nil ?_
    refine Wp_seq ?_
    refine Wp_reset [] [(0, (Value.slice a_a a.length c_a)), (1, (Value.slice a_b b.length c_b)), (2, (Value.slice a_budget budget.length c_budget)), (7, (Value.slice a_y32 least_1.1.length c_y32)), (8, (Value.int .i64 least_1.2)), (9, (Value.slice a_y45 least_2.1.length c_y45)), (10, (Value.int .i64 least_2.2)), (11, (Value.slice a_y58 sums_1.1.length c_y58)), (12, (Value.int .i64 sums_1.2))] rfl ⟨rfl, rfl, rfl, rfl, rfl, rfl, rfl, rfl, rfl, trivial⟩ fun ξ60 => ?_
    refine Wp_region ?_
    refine Rg_op rfl (op_move (v := (Value.slice a_a a.length c_a)) rfl ?_)
    refine Rg_op rfl (op_move (v := (Value.slice a_b b.length c_b)) rfl ?_)
    replace hm := bd hm; obtain ⟨sums_2, hv61, hm⟩ := hm
    refine Rg_op rfl (op_call Try.call24 (c24_overflightref06_Sums (a := a) (b := b) hs52.ltw f_a f_b hv61) rfl ?_)
    rintro v62 w63 ⟨hx64, h65⟩
    have hs66 := hs52.call hx64
    have p67 := Step.ext (O := ks [] O) hx64
    clear hx64
    replace f_a := f_a.step p67; replace f_b := f_b.step p67; replace f_budget := f_budget.step p67; replace f_y32 := f_y32.step p67; replace f_y45 := f_y45.step p67; replace f_y58 := f_y58.step p67; clear p67 hs52
    obtain ⟨v68, v69, rfl, h70, h71⟩ := h65
    obtain ⟨a_y72, c_y72, rfl, f_y72⟩ := un_sl h70
    obtain ⟨rfl, r_y73⟩ := h71
    refine Rg_op rfl (op_move (v := (Value.tuple [(Value.slice a_y72 sums_2.1.length c_y72), (Value.int .i64 sums_2.2)].toArray)) rfl ?_)
    refine Rg_op rfl (op_extract (v := (Value.slice a_y72 sums_2.1.length c_y72)) rfl rfl ?_)
    refine Rg_op rfl (op_extract (v := (Value.int .i64 sums_2.2)) rfl rfl ?_)
    refine Rg_op rfl (op_assign (v := (Value.slice a_y72 sums_2.1.length c_y72)) rfl ?_)
    refine Rg_op rfl (op_assign (v := (Value.int .i64 sums_2.2)) rfl ?_)
    refine Rg_nil ?_
    refine Wp_seq ?_
    clear f_b
    refine Wp_region ?_
    refine Rg_op rfl (op_move (v := (Value.slice a_a a.length c_a)) rfl ?_)
    refine Rg_op rfl (op_move (v := (Value.slice a_budget budget.length c_budget)) rfl ?_)
    replace hm := bd hm; obtain ⟨fits_1, hv74, hm⟩ := hm
    refine Rg_op rfl (op_call Try.call25 (c25_vector_Fits (l := a) (budget := budget) hs66.ltw f_a f_budget hv74) rfl ?_)
    rintro v75 w76 ⟨hx77, h78⟩
    have hs79 := hs66.call hx77
    have p80 := Step.ext (O := ks [] O) hx77
    clear hx77
    replace f_a := f_a.step p80; replace f_budget := f_budget.step p80; replace f_y32 := f_y32.step p80; replace f_y45 := f_y45.step p80; replace f_y58 := f_y58.step p80; replace f_y72 := f_y72.step p80; clear p80 hs66
    obtain ⟨v81, v82, rfl, h83, h84⟩ := h78
    obtain rfl := h83
    obtain ⟨rfl, r_y86⟩ := h84
    refine Rg_op rfl (op_move (v := (Value.tuple [(Value.bool fits_1.1), (Value.int .i64 fits_1.2)].toArray)) rfl ?_)
    refine Rg_op rfl (op_extract (v := (Value.bool fits_1.1)) rfl rfl ?_)
    refine Rg_op rfl (op_extract (v := (Value.int .i64 fits_1.2)) rfl rfl ?_)
    refine Rg_op rfl (op_assign (v := (Value.bool fits_1.1)) rfl ?_)
    refine Rg_op rfl (op_assign (v := (Value.int .i64 fits_1.2)) rfl ?_)
    refine Rg_nil ?_
    refine Wp_seq ?_
    refine Wp_region ?_
    refine Rg_op rfl (op_move (v := (Value.slice a_a a.length c_a)) rfl ?_)
    refine Rg_op rfl (op_move (v := (Value.slice a_budget budget.length c_budget)) rfl ?_)
    replace hm := bd hm; obtain ⟨fits_2, hv87, hm⟩ := hm
    refine Rg_op rfl (op_call Try.call26 (c26_overflightref06_Fits (l := a) (budget := budget) hs79.ltw f_a f_budget hv87) rfl ?_)
    rintro v88 w89 ⟨hx90, h91⟩
    have hs92 := hs79.call hx90
    have p93 := Step.ext (O := ks [] O) hx90
    clear hx90
    replace f_a := f_a.step p93; replace f_budget := f_budget.step p93; replace f_y32 := f_y32.step p93; replace f_y45 := f_y45.step p93; replace f_y58 := f_y58.step p93; replace f_y72 := f_y72.step p93; clear p93 hs79
    obtain ⟨v94, v95, rfl, h96, h97⟩ := h91
    obtain rfl := h96
    obtain ⟨rfl, r_y99⟩ := h97
    refine Rg_op rfl (op_move (v := (Value.tuple [(Value.bool fits_2.1), (Value.int .i64 fits_2.2)].toArray)) rfl ?_)
    refine Rg_op rfl (op_extract (v := (Value.bool fits_2.1)) rfl rfl ?_)
    refine Rg_op rfl (op_extract (v := (Value.int .i64 fits_2.2)) rfl rfl ?_)
    refine Rg_op rfl (op_assign (v := (Value.bool fits_2.1)) rfl ?_)
    refine Rg_op rfl (op_assign (v := (Value.int .i64 fits_2.2)) rfl ?_)
    refine Rg_nil ?_
    refine Wp_reset [] [(7, (Value.slice a_y32 least_1.1.length c_y32)), (8, (Value.int .i64 least_1.2)), (9, (Value.slice a_y45 least_2.1.length c_y45)), (10, (Value.int .i64 least_2.2)), (11, (Value.slice a_y58 sums_1.1.length c_y58)), (12, (Value.int .i64 sums_1.2)), (13, (Value.slice a_y72 sums_2.1.length c_y72)), (14, (Value.int .i64 sums_2.2)), (15, (Value.bool fits_1.1)), (16, (Value.int .i64 fits_1.2)), (17, (Value.bool fits_2.1)), (18, (Value.int .i64 fits_2.2))] rfl ⟨rfl, rfl, rfl, rfl, rfl, rfl, rfl, rfl, rfl, rfl, rfl, rfl, trivial⟩ fun ξ100 => ?_
    replace hm := jn_elim hm; obtain ⟨k102, hk103, hm⟩ := hm
    refine Wp_seqJ [6, 69, 70, 71, 72, 73, 74, 75, 76, 77, 78, 79, 80, 81, 82, 83, 84, 85, 86, 87, 88, 89, 90, 91, 92, 93, 94, 95, 96] (fun fr w' => ∃ (v_2 : Bool) (Ebs : Ents), Ebs = [] ∧ fr [] [(6, (Value.bool v_2))] ∧ Step (ks [] O) w89 (ks Ebs O) w' ∧ St ⟨w, [], []⟩ O w' Ebs ∧ k102 v_2 = some x) ?_ ?_
    ·
     rintro ρ109 w105 ⟨v_2, Ebs, hEbs, hfr108, hst107, hs106, hm⟩
     replace hm := jnE1 hk103 hm
     subst hEbs; rw [hfr108.eq]; clear hfr108
     replace f_a := f_a.step hst107; replace f_budget := f_budget.step hst107; replace f_y32 := f_y32.step hst107; replace f_y45 := f_y45.step hst107; replace f_y58 := f_y58.step hst107; replace f_y72 := f_y72.step hst107; clear hst107 hs92
     refine Wp_ret ?_
     have hz := step_all hs106
     replace f_a := f_a.step hz; replace f_budget := f_budget.step hz; replace f_y32 := f_y32.step hz; replace f_y45 := f_y45.step hz; replace f_y58 := f_y58.step hz; replace f_y72 := f_y72.step hz
     refine ⟨_, (show Closes [] _ _ from rfl), [(Value.bool v_2)], ⟨rfl, trivial⟩, hs106.ext, ?_⟩
     exact Vr.eq (a := vB) (x := v_2) rfl (Option.some.inj hm)
    ·
     intro K104 hK104
     have ch110 := Step.refl (ks [] O) w89
     clear f_a f_budget
     refine Wp_region ?_
     refine Rg_op rfl (op_move (v := (Value.slice a_y32 least_1.1.length c_y32)) rfl ?_)
     refine Rg_op rfl (op_move (v := (Value.slice a_y45 least_2.1.length c_y45)) rfl ?_)
     replace hm := bd hm; obtain ⟨samelist_1, hv111, hm⟩ := hm
     refine Rg_op rfl (op_call Try.call27 (c27_overflightref06_SameList (a := least_1.1) (b := least_2.1) hs92.ltw f_y32 f_y45 hv111) rfl ?_)
     rintro v112 w113 ⟨hx114, h115⟩
     have hs116 := hs92.call hx114
     have p117 := Step.ext (O := ks [] O) hx114
     clear hx114
     replace f_y32 := f_y32.step p117; replace f_y45 := f_y45.step p117; replace f_y58 := f_y58.step p117; replace f_y72 := f_y72.step p117; replace ch110 := ch110.trans p117; clear p117 hs92
     obtain rfl := h115
     refine Rg_op rfl (op_move (v := (Value.bool samelist_1)) rfl ?_)
     refine Rg_case (fun hg119 => ?_) (fun hg119 => ?_)
     ·
      replace hm := bif_t hm hg119
      refine Rg_opg rfl rfl rfl (op_move (v := (Value.int .i64 least_1.2)) rfl ?_)
      refine Rg_opg rfl rfl rfl (op_move (v := (Value.int .i64 least_2.2)) rfl ?_)
      refine Rg_opg rfl rfl rfl (op_eql rfl rfl ?_)
      refine Rg_op rfl (op_pick_t (v := (Value.bool (decide (least_1.2 = least_2.2)))) rfl rfl ?_)
      refine Rg_op rfl (op_move (v := (Value.bool (decide (least_1.2 = least_2.2)))) rfl ?_)
      refine Rg_case (fun hg120 => ?_) (fun hg120 => ?_)
      ·
       replace hm := bif_t hm hg120
       refine Rg_opg rfl rfl rfl (op_move (v := (Value.slice a_y58 sums_1.1.length c_y58)) rfl ?_)
       refine Rg_opg rfl rfl rfl (op_move (v := (Value.slice a_y72 sums_2.1.length c_y72)) rfl ?_)
       replace hm := bd hm; obtain ⟨samelist_2, hv121, hm⟩ := hm
       refine Rg_opg rfl rfl rfl (op_call Try.call27 (c27_overflightref06_SameList (a := sums_1.1) (b := sums_2.1) hs116.ltw f_y58 f_y72 hv121) rfl ?_)
       rintro v122 w123 ⟨hx124, h125⟩
       have hs126 := hs116.call hx124
       have p127 := Step.ext (O := ks [] O) hx124
       clear hx124
       replace f_y32 := f_y32.step p127; replace f_y45 := f_y45.step p127; replace f_y58 := f_y58.step p127; replace f_y72 := f_y72.step p127; replace ch110 := ch110.trans p127; clear p127 hs116
       obtain rfl := h125
       refine Rg_op rfl (op_pick_t (v := (Value.bool samelist_2)) rfl rfl ?_)
       refine Rg_op rfl (op_move (v := (Value.bool samelist_2)) rfl ?_)
       refine Rg_case (fun hg129 => ?_) (fun hg129 => ?_)
       ·
        replace hm := bif_t hm hg129
        refine Rg_opg rfl rfl rfl (op_move (v := (Value.int .i64 sums_1.2)) rfl ?_)
        refine Rg_opg rfl rfl rfl (op_move (v := (Value.int .i64 sums_2.2)) rfl ?_)
        refine Rg_opg rfl rfl rfl (op_eql rfl rfl ?_)
        refine Rg_op rfl (op_pick_t (v := (Value.bool (decide (sums_1.2 = sums_2.2)))) rfl rfl ?_)
        refine Rg_op rfl (op_move (v := (Value.bool (decide (sums_1.2 = sums_2.2)))) rfl ?_)
        refine Rg_case (fun hg130 => ?_) (fun hg130 => ?_)
        ·
         replace hm := bif_t hm hg130
         refine Rg_opg rfl rfl rfl (op_move (v := (Value.bool fits_1.1)) rfl ?_)
         refine Rg_opg rfl rfl rfl (op_move (v := (Value.bool fits_2.1)) rfl ?_)
         refine Rg_opg rfl rfl rfl (op_eqb Try.underlying4 rfl rfl ?_)
         refine Rg_op rfl (op_pick_t (v := (Value.bool (fits_1.1 == fits_2.1))) rfl rfl ?_)
         refine Rg_op rfl (op_move (v := (Value.bool (fits_1.1 == fits_2.1))) rfl ?_)
         refine Rg_case (fun hg131 => ?_) (fun hg131 => ?_)
         ·
          replace hm := bif_t hm hg131
          refine Rg_opg rfl rfl rfl (op_move (v := (Value.int .i64 fits_1.2)) rfl ?_)
          refine Rg_opg rfl rfl rfl (op_move (v := (Value.int .i64 fits_2.2)) rfl ?_)
          refine Rg_opg rfl rfl rfl (op_eql rfl rfl ?_)
          refine Rg_op rfl (op_pick_t (v := (Value.bool (decide (fits_1.2 = fits_2.2)))) rfl rfl ?_)
          refine Rg_op rfl (op_assign (v := (Value.bool (decide (fits_1.2 = fits_2.2)))) rfl ?_)
          refine Rg_nil ?_
          exact hK104 _ _ ⟨(decide (fits_1.2 = fits_2.2)), _, rfl, ⟨(by repeat (first | with_reducible exact Out.refl _ _ | refine Out.upd ?_ rfl | refine Out.updL ?_ rfl | refine Out.mix' ?_ rfl | exact Out.refl _ _)), rfl, rfl, trivial⟩, ch110, hs126, hm⟩
         ·
          replace hm := bif_f hm hg131
          iterate 3 refine Rg_opx rfl (asB_ne rfl rfl) rfl ?_
          refine Rg_op rfl (op_pick_f (v := (Value.bool false)) rfl rfl ?_)
          refine Rg_op rfl (op_assign (v := (Value.bool false)) rfl ?_)
          refine Rg_nil ?_
          exact hK104 _ _ ⟨false, _, rfl, ⟨(by repeat (first | with_reducible exact Out.refl _ _ | refine Out.upd ?_ rfl | refine Out.updL ?_ rfl | refine Out.mix' ?_ rfl | exact Out.refl _ _)), rfl, rfl, trivial⟩, ch110, hs126, hm⟩
        ·
         replace hm := bif_f hm hg130
         iterate 3 refine Rg_opx rfl (asB_ne rfl rfl) rfl ?_
         refine Rg_op rfl (op_pick_f (v := (Value.bool false)) rfl rfl ?_)
         refine Rg_op rfl (op_move (v := (Value.bool false)) rfl ?_)
         iterate 3 refine Rg_opx rfl (asB_ne rfl rfl) rfl ?_
         refine Rg_op rfl (op_pick_f (v := (Value.bool false)) rfl rfl ?_)
         refine Rg_op rfl (op_assign (v := (Value.bool false)) rfl ?_)
         refine Rg_nil ?_
         exact hK104 _ _ ⟨false, _, rfl, ⟨(by repeat (first | with_reducible exact Out.refl _ _ | refine Out.upd ?_ rfl | refine Out.updL ?_ rfl | refine Out.mix' ?_ rfl | exact Out.refl _ _)), rfl, rfl, trivial⟩, ch110, hs126, hm⟩
       ·
        replace hm := bif_f hm hg129
        iterate 3 refine Rg_opx rfl (asB_ne rfl rfl) rfl ?_
        refine Rg_op rfl (op_pick_f (v := (Value.bool false)) rfl rfl ?_)
        refine Rg_op rfl (op_move (v := (Value.bool false)) rfl ?_)
        iterate 3 refine Rg_opx rfl (asB_ne rfl rfl) rfl ?_
        refine Rg_op rfl (op_pick_f (v := (Value.bool false)) rfl rfl ?_)
        refine Rg_op rfl (op_move (v := (Value.bool false)) rfl ?_)
        iterate 3 refine Rg_opx rfl (asB_ne rfl rfl) rfl ?_
        refine Rg_op rfl (op_pick_f (v := (Value.bool false)) rfl rfl ?_)
        refine Rg_op rfl (op_assign (v := (Value.bool false)) rfl ?_)
        refine Rg_nil ?_
        exact hK104 _ _ ⟨false, _, rfl, ⟨(by repeat (first | with_reducible exact Out.refl _ _ | refine Out.upd ?_ rfl | refine Out.updL ?_ rfl | refine Out.mix' ?_ rfl | exact Out.refl _ _)), rfl, rfl, trivial⟩, ch110, hs126, hm⟩
      ·
       replace hm := bif_f hm hg120
       iterate 3 refine Rg_opx rfl (asB_ne rfl rfl) rfl ?_
       refine Rg_op rfl (op_pick_f (v := (Value.bool false)) rfl rfl ?_)
       refine Rg_op rfl (op_move (v := (Value.bool false)) rfl ?_)
       iterate 3 refine Rg_opx rfl (asB_ne rfl rfl) rfl ?_
       refine Rg_op rfl (op_pick_f (v := (Value.bool false)) rfl rfl ?_)
       refine Rg_op rfl (op_move (v := (Value.bool false)) rfl ?_)
       iterate 3 refine Rg_opx rfl (asB_ne rfl rfl) rfl ?_
       refine Rg_op rfl (op_pick_f (v := (Value.bool false)) rfl rfl ?_)
       refine Rg_op rfl (op_move (v := (Value.bool false)) rfl ?_)
       iterate 3 refine Rg_opx rfl (asB_ne rfl rfl) rfl ?_
       refine Rg_op rfl (op_pick_f (v := (Value.bool false)) rfl rfl ?_)
       refine Rg_op rfl (op_assign (v := (Value.bool false)) rfl ?_)
       refine Rg_nil ?_
       exact hK104 _ _ ⟨false, _, rfl, ⟨(by repeat (first | with_reducible exact Out.refl _ _ | refine Out.upd ?_ rfl | refine Out.updL ?_ rfl | refine Out.mix' ?_ rfl | exact Out.refl _ _)), rfl, rfl, trivial⟩, ch110, hs116, hm⟩
     ·
      replace hm := bif_f hm hg119
      iterate 3 refine Rg_opx rfl (asB_ne rfl rfl) rfl ?_
      refine Rg_op rfl (op_pick_f (v := (Value.bool false)) rfl rfl ?_)
      refine Rg_op rfl (op_move (v := (Value.bool false)) rfl ?_)
      iterate 3 refine Rg_opx rfl (asB_ne rfl rfl) rfl ?_
      refine Rg_op rfl (op_pick_f (v := (Value.bool false)) rfl rfl ?_)
      refine Rg_op rfl (op_move (v := (Value.bool false)) rfl ?_)
      iterate 3 refine Rg_opx rfl (asB_ne rfl rfl) rfl ?_
      refine Rg_op rfl (op_pick_f (v := (Value.bool false)) rfl rfl ?_)
      refine Rg_op rfl (op_move (v := (Value.bool false)) rfl ?_)
      iterate 3 refine Rg_opx rfl (asB_ne rfl rfl) rfl ?_
      refine Rg_op rfl (op_pick_f (v := (Value.bool false)) rfl rfl ?_)
      refine Rg_op rfl (op_move (v := (Value.bool false)) rfl ?_)
      iterate 3 refine Rg_opx rfl (asB_ne rfl rfl) rfl ?_
      refine Rg_op rfl (op_pick_f (v := (Value.bool false)) rfl rfl ?_)
      refine Rg_op rfl (op_assign (v := (Value.bool false)) rfl ?_)
      refine Rg_nil ?_
      exact hK104 _ _ ⟨false, _, rfl, ⟨(by repeat (first | with_reducible exact Out.refl _ _ | refine Out.upd ?_ rfl | refine Out.updL ?_ rfl | refine Out.mix' ?_ rfl | exact Out.refl _ _)), rfl, rfl, trivial⟩, ch110, hs116, hm⟩
  ·
   intro K14 hK14
   have ch132 := Step.refl (ks [] O) w3
   refine Wp_region ?_
   refine Rg_op rfl (op_move (v := (Value.slice a_a a.length c_a)) rfl ?_)
   replace hm := bd hm; obtain ⟨few_1, hv133, hm⟩ := hm
   refine Rg_op rfl (op_call Try.call20 (c20_overflightref06_Few (l := a) hs6.ltw f_a hv133) rfl ?_)
   rintro v134 w135 ⟨hx136, h137⟩
   have hs138 := hs6.call hx136
   have p139 := Step.ext (O := ks [] O) hx136
   clear hx136
   replace f_a := f_a.step p139; replace f_b := f_b.step p139; replace f_budget := f_budget.step p139; replace ch132 := ch132.trans p139; clear p139 hs6
   obtain rfl := h137
   refine Rg_op rfl (op_not rfl ?_)
   refine Rg_op rfl (op_move (v := (Value.bool (!few_1))) rfl ?_)
   refine Rg_case (fun hg141 => ?_) (fun hg141 => ?_)
   ·
    replace hm := bif_t hm hg141
    iterate 3 refine Rg_opx rfl (asB_ne rfl rfl) rfl ?_
    refine Rg_op rfl (op_pick_t (v := (Value.bool true)) rfl rfl ?_)
    refine Rg_op rfl (op_move (v := (Value.bool true)) rfl ?_)
    iterate 4 refine Rg_opx rfl (asB_ne rfl rfl) rfl ?_
    refine Rg_op rfl (op_pick_t (v := (Value.bool true)) rfl rfl ?_)
    refine Rg_nil ?_
    exact hK14 _ _ ⟨true, _, rfl, ⟨(by repeat (first | with_reducible exact Out.refl _ _ | refine Out.upd ?_ rfl | refine Out.updL ?_ rfl | refine Out.mix' ?_ rfl | exact Out.refl _ _)), rfl, rfl, trivial⟩, ch132, hs138, hm⟩
   ·
    replace hm := bif_f hm hg141
    refine Rg_opg rfl rfl rfl (op_move (v := (Value.slice a_b b.length c_b)) rfl ?_)
    replace hm := bd hm; obtain ⟨few_2, hv142, hm⟩ := hm
    refine Rg_opg rfl rfl rfl (op_call Try.call20 (c20_overflightref06_Few (l := b) hs138.ltw f_b hv142) rfl ?_)
    rintro v143 w144 ⟨hx145, h146⟩
    have hs147 := hs138.call hx145
    have p148 := Step.ext (O := ks [] O) hx145
    clear hx145
    replace f_a := f_a.step p148; replace f_b := f_b.step p148; replace f_budget := f_budget.step p148; replace ch132 := ch132.trans p148; clear p148 hs138
    obtain rfl := h146
    refine Rg_opg rfl rfl rfl (op_not rfl ?_)
    refine Rg_op rfl (op_pick_f (v := (Value.bool (!few_2))) rfl rfl ?_)
    refine Rg_op rfl (op_move (v := (Value.bool (!few_2))) rfl ?_)
    refine Rg_case (fun hg150 => ?_) (fun hg150 => ?_)
    ·
     replace hm := bif_t hm hg150
     iterate 4 refine Rg_opx rfl (asB_ne rfl rfl) rfl ?_
     refine Rg_op rfl (op_pick_t (v := (Value.bool true)) rfl rfl ?_)
     refine Rg_nil ?_
     exact hK14 _ _ ⟨true, _, rfl, ⟨(by repeat (first | with_reducible exact Out.refl _ _ | refine Out.upd ?_ rfl | refine Out.updL ?_ rfl | refine Out.mix' ?_ rfl | exact Out.refl _ _)), rfl, rfl, trivial⟩, ch132, hs147, hm⟩
    ·
     replace hm := bif_f hm hg150
     refine Rg_opg rfl rfl rfl (op_move (v := (Value.slice a_budget budget.length c_budget)) rfl ?_)
     refine Rg_opg rfl rfl rfl (op_buildSlice (cs := [(Value.slice a_budget budget.length c_budget)]) (parts := [(0, .tmp 30)]) ty33 ty22 hs147 (by decide) rfl ?_)
     intro b151 w152 hx155 p153 hs154
     replace f_a := f_a.step p153; replace f_b := f_b.step p153; replace f_budget := f_budget.step p153; replace ch132 := ch132.trans p153; clear p153 hs147
     obtain ⟨hs158, p159, f157⟩ := St.publish (i := 0) (o := 0) (c := 1) (xs := [budget]) hs154 rfl (show Els (rSl (rInt .i64)) _ _ [(Value.slice a_budget budget.length c_budget)] [budget] from ⟨_, _, rfl, (mk_sl f_budget), Els.nil⟩) (le_lit rfl) (le_lit rfl) (le_lit rfl)
     replace f_a := f_a.step p159; replace f_b := f_b.step p159; replace f_budget := f_budget.step p159; replace ch132 := ch132.trans p159; clear p159 hs154
     replace hm := bd hm; obtain ⟨short_1, hv160, hm⟩ := hm
     refine Rg_opg rfl rfl rfl (op_call Try.call12 (c12_overflightlaw06_short (l := [budget]) hs158.ltw f157 hv160) rfl ?_)
     rintro v161 w162 ⟨hx163, h164⟩
     have hs165 := hs158.call hx163
     have p166 := Step.ext (O := ks [] O) hx163
     clear hx163
     replace f_a := f_a.step p166; replace f_b := f_b.step p166; replace f_budget := f_budget.step p166; replace f157 := f157.step p166; replace ch132 := ch132.trans p166; clear p166 hs158
     obtain rfl := h164
     refine Rg_opg rfl rfl rfl (op_not rfl ?_)
     refine Rg_op rfl (op_pick_f (v := (Value.bool (!short_1))) rfl rfl ?_)
     refine Rg_nil ?_
     exact hK14 _ _ ⟨(!short_1), _, rfl, ⟨(by repeat (first | with_reducible exact Out.refl _ _ | refine Out.upd ?_ rfl | refine Out.updL ?_ rfl | refine Out.mix' ?_ rfl | exact Out.refl _ _)), rfl, rfl, trivial⟩, ch132, hs165, hm⟩

end Go.Fx



/- What the models of functions compute: loops over lists, checks, meetings. No program in sight. -/
set_option linter.unusedSimpArgs false
set_option linter.unusedVariables false
namespace Go.Fx
open Go Go.RowKit

section
variable {R α σ : Type}
@[simp] theorem jn_eq {κ : Type _} (k : κ) (f : κ → Option R) : jn k f = f k := rfl
theorem ck_eq {c : Prop} [Decidable c] {m : Option R} (h : c) : ck c m = m := if_pos h
@[simp] theorem ck_True {m : Option R} : ck True m = m := if_pos trivial
theorem wrapN {i : Nat} (h : i < 9223372036854775808) : IntKind.i64.wrap (i : Int) = (i : Int) := wrap_i64 (by omega) (by omega)
theorem wrapS {i : Nat} (h : i + 1 < 9223372036854775808) : IntKind.i64.wrap ((i : Int) + 1) = (i : Int) + 1 := wrap_i64 (by omega) (by omega)
/-- a loop that goes up an index over a list: L fuel index state -/
theorem up_list {L : Nat → Int → σ → Option R} (I : Nat → σ → Prop) (F : Nat → List α → σ → Option R) (l : List α) (hl : l.length < 9223372036854775807)
    (hE : ∀ n s, I l.length s → L (n + 1) (l.length : Nat) s = F l.length [] s)
    (hS : ∀ n (i : Nat) s x t, i < l.length → l[i]? = some x → IntKind.i64.wrap ((i : Int) + 1) = (i : Int) + 1 → I i s →
      (∀ s, I (i + 1) s → L n ((i : Int) + 1) s = F (i + 1) t s) → L (n + 1) (i : Int) s = F i (x :: t) s) :
    ∀ (fuel : Nat) s, l.length < fuel → I 0 s → L fuel 0 s = F 0 l s := by
  have main : ∀ (t : List α) (i fuel : Nat) s, l.drop i = t → i ≤ l.length → l.length - i < fuel → I i s → L fuel (i : Int) s = F i t s := by
    intro t
    induction t with
    | nil =>
      intro i fuel s hd hi hf hI
      have : i = l.length := by have := congrArg List.length hd; simp at this; omega
      subst this
      obtain ⟨n, rfl⟩ : ∃ n, fuel = n + 1 := ⟨fuel - 1, by omega⟩
      exact hE n s hI
    | cons x t ih =>
      intro i fuel s hd hi hf hI
      have hlt : i < l.length := by have := congrArg List.length hd; simp at this; omega
      obtain ⟨n, rfl⟩ : ∃ n, fuel = n + 1 := ⟨fuel - 1, by omega⟩
      have hx : l[i]? = some x := by rw [← List.head?_drop, hd]; rfl
      refine hS n i s x t hlt hx (wrapS (by omega)) hI fun s' hI' => (ih (i + 1) n s' ?_ (by omega) (by omega) hI')
      rw [← List.drop_drop, hd]; rfl
  intro fuel s hf hI
  exact main l 0 fuel s rfl (by omega) (by omega) hI

theorem getD_of {l : List α} {i : Nat} {x d : α} (h : l[i]? = some x) : l.getD i d = x := by simp [List.getD, h]

/-- a loop that goes up an index over a list, no state -/
theorem up_list0 {B : (Int → Option R) → Int → Option R} (F : List α → Option R) (l : List α) (hl : l.length < 9223372036854775807)
    (hE : ∀ sf, B sf (l.length : Nat) = F [])
    (hS : ∀ sf (i : Nat) x t, i < l.length → l[i]? = some x → IntKind.i64.wrap ((i : Int) + 1) = (i : Int) + 1 →
      sf ((i : Int) + 1) = F t → B sf (i : Int) = F (x :: t))
    {fuel : Nat} (hf : l.length < fuel) : loop1 B fuel 0 = F l := by
  refine up_list (L := fun n i (_ : Unit) => loop1 B n i) (fun _ _ => True) (fun _ t _ => F t) l hl ?_ ?_ fuel () hf trivial
  · intro n _ _; show loop1 B (n + 1) _ = _; rw [loop1_succ]; exact hE _
  · intro n i _ x t h1 h2 h3 _ ih; show loop1 B (n + 1) _ = _; rw [loop1_succ]; exact hS _ i x t h1 h2 h3 (ih () trivial)
/-- a state first, then the index -/
theorem up_listB {B : (σ → Int → Option R) → σ → Int → Option R} (I : Nat → σ → Prop) (F : Nat → List α → σ → Option R) (l : List α) (hl : l.length < 9223372036854775807)
    (hE : ∀ sf s, I l.length s → B sf s (l.length : Nat) = F l.length [] s)
    (hS : ∀ sf (i : Nat) s x t, i < l.length → l[i]? = some x → IntKind.i64.wrap ((i : Int) + 1) = (i : Int) + 1 → I i s →
      (∀ s, I (i + 1) s → sf s ((i : Int) + 1) = F (i + 1) t s) → B sf s (i : Int) = F i (x :: t) s)
    {fuel : Nat} {s : σ} (hf : l.length < fuel) (hI : I 0 s) : loop2 B fuel s 0 = F 0 l s := by
  refine up_list (L := fun n i s => loop2 B n s i) I F l hl ?_ ?_ fuel s hf hI
  · intro n s h; show loop2 B (n + 1) _ _ = _; rw [loop2_succ]; exact hE _ _ h
  · intro n i s x t h1 h2 h3 h4 ih; show loop2 B (n + 1) _ _ = _; rw [loop2_succ]; exact hS _ i s x t h1 h2 h3 h4 ih

/-- the same, where the answer needs the index -/
theorem up_listI {B : (Int → Option R) → Int → Option R} (F : Nat → List α → Option R) (l : List α) (hl : l.length < 9223372036854775807)
    (hE : ∀ sf, B sf (l.length : Nat) = F l.length [])
    (hS : ∀ sf (i : Nat) x t, i < l.length → l[i]? = some x → IntKind.i64.wrap ((i : Int) + 1) = (i : Int) + 1 →
      sf ((i : Int) + 1) = F (i + 1) t → B sf (i : Int) = F i (x :: t))
    {fuel : Nat} (hf : l.length < fuel) : loop1 B fuel 0 = F 0 l := by
  refine up_list (L := fun n i (_ : Unit) => loop1 B n i) (fun _ _ => True) (fun i t _ => F i t) l hl ?_ ?_ fuel () hf trivial
  · intro n _ _; show loop1 B (n + 1) _ = _; rw [loop1_succ]; exact hE _
  · intro n i _ x t h1 h2 h3 _ ih; show loop1 B (n + 1) _ = _; rw [loop1_succ]; exact hS _ i x t h1 h2 h3 (ih () trivial)
end
end Go.Fx



set_option linter.unusedVariables false
set_option linter.unusedSimpArgs false
set_option maxRecDepth 100000
set_option maxHeartbeats 0
namespace Go.Fx
open Go Go.RowKit Go.Proofs
end Go.Fx



/- The plain laws of chapter 06: what the functions compute. -/
set_option linter.unusedSimpArgs false
set_option linter.unusedVariables false
namespace Go.Fx
open Go Go.RowKit
theorem sane_eq : m11_overflightlaw06_sane = some true := by kernel_rfl
abbrev big : Nat := 1000000
/-- the order of lists: -1, 0 or 1 -/
def cmpL : List Int → List Int → Int
  | [], [] => 0
  | [], _ :: _ => -1
  | _ :: _, [] => 1
  | x :: s, y :: t => if x < y then -1 else if y < x then 1 else cmpL s t
theorem cmpL_anti (a b : List Int) : cmpL b a = - cmpL a b := by
  induction a generalizing b with
  | nil => cases b <;> simp [cmpL]
  | cons x s ih => cases b with
    | nil => simp [cmpL]
    | cons y t =>
      unfold cmpL
      by_cases h1 : x < y
      · have : ¬ y < x := by omega
        simp [h1, this]
      · by_cases h2 : y < x
        · simp [h1, h2]
        · simp [h1, h2, ih]
theorem cmpL_zero {a b : List Int} : cmpL a b = 0 ↔ a = b := by
  induction a generalizing b with
  | nil => cases b <;> simp [cmpL]
  | cons x s ih => cases b with
    | nil => simp [cmpL]
    | cons y t =>
      unfold cmpL
      by_cases h1 : x < y
      · simp [h1]; omega
      · by_cases h2 : y < x
        · simp [h1, h2]; omega
        · have : x = y := by omega
          simp [h1, h2, ih, this]
theorem cmpL_trans {a b c : List Int} (h1 : cmpL a b ≤ 0) (h2 : cmpL b c ≤ 0) : cmpL a c ≤ 0 := by
  induction a generalizing b c with
  | nil => cases c <;> simp [cmpL]
  | cons x s ih =>
    cases b with
    | nil => simp [cmpL] at h1
    | cons y t =>
      cases c with
      | nil => simp [cmpL] at h2
      | cons z u =>
        unfold cmpL at h1 h2 ⊢
        by_cases a1 : x < z
        · simp [a1]
        · by_cases a2 : x < y
          · have : ¬ y < z := by omega
            have : z < y := by omega
            simp_all
          · by_cases a3 : y < x
            · simp [a2, a3] at h1
            · have hxy : x = y := by omega
              subst hxy
              simp only [a1, if_false] at h2 ⊢
              by_cases a4 : z < x
              · simp [a4] at h2
              · simp only [a4, if_false, Int.lt_irrefl] at h1 h2 ⊢
                exact ih h1 h2
theorem cmpL_lt {a b c : List Int} (h1 : cmpL a b < 0) (h2 : cmpL b c < 0) : cmpL a c < 0 := by
  have h3 := cmpL_trans (a := a) (b := b) (c := c) (by omega) (by omega)
  rcases Int.lt_or_eq_of_le h3 with h | h
  · exact h
  · rw [cmpL_zero] at h; subst h
    have := cmpL_anti a b; omega
/-- below, component by component -/
def bel : List Int → List Int → Bool
  | x :: s, y :: t => decide (x ≤ y) && bel s t
  | _, _ => true
theorem bel_refl (a : List Int) : bel a a = true := by induction a <;> simp [bel, *]
theorem bel_cmp {a b : List Int} (hl : a.length = b.length) (h : bel a b = true) : cmpL a b ≤ 0 := by
  induction a generalizing b with
  | nil => cases b <;> simp [cmpL]
  | cons x s ih => cases b with
    | nil => simp at hl
    | cons y t =>
      simp only [bel, Bool.and_eq_true, decide_eq_true_eq] at h
      unfold cmpL
      by_cases h1 : x < y
      · simp [h1]
      · have : ¬ y < x := by omega
        simp only [h1, this, if_false]; exact ih (by simpa using hl) h.2
theorem bel_trans {a b c : List Int} (h1 : a.length = b.length) (h2 : b.length = c.length) (k1 : bel a b = true) (k2 : bel b c = true) : bel a c = true := by
  induction a generalizing b c with
  | nil => cases c <;> simp [bel]
  | cons x s ih => cases b with
    | nil => simp at h1
    | cons y t => cases c with
      | nil => simp at h2
      | cons z u =>
        simp only [bel, Bool.and_eq_true, decide_eq_true_eq] at k1 k2 ⊢
        exact ⟨by omega, ih (by simpa using h1) (by simpa using h2) k1.2 k2.2⟩
theorem m48_eq (x y : Int) : m48_cmp_Compare x y = some (if x < y then -1 else if y < x then 1 else 0) := by
  unfold m48_cmp_Compare m58_cmp_isNaN
  by_cases h1 : x < y
  · simp [h1]
  · by_cases h2 : y < x <;> simp [h1, h2]
theorem m34_eq (a b : List Int) (ha : a.length < 9223372036854775807) : m34_slices_Compareint_int_ a b = some (cmpL a b) := by
  unfold m34_slices_Compareint_int_
  have := up_listI (B := m34_slices_Compareint_int__B0 a b) (fun i t => some (cmpL t (b.drop i))) a ha ?_ ?_ (fuel := ((a.length : Int) - 0).toNat + 1) (by omega)
  · simpa using this
  · intro sf
    unfold m34_slices_Compareint_int__B0
    by_cases h : a.length < b.length
    · have : ∃ y t, b.drop a.length = y :: t := by
        cases hd : b.drop a.length with
        | nil => have := congrArg List.length hd; simp at this; omega
        | cons y t => exact ⟨y, t, rfl⟩
      obtain ⟨y, t, hd⟩ := this
      have h' : (a.length : Int) < (b.length : Int) := by omega
      simp [h', hd, cmpL, h]
    · have h' : ¬ (a.length : Int) < (b.length : Int) := by omega
      have hd : b.drop a.length = [] := by simp; omega
      simp [h', hd, cmpL, h]
  · intro sf i x t h1 h2 h3 ih
    obtain ⟨_, rfl⟩ := List.getElem?_eq_some_iff.1 h2
    unfold m34_slices_Compareint_int__B0
    have c1 : (i : Int) < (a.length : Int) := by omega
    have g1 : a.getD (i : Int).toNat default = a[i] := by simp [h1]
    simp only [c1, decide_true, cond_true, g1, h3]
    rw [ck_eq (by simp)]
    by_cases hb : i < b.length
    · have c2 : ¬ (b.length : Int) ≤ (i : Int) := by omega
      have g2 : b.getD (i : Int).toNat default = b[i] := by simp [hb]
      have hd : b.drop i = b[i] :: b.drop (i + 1) := List.drop_eq_getElem_cons hb
      simp only [c2, decide_false, cond_false, g2, m48_eq, Option.bind_some, hd]
      rw [ck_eq (by omega)]
      unfold cmpL
      by_cases k1 : a[i] < b[i]
      · simp [k1]
      · by_cases k2 : b[i] < a[i]
        · simp [k1, k2]
        · simp only [k1, k2, if_false, ne_eq, not_true_eq_false, decide_false, cond_false]; exact ih
    · have c2 : (b.length : Int) ≤ (i : Int) := by omega
      have hd : b.drop i = [] := by simp; omega
      simp [c2, hd, cmpL]
theorem m35_eq (a b : List Int) (h : a.length = b.length) (ha : a.length < 9223372036854775807) : m35_overflightref06_Order a b = some (cmpL a b) := by
  unfold m35_overflightref06_Order
  have := up_listI (B := m35_overflightref06_Order_B0 a b) (fun i t => some (cmpL t (b.drop i))) a ha ?_ ?_ (fuel := ((a.length : Int) - 0).toNat + 1) (by omega)
  · simpa using this
  · intro sf
    unfold m35_overflightref06_Order_B0
    have hd : b.drop a.length = [] := by simp; omega
    simp [hd, cmpL]
  · intro sf i x t h1 h2 h3 ih
    obtain ⟨_, rfl⟩ := List.getElem?_eq_some_iff.1 h2
    unfold m35_overflightref06_Order_B0
    have c1 : (i : Int) < (a.length : Int) := by omega
    have hb : i < b.length := by omega
    have g1 : a.getD (i : Int).toNat default = a[i] := by simp [h1]
    have g2 : b.getD (i : Int).toNat default = b[i] := by simp [hb]
    have hd : b.drop i = b[i] :: b.drop (i + 1) := List.drop_eq_getElem_cons hb
    simp only [c1, decide_true, cond_true, g1, g2, h3, hd]
    rw [ck_eq (by simp), ck_eq (by omega), ck_eq (by simp), ck_eq (by omega)]
    unfold cmpL
    by_cases k1 : a[i] < b[i]
    · simp [k1]
    · by_cases k2 : b[i] < a[i]
      · simp [k1, k2]
      · simp only [k1, k2, if_false, decide_false, cond_false]; exact ih
theorem m19_eq (a b : List Int) (ha : a.length < 9223372036854775807) : m19_overflightref06_Same a b = some (decide (a = b)) := by
  unfold m19_overflightref06_Same
  by_cases h : a.length = b.length
  · have h' : (a.length : Int) = (b.length : Int) := by omega
    rw [m35_eq a b h ha]; simp [h', cmpL_zero]
  · have h' : ¬ (a.length : Int) = (b.length : Int) := by omega
    have : ¬ a = b := fun e => h (by rw [e])
    simp [h', this]
theorem m30_eq (a b : List Int) (h : a.length = b.length) (ha : a.length < 9223372036854775807) : m30_vector_pairs a b = some (a.zip b) := by
  unfold m30_vector_pairs m47_vector_pairs_1
  have := up_listI (B := m47_vector_pairs_1_B0 a b) (fun i t => some (t.zip (b.drop i))) a ha ?_ ?_ (fuel := ((a.length : Int) - 0).toNat + 1) (by omega)
  · rw [List.drop_zero] at this; exact (congrArg (fun o => o.bind fun l_1 => some l_1) this).trans rfl
  · intro sf; unfold m47_vector_pairs_1_B0; simp
  · intro sf i x t h1 h2 h3 ih
    obtain ⟨_, rfl⟩ := List.getElem?_eq_some_iff.1 h2
    unfold m47_vector_pairs_1_B0
    have c1 : (i : Int) < (a.length : Int) := by omega
    have hb : i < b.length := by omega
    have g1 : a.getD (i : Int).toNat default = a[i] := by simp [h1]
    have g2 : b.getD (i : Int).toNat default = b[i] := by simp [hb]
    have hd : b.drop i = b[i] :: b.drop (i + 1) := List.drop_eq_getElem_cons hb
    simp only [c1, decide_true, cond_true, g1, g2, h3, hd]
    rw [ck_eq (by simp), ck_eq (by omega), ih, List.zip_cons_cons]
    rfl
theorem m32_eq (a b : List Int) (h : a.length = b.length) (ha : a.length < 9223372036854775807) : m32_vector_below a b = some (bel a b) := by
  unfold m32_vector_below
  rw [m30_eq a b h ha]
  simp only [Option.bind_some, jn_eq]
  clear ha
  induction a generalizing b with
  | nil => simp [rng0_nil, bel]
  | cons x s ih => cases b with
    | nil => simp at h
    | cons y t =>
      rw [List.zip_cons_cons, rng0_cons]
      unfold m32_vector_below_B0
      by_cases k : y < x
      · have : ¬ x ≤ y := by omega
        simp [k, bel, this]
      · have : x ≤ y := by omega
        simp only [k, decide_false, cond_false, bel, this, decide_true, Bool.true_and]
        exact ih t (by simpa using h)
theorem few_eq (l : List (List Int)) (hl : l.length < 9223372036854775807) : m20_overflightref06_Few l = some (l.all (fun a => decide (a.length ≤ 20)) && decide (l.length ≤ 30)) := by
  unfold m20_overflightref06_Few
  refine up_list0 (fun t => some (t.all (fun a => decide (a.length ≤ 20)) && decide (l.length ≤ 30))) l hl ?_ ?_ (show l.length < ((l.length : Int) - 0).toNat + 1 by omega)
  · intro sf; unfold m20_overflightref06_Few_B0
    have : ((l.length : Int) ≤ 30) = (l.length ≤ 30) := by apply propext; omega
    simp [this]
  · intro sf i x t h1 h2 h3 ih
    obtain ⟨_, rfl⟩ := List.getElem?_eq_some_iff.1 h2
    unfold m20_overflightref06_Few_B0
    have k4 : (20 < (l[i].length : Int)) = (20 < l[i].length) := by apply propext; omega
    by_cases k : 20 < l[i].length
    · have : ¬ l[i].length ≤ 20 := by omega
      simp [h1, h3, ih, ck_eq, k4, k, this]
    · have : l[i].length ≤ 20 := by omega
      simp [h1, h3, ih, ck_eq, k4, k, this]
theorem few_spec {l : List (List Int)} (h : (l.all (fun a => decide (a.length ≤ 20)) && decide (l.length ≤ 30)) = true) : (∀ a ∈ l, a.length ≤ 20) ∧ l.length ≤ 30 := by
  simp only [Bool.and_eq_true, List.all_eq_true, decide_eq_true_eq] at h; exact h
theorem m12_eq (l : List (List Int)) (hl : l.length < 9223372036854775807) : m12_overflightlaw06_short l = some (l.all (fun a => decide (a.length ≤ 20)) && decide (l.length ≤ 30)) := by
  unfold m12_overflightlaw06_short; rw [few_eq l hl]; rfl
/-- the first index from i where g holds, or -1 -/
def fidx {α} (g : α → Bool) : Nat → List α → Int
  | _, [] => -1
  | i, x :: t => bif g x then (i : Int) else fidx g (i + 1) t
theorem fidx_any {α} (g : α → Bool) (l : List α) (i : Nat) : decide (0 ≤ fidx g i l) = l.any g := by
  induction l generalizing i with
  | nil => rfl
  | cons x t ih => cases h : g x <;> simp [fidx, h, ih]
theorem m42_eq (s : List (List Int)) (f : List Int → Option Bool) (g : List Int → Bool) (hf : ∀ x ∈ s, f x = some (g x)) (hl : s.length < 9223372036854775807) : m42_slices_ContainsFuncint_int_ s (some f) = some (s.any g) := by
  have : m56_slices_IndexFuncint_int_ s (some f) = some (fidx g 0 s) := by
    unfold m56_slices_IndexFuncint_int_
    refine up_listI (fun i t => some (fidx g i t)) s hl ?_ ?_ (by omega)
    · intro sf; unfold m56_slices_IndexFuncint_int__B0; simp [fidx]
    · intro sf i x t h1 h2 h3 ih; unfold m56_slices_IndexFuncint_int__B0; obtain ⟨_, rfl⟩ := List.getElem?_eq_some_iff.1 h2
      have hfi := hf s[i] (List.getElem_mem _)
      cases h : g s[i] <;> simp [h1, h3, ih, callO, hfi, h, fidx, ck_eq]
  unfold m42_slices_ContainsFuncint_int_; rw [this]; simp [fidx_any]
theorem m45_eq (s : List Int) (f : Int → Option Bool) (g : Int → Bool) (hf : ∀ x, f x = some (g x)) (hl : s.length < 9223372036854775807) : m45_slices_ContainsFuncint_int_ s f = some (s.any g) := by
  have : m57_slices_IndexFuncint_int_ s f = some (fidx g 0 s) := by
    unfold m57_slices_IndexFuncint_int_
    refine up_listI (fun i t => some (fidx g i t)) s hl ?_ ?_ (by omega)
    · intro sf; unfold m57_slices_IndexFuncint_int__B0; simp [fidx]
    · intro sf i x t h1 h2 h3 ih; unfold m57_slices_IndexFuncint_int__B0; obtain ⟨_, rfl⟩ := List.getElem?_eq_some_iff.1 h2
      cases h : g s[i] <;> simp [h1, h3, ih, hf, h, fidx, ck_eq]
  unfold m45_slices_ContainsFuncint_int_; rw [this]; simp [fidx_any]
def smallN (n : Int) : Bool := decide (-1152921504606846976 ≤ n) && decide (n ≤ 1152921504606846976)
def smallV (a : List Int) : Bool := a.all smallN
theorem m29_eq (a : List Int) (ha : a.length < 9223372036854775807) : m29_vector_small a = some (smallV a) := by
  unfold m29_vector_small
  rw [m45_eq a _ (fun n => !smallN n) _ ha]
  · have : (!a.any fun n => !smallN n) = smallV a := by unfold smallV; rw [List.not_any_eq_all_not]; simp
    simp [this]
  · intro n; unfold m46_vector_small_1 smallN
    by_cases h1 : n < -1152921504606846976
    · have : ¬ -1152921504606846976 ≤ n := by omega
      simp only [h1, this, decide_true, decide_false, cond_true, Bool.false_and, Bool.not_false]
    · have : -1152921504606846976 ≤ n := by omega
      by_cases h2 : 1152921504606846976 < n
      · have h3 : ¬ n ≤ 1152921504606846976 := by omega
        simp only [h1, this, h2, h3, decide_true, decide_false, cond_false, Bool.true_and, Bool.not_false]
      · have h3 : n ≤ 1152921504606846976 := by omega
        simp only [h1, this, h2, h3, decide_true, decide_false, cond_false, Bool.true_and, Bool.not_true]
/-- what Add answers -/
def addV (a b : List Int) : List Int := (a.zip b).map fun p => p.1 + p.2
theorem addV_len {a b : List Int} (h : a.length = b.length) : (addV a b).length = a.length := by simp [addV, h]
theorem m13_eq (a b : List Int) (ha : a.length < big) (hb : b.length < big) : m13_vector_Add a b = some (if a.length = b.length ∧ smallV a = true ∧ smallV b = true then (addV a b, 0) else ([], 60)) := by
  unfold m13_vector_Add
  simp only [jn_eq, m29_eq a (by simp [big] at ha; omega), m29_eq b (by simp [big] at hb; omega), Option.bind_some]
  by_cases h : a.length = b.length
  · have h' : (a.length : Int) = (b.length : Int) := by omega
    rw [m30_eq a b h (by simp [big] at ha; omega)]
    cases s1 : smallV a
    · simp [h, h', s1]
    cases s2 : smallV b
    · simp [h, h', s1, s2]
    simp only [h', ne_eq, not_true_eq_false, decide_false, cond_false, Bool.not_true, Option.bind_some, h, and_self, if_true]
    have main : ∀ (l : List (Int × Int)) (acc : List Int), (∀ p ∈ l, smallN p.1 = true ∧ smallN p.2 = true) → acc.length + l.length < big →
        rng1 m13_vector_Add_B0 (fun v => some (v, (0 : Int))) l acc = some (acc ++ l.map (fun p => p.1 + p.2), 0) := by
      intro l
      induction l with
      | nil => intro acc _ _; simp [rng1_nil]
      | cons p t ih =>
        intro acc hs hl
        rw [rng1_cons]
        obtain ⟨k1, k2⟩ := hs p (by simp)
        have IH := ih (acc ++ [p.1 + p.2]) (fun q hq => hs q (by simp [hq])) (by simp [big] at hl ⊢; omega)
        generalize rng1 m13_vector_Add_B0 (fun v => some (v, (0 : Int))) t = sf at IH ⊢
        unfold m13_vector_Add_B0
        simp only [smallN, Bool.and_eq_true, decide_eq_true_eq] at k1 k2
        have w : IntKind.i64.wrap (p.1 + p.2) = p.1 + p.2 := wrap_i64 (by omega) (by omega)
        simp only [List.length_cons, big] at hl
        rw [w, ck_eq (by simp; omega), IH]
        simp
    refine (main _ [] ?_ (by simp [big] at *; omega)).trans (by simp [addV])
    intro p hp
    obtain ⟨m1, m2⟩ := List.of_mem_zip hp
    exact ⟨List.all_eq_true.1 s1 _ m1, List.all_eq_true.1 s2 _ m2⟩
  · have h' : ¬ (a.length : Int) = (b.length : Int) := by omega
    simp [h', h]
/-- all of the same length as the first -/
def alikeB (l : List (List Int)) : Bool := l.all fun a => decide (a.length = (l.getD 0 default).length)
theorem alike_len {l : List (List Int)} (h : alikeB l = true) : ∃ n, ∀ a ∈ l, a.length = n := ⟨_, fun a ha => by simpa using List.all_eq_true.1 h a ha⟩
theorem m36_eq (l : List (List Int)) (f : Option (List Int → Option Bool)) (g : List Int → Bool) (hf : ∀ x ∈ l, ∀ f', f = some f' → f' x = some (g x)) (hl : l.length < 9223372036854775807) :
    m36_vector_alike l f = some (alikeB l && (!f.isSome || l.all g)) := by
  unfold m36_vector_alike
  rw [m42_eq l _ (fun a => !(decide (a.length = (l.getD 0 default).length) && (!f.isSome || g a))) _ hl]
  · have : (!l.any fun a => !(decide (a.length = (l.getD 0 default).length) && (!f.isSome || g a))) = (alikeB l && (!f.isSome || l.all g)) := by
      unfold alikeB
      rw [List.not_any_eq_all_not]
      have e : (fun a : List Int => !!(decide (a.length = (l.getD 0 default).length) && (!f.isSome || g a))) = fun a => (decide (a.length = (l.getD 0 default).length) && (!f.isSome || g a)) := by funext a; simp
      rw [e]
      cases f.isSome
      · simp
      · generalize (l.getD 0 default).length = n
        clear e hf hl
        simp only [Bool.not_true, Bool.false_or]
        induction l with
        | nil => rfl
        | cons x t ih => simp only [List.all_cons, ih]; cases decide (x.length = n) <;> cases g x <;> cases (t.all fun a => decide (a.length = n)) <;> simp
    rw [Option.bind_some, this]
  · intro a ha
    unfold m49_vector_alike_1
    have h0 : 0 < l.length := List.length_pos_of_mem ha
    rw [ck_eq (by omega)]
    by_cases h : a.length = (l.getD 0 default).length
    · have h' : (a.length : Int) = ((l.getD 0 default).length : Int) := by omega
      cases f with
      | none => simp [h', h]
      | some f' =>
        have := hf a ha f' rfl
        simp only [h', ne_eq, not_true_eq_false, decide_false, cond_false, Option.isSome_some, cond_true, callO, Option.bind_some, this, h, decide_true, Bool.true_and, Bool.not_true, Bool.false_or]
    · have h' : ¬ (a.length : Int) = ((l.getD 0 default).length : Int) := by omega
      simp only [h', ne_eq, not_false_eq_true, decide_true, cond_true, h, decide_false, Bool.false_and, Bool.not_false]
/-- the least ones of a sorted list -/
def stepL (x : List (List Int)) (a : List Int) : List (List Int) := bif x.any (fun b => bel b a) then x else x ++ [a]
def leastL (l : List (List Int)) : List (List Int) := (isortM (fun a b => decide (cmpL a b < 0)) l).foldl stepL []
theorem total (xs : List (List Int)) : TotalOn (fun a b => decide (cmpL a b < 0)) xs :=
  ⟨fun x _ => by have : cmpL x x = 0 := cmpL_zero.2 rfl; simp [this],
   fun x _ y _ h1 h2 => by
    simp only [decide_eq_false_iff_not] at h1 h2
    have := cmpL_anti x y
    exact cmpL_zero.1 (by omega),
   fun x _ y _ z _ h1 h2 => by simp only [decide_eq_true_eq] at *; exact cmpL_lt h1 h2⟩
theorem foldl_len (s x : List (List Int)) : (s.foldl stepL x).length ≤ x.length + s.length := by
  induction s generalizing x with
  | nil => simp
  | cons a t ih =>
    refine Nat.le_trans (ih _) ?_
    unfold stepL; cases x.any (fun b => bel b a) <;> simp <;> omega
theorem m37_eq (l : List (List Int)) (n : Nat) (hn : ∀ a ∈ l, a.length = n) (hl : l.length < big) (hs : n < big) : m37_vector_least l = some (leastL l) := by
  unfold m37_vector_least m50_slices_Cloneint_int_
  simp only [big] at hl hs
  rw [ck_eq (by simp; omega)]
  simp only [Option.bind_some, List.nil_append]
  have hcmp : ∀ a ∈ l, ∀ b, m34_slices_Compareint_int_ a b = some (cmpL a b) := fun a ha b => m34_eq a b (by have := hn a ha; omega)
  have hsort : sortM (fun x15 x16 => m34_slices_Compareint_int_ x15 x16) l = some (isortM (fun a b => decide (cmpL a b < 0)) l) := by
    have hlt : ∀ a ∈ l, ∀ b, ltM (fun x15 x16 => m34_slices_Compareint_int_ x15 x16) a b = decide (cmpL a b < 0) := fun a ha b => by
      show (match m34_slices_Compareint_int_ a b with | some n => decide (n < 0) | none => false) = _
      rw [hcmp a ha b]
    have hok : okSort (fun x15 x16 => m34_slices_Compareint_int_ x15 x16) l = true := by
      refine okSort_iff.2 ⟨⟨fun x hx => by rw [hlt x hx]; exact (total l).irr x hx, fun x hx y hy h1 h2 => by rw [hlt x hx] at h1; rw [hlt y hy] at h2; exact (total l).tot x hx y hy h1 h2,
        fun x hx y hy z hz h1 h2 => by rw [hlt x hx] at h1 ⊢; rw [hlt y hy] at h2; exact (total l).tr x hx y hy z hz h1 h2⟩, fun x hx y hy => ⟨_, hcmp x hx y⟩⟩
    unfold sortM
    rw [hok, cond_true]
    congr 1
    have key : ∀ (t : List (List Int)), (∀ a ∈ t, a ∈ l) → isortM (ltM fun x15 x16 => m34_slices_Compareint_int_ x15 x16) t = isortM (fun a b => decide (cmpL a b < 0)) t := by
      intro t
      induction t with
      | nil => intro _; rfl
      | cons x t ih =>
        intro ht
        show insM _ x (isortM _ t) = insM _ x (isortM _ t)
        rw [ih fun a ha => ht a (by simp [ha])]
        have : ∀ u : List (List Int), insM (ltM fun x15 x16 => m34_slices_Compareint_int_ x15 x16) x u = insM (fun a b => decide (cmpL a b < 0)) x u := by
          intro u
          induction u with
          | nil => rfl
          | cons y u ihu => unfold insM; rw [hlt x (ht x (by simp)), ihu]
        exact this _
    exact key l fun _ h => h
  rw [hsort]
  have hp := isortM_perm (fun a b => decide (cmpL a b < 0)) l
  have hsl : (isortM (fun a b => decide (cmpL a b < 0)) l).length = l.length := hp.length_eq
  simp only [Option.bind_some]
  rw [ck_eq (by omega)]
  unfold leastL
  have hmem : ∀ a ∈ isortM (fun a b => decide (cmpL a b < 0)) l, a.length = n := fun a ha => hn a (hp.mem_iff.1 ha)
  generalize isortM (fun a b => decide (cmpL a b < 0)) l = S at *
  refine up_listB (σ := List (List Int)) (fun i x => x.length ≤ i ∧ ∀ b ∈ x, b.length = n) (fun _ t x => some (t.foldl stepL x)) S (by omega) ?_ ?_ (by simp) ⟨by simp, by simp⟩
  · intro sf x _; unfold m37_vector_least_B0; simp
  · intro sf i x a t h1 h2 h3 ⟨hx, hxn⟩ ih
    obtain ⟨_, rfl⟩ := List.getElem?_eq_some_iff.1 h2
    unfold m37_vector_least_B0
    have c1 : (i : Int) < (S.length : Int) := by omega
    have g1 : S.getD (i : Int).toNat default = S[i] := by simp [h1]
    have han := hmem S[i] (List.getElem_mem _)
    simp only [c1, decide_true, cond_true, g1, h3]
    rw [ck_eq (by simp), m42_eq x _ (fun b => bel b S[i]) _ (by omega)]
    · simp only [Option.bind_some, List.foldl_cons]
      cases hany : x.any (fun b => bel b S[i])
      · simp only [Bool.not_false, cond_true]
        rw [ck_eq (by simp; omega), ih _ ⟨by simp; omega, fun b hb => by
          simp at hb; rcases hb with hb | hb
          · exact hxn b hb
          · rw [hb]; exact han⟩]
        simp [stepL, hany]
      · simp only [Bool.not_true, cond_false]
        rw [ih _ ⟨by omega, hxn⟩]
        simp [stepL, hany]
    · intro b hb
      unfold m52_vector_least_1
      rw [m32_eq b S[i] (by rw [hxn b hb, han]) (by have := hxn b hb; omega)]; rfl
theorem m21_eq (l : List (List Int)) (hl : l.length ≤ 4096) (hs : ∀ a ∈ l, a.length < big) : m21_vector_Least l = some (bif alikeB l then (leastL l, 0) else ([], 60)) := by
  unfold m21_vector_Least
  rw [m36_eq l none (fun _ => true) (by intro _ _ _ h; cases h) (by omega)]
  cases h : alikeB l
  · simp
  · obtain ⟨n, hn⟩ := alike_len h
    have h2 : ¬ (4096 : Int) < (l.length : Int) := by omega
    have hn' : ∃ n, (∀ a ∈ l, a.length = n) ∧ n < big := by
      cases l with
      | nil => exact ⟨0, by simp, by decide⟩
      | cons b t => exact ⟨n, hn, by have := hs b (by simp); rw [hn b (by simp)] at this; exact this⟩
    obtain ⟨n, hn, hb⟩ := hn'
    rw [m37_eq l n hn (by simp [big]; omega) hb]
    simp [h2]
/-! what the least ones are -/
structure IsLeast (l r : List (List Int)) : Prop where
  sub : ∀ a ∈ r, a ∈ l
  cov : ∀ a ∈ l, ∃ y ∈ r, bel y a = true
  up : r.Pairwise fun a b => cmpL a b < 0
  anti : ∀ y ∈ r, ∀ z ∈ r, bel y z = true → y = z
theorem leastL_is {l : List (List Int)} {n : Nat} (hn : ∀ a ∈ l, a.length = n) : IsLeast l (leastL l) := by
  have T := total l
  have hp := isortM_perm (fun a b => decide (cmpL a b < 0)) l
  have hs := isortM_sorted T l fun _ h => h
  unfold leastL
  have hmem : ∀ a ∈ isortM (fun a b => decide (cmpL a b < 0)) l, a.length = n := fun a ha => hn a (hp.mem_iff.1 ha)
  have key : ∀ (s p x : List (List Int)), (∀ a ∈ p, a.length = n) → (∀ a ∈ s, a.length = n) → s.Pairwise (fun a b => decide (cmpL b a < 0) = false) → (∀ a ∈ p, ∀ b ∈ s, decide (cmpL b a < 0) = false) → IsLeast p x → IsLeast (p ++ s) (s.foldl stepL x) := by
    intro s
    induction s with
    | nil => intro p x _ _ _ _ h; simpa using h
    | cons a t ih =>
      intro p x hpn hsn hso hps h
      rw [List.append_cons]
      have hso' := List.pairwise_cons.1 hso
      have han := hsn a (by simp)
      refine ih (p ++ [a]) (stepL x a) (fun b hb => ?_) (fun b hb => hsn b (by simp [hb])) hso'.2 (fun b hb c hc => ?_) ?_
      · simp at hb; rcases hb with hb | hb
        · exact hpn b hb
        · subst hb; exact han
      · simp at hb; rcases hb with hb | hb
        · exact hps b hb c (by simp [hc])
        · subst hb; exact hso'.1 c hc
      · unfold stepL
        cases hany : x.any (fun b => bel b a)
        · simp only [cond_false]
          have hno : ∀ b ∈ x, bel b a = false := fun b hb => by
            have := List.any_eq_false.1 hany b hb; simpa using this
          have hle : ∀ b ∈ x, cmpL b a < 0 := fun b hb => by
            have h1 := hps b (h.sub b hb) a (by simp)
            simp only [decide_eq_false_iff_not] at h1
            have h2 := cmpL_anti a b
            have h3 : cmpL b a ≠ 0 := fun e => by
              have := cmpL_zero.1 e; subst this
              have := hno b hb; rw [bel_refl] at this; cases this
            omega
          refine ⟨fun b hb => ?_, fun b hb => ?_, ?_, fun y hy z hz hyz => ?_⟩
          · simp at hb ⊢; rcases hb with hb | hb
            · exact .inl (h.sub b hb)
            · exact .inr hb
          · simp at hb; rcases hb with hb | hb
            · obtain ⟨y, hy, hb'⟩ := h.cov b hb; exact ⟨y, by simp [hy], hb'⟩
            · subst hb; exact ⟨b, by simp, bel_refl b⟩
          · rw [List.pairwise_append]
            exact ⟨h.up, by simp, fun b hb c hc => by simp at hc; subst hc; exact hle b hb⟩
          · simp at hy hz
            rcases hy with hy | hy <;> rcases hz with hz | hz
            · exact h.anti y hy z hz hyz
            · subst hz; rw [hno y hy] at hyz; cases hyz
            · subst hy
              have h1 := bel_cmp (by rw [han, hpn z (h.sub z hz)]) hyz
              have h2 := hle z hz
              have h3 := cmpL_anti y z
              omega
            · rw [hy, hz]
        · simp only [cond_true]
          obtain ⟨y, hy, hya⟩ := List.any_eq_true.1 hany
          refine ⟨fun b hb => by simp [h.sub b hb], fun b hb => ?_, h.up, h.anti⟩
          simp at hb; rcases hb with hb | hb
          · exact h.cov b hb
          · subst hb; exact ⟨y, hy, hya⟩
  have := key _ [] [] (by simp) hmem hs (by simp) ⟨by simp, by simp, by simp, by simp⟩
  simp only [List.nil_append] at this
  exact ⟨fun a ha => hp.mem_iff.1 (this.sub a ha), fun a ha => this.cov a (hp.mem_iff.2 ha), this.up, this.anti⟩
theorem bel_antisymm {a b : List Int} (hl : a.length = b.length) (h1 : bel a b = true) (h2 : bel b a = true) : a = b := by
  have k1 := bel_cmp hl h1
  have k2 := bel_cmp hl.symm h2
  have k3 := cmpL_anti a b
  exact cmpL_zero.1 (by omega)
theorem IsLeast.mem {l r : List (List Int)} (h : IsLeast l r) {n : Nat} (hn : ∀ a ∈ l, a.length = n) (a : List Int) : a ∈ r ↔ a ∈ l ∧ ∀ b ∈ l, bel b a = true → b = a := by
  constructor
  · intro ha
    refine ⟨h.sub a ha, fun b hb hba => ?_⟩
    obtain ⟨y, hy, hyb⟩ := h.cov b hb
    have hya := bel_trans (by rw [hn y (h.sub y hy), hn b hb]) (by rw [hn b hb, hn a (h.sub a ha)]) hyb hba
    have := h.anti y hy a ha hya
    subst this
    exact bel_antisymm (by rw [hn b hb, hn y (h.sub y hy)]) hba hyb
  · rintro ⟨ha, hm⟩
    obtain ⟨y, hy, hya⟩ := h.cov a ha
    have := hm y (h.sub y hy) hya
    subst this; exact hy
theorem up_unique {r s : List (List Int)} (h1 : r.Pairwise fun a b => cmpL a b < 0) (h2 : s.Pairwise fun a b => cmpL a b < 0) (h : ∀ a, a ∈ r ↔ a ∈ s) : r = s := by
  have nd : ∀ {t : List (List Int)}, t.Pairwise (fun a b => cmpL a b < 0) → t.Nodup := fun ht => ht.imp (fun {a b} hab e => by subst e; have : cmpL a a = 0 := cmpL_zero.2 rfl; omega)
  refine List.Perm.eq_of_pairwise (le := fun a b => cmpL a b < 0) ?_ h1 h2 ((List.perm_ext_iff_of_nodup (nd h1) (nd h2)).2 h)
  intro a b _ _ k1 k2
  have := cmpL_anti a b; omega
theorem leastL_len (l : List (List Int)) : (leastL l).length ≤ l.length := by
  unfold leastL
  refine Nat.le_trans (foldl_len _ _) ?_
  rw [(isortM_perm _ l).length_eq]; simp
theorem m25_eq (l : List (List Int)) (c : List Int) (hl : l.length < 9223372036854775807) (hs : ∀ a ∈ l, a.length < 9223372036854775807) :
    m25_vector_Fits l c = some (bif l.all (fun a => decide (a.length = c.length)) then (l.any (fun a => bel a c), 0) else (false, 60)) := by
  unfold m25_vector_Fits
  rw [m42_eq l _ (fun a => !decide (a.length = c.length)) _ hl]
  · simp only [Option.bind_some]
    cases h : l.all (fun a => decide (a.length = c.length))
    · have : l.any (fun a => !decide (a.length = c.length)) = true := by rw [← Bool.not_eq_false', List.not_any_eq_all_not]; simpa using h
      simp [this]
    · have : l.any (fun a => !decide (a.length = c.length)) = false := by rw [← Bool.not_eq_true', List.not_any_eq_all_not]; simpa using h
      rw [this, cond_false, cond_true, m42_eq l _ (fun a => bel a c) _ hl]
      · rfl
      · intro a ha
        have := List.all_eq_true.1 h a ha
        simp only [decide_eq_true_eq] at this
        unfold m44_vector_Fits_2; rw [m32_eq a c this (hs a ha)]; rfl
  · intro a _
    unfold m43_vector_Fits_1
    have : ((a.length : Int) = (c.length : Int)) = (a.length = c.length) := by apply propext; omega
    simp [this]
end Go.Fx



/- Chapter 06: the reference's way to the least vectors, no program in sight. -/
set_option linter.unusedSimpArgs false
set_option linter.unusedVariables false
namespace Go.Fx
open Go Go.RowKit
/-- a vector put into a list in order, unless it is there -/
def insL : List (List Int) → List Int → List (List Int)
  | [], a => [a]
  | x :: t, a => if cmpL x a < 0 then x :: insL t a else if cmpL x a = 0 then x :: t else a :: x :: t
theorem mem_insL {l : List (List Int)} {a b : List Int} : b ∈ insL l a ↔ b ∈ l ∨ b = a := by
  induction l with
  | nil => simp [insL]
  | cons x t ih =>
    unfold insL
    by_cases h1 : cmpL x a < 0
    · rw [if_pos h1, List.mem_cons, ih, List.mem_cons, or_assoc]
    · rw [if_neg h1]
      by_cases h2 : cmpL x a = 0
      · rw [if_pos h2]
        have := cmpL_zero.1 h2; subst this
        simp only [List.mem_cons]
        constructor
        · exact .inl
        · rintro (h | h)
          · exact h
          · exact .inl h
      · rw [if_neg h2]
        simp only [List.mem_cons]
        constructor
        · rintro (h | h)
          · exact .inr h
          · exact .inl h
        · rintro (h | h)
          · exact .inr h
          · exact .inl h
theorem insL_up {l : List (List Int)} {a : List Int} (h : l.Pairwise fun a b => cmpL a b < 0) : (insL l a).Pairwise fun a b => cmpL a b < 0 := by
  induction l with
  | nil => simp [insL]
  | cons x t ih =>
    obtain ⟨p1, p2⟩ := List.pairwise_cons.1 h
    unfold insL
    by_cases h1 : cmpL x a < 0
    · rw [if_pos h1]
      refine List.pairwise_cons.2 ⟨fun b hb => ?_, ih p2⟩
      rcases mem_insL.1 hb with hb | rfl
      · exact p1 b hb
      · exact h1
    · rw [if_neg h1]
      by_cases h2 : cmpL x a = 0
      · rw [if_pos h2]; exact h
      · rw [if_neg h2]
        have h3 : cmpL a x < 0 := by have := cmpL_anti x a; omega
        refine List.pairwise_cons.2 ⟨fun b hb => ?_, h⟩
        rcases List.mem_cons.1 hb with rfl | hb
        · exact h3
        · exact cmpL_lt h3 (p1 b hb)
theorem insL_len (l : List (List Int)) (a : List Int) : (insL l a).length ≤ l.length + 1 := by
  induction l with
  | nil => simp [insL]
  | cons x t ih =>
    unfold insL
    split
    · simp; exact ih
    · split <;> simp
/-- where it comes to lie -/
def posL (a : List Int) : List (List Int) → Nat
  | [] => 0
  | x :: t => if cmpL x a < 0 then posL a t + 1 else 0
theorem posL_le (a : List Int) (l : List (List Int)) : posL a l ≤ l.length := by
  induction l with
  | nil => simp [posL]
  | cons x t ih => unfold posL; split <;> simp <;> omega
/-- the list with a put in at k -/
def putL (l : List (List Int)) (a : List Int) (k : Nat) : List (List Int) :=
  bif decide (k < l.length) && decide (cmpL (l.getD k default) a = 0) then l else l.take k ++ [a] ++ l.drop k
theorem insL_put (l : List (List Int)) (a : List Int) : insL l a = putL l a (posL a l) := by
  induction l with
  | nil => rfl
  | cons x t ih =>
    unfold insL posL
    by_cases h1 : cmpL x a < 0
    · rw [if_pos h1, if_pos h1, ih]
      unfold putL
      simp only [List.length_cons, List.getD_cons_succ, Nat.add_lt_add_iff_right, List.take_succ_cons, List.drop_succ_cons, List.cons_append]
      cases (decide (posL a t < t.length) && decide (cmpL (t.getD (posL a t) default) a = 0)) <;> rfl
    · rw [if_neg h1, if_neg h1]
      unfold putL
      by_cases h2 : cmpL x a = 0
      · rw [if_pos h2]; simp [h2]
      · rw [if_neg h2]; simp [h2]
/-- least in a list -/
def isL (l : List (List Int)) (a : List Int) : Bool := l.all fun b => !(!decide (cmpL b a = 0) && bel b a)
theorem isL_iff {l : List (List Int)} {a : List Int} : isL l a = true ↔ ∀ b ∈ l, bel b a = true → b = a := by
  unfold isL
  rw [List.all_eq_true]
  refine forall_congr' fun b => forall_congr' fun hb => ?_
  by_cases h : cmpL b a = 0
  · have := cmpL_zero.1 h; subst this; simp [h]
  · have h' : b ≠ a := fun e => h (cmpL_zero.2 e)
    simp [h, h']
def goL (l : List (List Int)) (out : List (List Int)) (a : List Int) : List (List Int) := bif isL l a then insL out a else out
def leastR (l : List (List Int)) : List (List Int) := l.foldl (goL l) []
theorem goL_all (l : List (List Int)) : ∀ (m out : List (List Int)), (out.Pairwise fun a b => cmpL a b < 0) → ((m.foldl (goL l) out).Pairwise fun a b => cmpL a b < 0) ∧ ∀ b, b ∈ m.foldl (goL l) out ↔ b ∈ out ∨ (b ∈ m ∧ isL l b = true)
  | [], out, h => ⟨h, fun b => by simp⟩
  | a :: m, out, h => by
    rw [List.foldl_cons]
    cases hi : isL l a
    · have e : goL l out a = out := by unfold goL; rw [hi]; rfl
      obtain ⟨h1, h2⟩ := goL_all l m out h
      rw [e]
      refine ⟨h1, fun b => ?_⟩
      rw [h2, List.mem_cons]
      constructor
      · rintro (h | h)
        · exact .inl h
        · exact .inr ⟨.inr h.1, h.2⟩
      · rintro (h | ⟨rfl | h, h'⟩)
        · exact .inl h
        · rw [hi] at h'; cases h'
        · exact .inr ⟨h, h'⟩
    · have e : goL l out a = insL out a := by unfold goL; rw [hi]; rfl
      obtain ⟨h1, h2⟩ := goL_all l m (insL out a) (insL_up h)
      rw [e]
      refine ⟨h1, fun b => ?_⟩
      rw [h2, mem_insL, List.mem_cons]
      constructor
      · rintro ((h | rfl) | h)
        · exact .inl h
        · exact .inr ⟨.inl rfl, hi⟩
        · exact .inr ⟨.inr h.1, h.2⟩
      · rintro (h | ⟨rfl | h, h'⟩)
        · exact .inl (.inl h)
        · exact .inl (.inr rfl)
        · exact .inr ⟨h, h'⟩
theorem leastR_eq {l : List (List Int)} {n : Nat} (hn : ∀ a ∈ l, a.length = n) : leastR l = leastL l := by
  obtain ⟨h1, h2⟩ := goL_all l l [] List.Pairwise.nil
  have hi := leastL_is hn
  refine up_unique h1 hi.up fun a => ?_
  rw [show (a ∈ leastR l ↔ _) from h2 a, hi.mem hn, isL_iff]
  simp
end Go.Fx



set_option linter.unusedVariables false
set_option linter.unusedSimpArgs false
set_option maxRecDepth 100000
set_option maxHeartbeats 0
namespace Go.Fx
open Go Go.RowKit Go.Proofs
end Go.Fx



set_option linter.unusedVariables false
set_option linter.unusedSimpArgs false
set_option maxRecDepth 100000
set_option maxHeartbeats 0
namespace Go.Fx
open Go Go.RowKit Go.Proofs
end Go.Fx



set_option linter.unusedVariables false
set_option linter.unusedSimpArgs false
set_option maxRecDepth 100000
set_option maxHeartbeats 0
namespace Go.Fx
open Go Go.RowKit Go.Proofs
end Go.Fx



/- VectorOrderSpec: the plain law. -/
set_option linter.unusedSimpArgs false
set_option linter.unusedVariables false
namespace Go.Fx
open Go Go.RowKit
theorem m31_eq (a : List Int) (ha : a.length < 9223372036854775807) : m31_overflightref06_Small a = some (smallV a) := by
  unfold m31_overflightref06_Small
  refine up_list0 (fun t => some (smallV t)) a ha ?_ ?_ (show a.length < ((a.length : Int) - 0).toNat + 1 by omega)
  · intro sf; unfold m31_overflightref06_Small_B0; simp [smallV]
  · intro sf i x t h1 h2 h3 ih
    obtain ⟨_, rfl⟩ := List.getElem?_eq_some_iff.1 h2
    unfold m31_overflightref06_Small_B0
    have c1 : (i : Int) < (a.length : Int) := by omega
    have g1 : a.getD (i : Int).toNat default = a[i] := by simp [h1]
    simp only [c1, decide_true, cond_true, g1, h3, jn_eq]
    rw [ck_eq (by simp), ck_eq (by simp), ih]
    have e : smallV (a[i] :: t) = (smallN a[i] && smallV t) := rfl
    rw [e]
    unfold smallN
    by_cases k1 : a[i] < -1152921504606846976
    · have : ¬ -1152921504606846976 ≤ a[i] := by omega
      simp only [k1, this, decide_true, decide_false, cond_true, Bool.false_and]
    · have : -1152921504606846976 ≤ a[i] := by omega
      by_cases k2 : 1152921504606846976 < a[i]
      · have k3 : ¬ a[i] ≤ 1152921504606846976 := by omega
        simp only [k1, this, k2, k3, decide_true, decide_false, cond_true, cond_false, Bool.true_and, Bool.false_and]
      · have k3 : a[i] ≤ 1152921504606846976 := by omega
        simp only [k1, this, k2, k3, decide_true, decide_false, cond_false, Bool.true_and]
theorem m14_eq (a b : List Int) (ha : a.length < big) (hb : b.length < big) : m14_overflightref06_Add a b = some (if a.length = b.length ∧ smallV a = true ∧ smallV b = true then (addV a b, 0) else ([], 60)) := by
  unfold m14_overflightref06_Add
  simp only [big] at ha hb
  simp only [jn_eq, m31_eq a (by omega), m31_eq b (by omega), Option.bind_some]
  by_cases h : a.length = b.length
  · have h' : (a.length : Int) = (b.length : Int) := by omega
    cases s1 : smallV a
    · simp [h, h', s1]
    cases s2 : smallV b
    · simp [h, h', s1, s2]
    simp only [h', ne_eq, not_true_eq_false, decide_false, cond_false, Bool.not_true, h, and_self, if_true]
    rw [← h']
    refine (up_listB (B := m14_overflightref06_Add_B0 a b) (σ := List Int) (fun i c => c.length = i) (fun i t c => some (c ++ addV t (b.drop i), (0 : Int))) a (by omega) ?_ ?_ (show a.length < ((a.length : Int) - 0).toNat + 1 by omega) rfl).trans (by simp)
    · intro sf c _; unfold m14_overflightref06_Add_B0; simp [addV]
    · intro sf i c x t h1 h2 h3 hc ih
      obtain ⟨_, rfl⟩ := List.getElem?_eq_some_iff.1 h2
      unfold m14_overflightref06_Add_B0
      have c1 : (i : Int) < (a.length : Int) := by omega
      have hbi : i < b.length := by omega
      have g1 : a.getD (i : Int).toNat default = a[i] := by simp [h1]
      have g2 : b.getD (i : Int).toNat default = b[i] := by simp [hbi]
      have hd : b.drop i = b[i] :: b.drop (i + 1) := List.drop_eq_getElem_cons hbi
      have k1 := List.all_eq_true.1 s1 a[i] (List.getElem_mem _)
      have k2 := List.all_eq_true.1 s2 b[i] (List.getElem_mem _)
      simp only [smallN, Bool.and_eq_true, decide_eq_true_eq] at k1 k2
      have w : IntKind.i64.wrap (a[i] + b[i]) = a[i] + b[i] := wrap_i64 (by omega) (by omega)
      simp only [c1, decide_true, cond_true, g1, g2, h3, w]
      rw [ck_eq (by simp), ck_eq (by omega), ck_eq (by simp; omega), ih _ (by simp [hc])]
      have e : addV (a[i] :: t) (b.drop i) = (a[i] + b[i]) :: addV t (b.drop (i + 1)) := by rw [hd]; rfl
      rw [e, List.append_assoc]; rfl
  · have h' : ¬ (a.length : Int) = (b.length : Int) := by omega
    simp [h', h]
theorem m33_eq (a b : List Int) (h : a.length = b.length) (ha : a.length < 9223372036854775807) : m33_overflightref06_IsBelow a b = some (bel a b) := by
  unfold m33_overflightref06_IsBelow
  have := up_listI (B := m33_overflightref06_IsBelow_B0 a b) (fun i t => some (bel t (b.drop i))) a ha ?_ ?_ (fuel := ((a.length : Int) - 0).toNat + 1) (by omega)
  · simpa using this
  · intro sf; unfold m33_overflightref06_IsBelow_B0; simp [bel]
  · intro sf i x t h1 h2 h3 ih
    obtain ⟨_, rfl⟩ := List.getElem?_eq_some_iff.1 h2
    unfold m33_overflightref06_IsBelow_B0
    have c1 : (i : Int) < (a.length : Int) := by omega
    have hb : i < b.length := by omega
    have g1 : a.getD (i : Int).toNat default = a[i] := by simp [h1]
    have g2 : b.getD (i : Int).toNat default = b[i] := by simp [hb]
    have hd : b.drop i = b[i] :: b.drop (i + 1) := List.drop_eq_getElem_cons hb
    simp only [c1, decide_true, cond_true, g1, g2, h3, hd, bel]
    rw [ck_eq (by simp), ck_eq (by omega)]
    by_cases k : b[i] < a[i]
    · have : ¬ a[i] ≤ b[i] := by omega
      simp [k, this]
    · have : a[i] ≤ b[i] := by omega
      simp only [k, this, decide_false, decide_true, cond_false, Bool.true_and]; exact ih
end Go.Fx



set_option linter.unusedVariables false
set_option linter.unusedSimpArgs false
set_option maxRecDepth 100000
set_option maxHeartbeats 0
namespace Go.Fx
open Go Go.RowKit Go.Proofs
end Go.Fx



/- VectorFits: the plain law. -/
set_option linter.unusedSimpArgs false
set_option linter.unusedVariables false
namespace Go.Fx
open Go Go.RowKit
end Go.Fx



set_option linter.unusedVariables false
set_option linter.unusedSimpArgs false
set_option maxRecDepth 100000
set_option maxHeartbeats 0
namespace Go.Fx
open Go Go.RowKit Go.Proofs
end Go.Fx



/- VectorSums: the plain law. -/
set_option linter.unusedSimpArgs false
set_option linter.unusedVariables false
namespace Go.Fx
open Go Go.RowKit
theorem m55_eq (n : Nat) (h : n < big) : m55_slices_Growint_int_ (n : Int) = some [] := by
  unfold m55_slices_Growint_int_
  simp only [big] at h
  have e1 : IntKind.i64.wrap (0 - 0) = 0 := by decide
  have e2 : IntKind.i64.wrap ((n : Int) - 0) = n := (wrap_i64 (by omega) (by omega)).trans (by omega)
  have e3 : ¬ (n : Int) < 0 := by omega
  rw [e1, e2]
  simp only [e3, decide_false, cond_false]
  by_cases h0 : 0 < (n : Int)
  · simp only [h0, decide_true, cond_true]
    rw [ck_eq trivial, ck_eq (by omega)]
  · simp only [h0, decide_false, cond_false]
theorem m40_eq (a b : List (List Int)) (ha : a.length < 400000) (hb : b.length < 400000) : m40_slices_Concatint_int_ [a, b] = some (a ++ b) := by
  have w1 : IntKind.i64.wrap (0 + (a.length : Int)) = (a.length : Int) := (wrap_i64 (by omega) (by omega)).trans (by omega)
  have w2 : IntKind.i64.wrap ((a.length : Int) + (b.length : Int)) = ((a.length + b.length : Nat) : Int) := (wrap_i64 (by omega) (by omega)).trans (by omega)
  have s1 : IntKind.i64.wrap (0 + 1) = 1 := by decide
  have s2 : IntKind.i64.wrap (1 + 1) = 2 := by decide
  have n1 : ¬ (a.length : Int) < 0 := by omega
  have n2 : ¬ ((a.length + b.length : Nat) : Int) < 0 := by omega
  have L : loop2 (m40_slices_Concatint_int__B1 [a, b]) ((([a, b].length : Int) - 0).toNat + 1) [] 0 = some (a ++ b) := by
    show loop2 _ 3 [] 0 = _
    rw [loop2_succ]; unfold m40_slices_Concatint_int__B1
    rw [loop2_succ]
    rw [loop2_succ]
    simp only [s1, s2]
    simp
    rw [ck_eq (by omega), ck_eq (by omega)]
  unfold m40_slices_Concatint_int_
  show loop2 _ 3 0 0 = _
  rw [loop2_succ]; unfold m40_slices_Concatint_int__B0
  rw [loop2_succ]
  rw [loop2_succ]
  simp only [s1, s2]
  have e0 : ([a, b] : List (List (List Int))).getD (0 : Int).toNat default = a := rfl
  have e1 : ([a, b] : List (List (List Int))).getD (1 : Int).toNat default = b := rfl
  have c0 : decide ((0 : Int) < (([a, b] : List (List (List Int))).length : Int)) = true := rfl
  have c1 : decide ((1 : Int) < (([a, b] : List (List (List Int))).length : Int)) = true := rfl
  have c2 : decide ((2 : Int) < (([a, b] : List (List (List Int))).length : Int)) = false := rfl
  simp only [e0, e1, w1, w2, n1, n2, c0, c1, c2, decide_false, cond_false, cond_true]
  rw [ck_eq (by simp), ck_eq (by simp), m55_eq _ (by simp only [big]; omega)]
  exact L
/-- all sums -/
def sumsL (a b : List (List Int)) : List (List Int) := a.flatMap fun u => b.map fun v => addV u v
theorem m23_eq (a b : List (List Int)) (n : Nat) (ha : a.length ≤ 30) (hb : b.length ≤ 30) (hna : ∀ u ∈ a, u.length = n) (hnb : ∀ u ∈ b, u.length = n) (hn : n ≤ 20) (sa : ∀ u ∈ a, smallV u = true) (sb : ∀ u ∈ b, smallV u = true)
    (alike : m36_vector_alike (a ++ b) (some fun x => m29_vector_small x) = some true) : m23_vector_Sums a b = some (leastL (sumsL a b), 0) := by
  unfold m23_vector_Sums
  rw [m40_eq a b (by omega) (by omega)]
  simp only [Option.bind_some]
  rw [alike]
  have c1 : ¬ (4096 : Int) < (a.length : Int) := by omega
  have c2 : ¬ (4096 : Int) < (b.length : Int) := by omega
  have hm : a.length * b.length ≤ 30 * 30 := Nat.mul_le_mul ha hb
  have w : IntKind.i64.wrap ((a.length : Int) * (b.length : Int)) = ((a.length * b.length : Nat) : Int) := by
    rw [← Int.natCast_mul]; exact wrap_i64 (by omega) (by omega)
  have c3 : ¬ (1048576 : Int) < ((a.length * b.length : Nat) : Int) := by omega
  simp only [Option.bind_some, Bool.not_true, cond_false, jn_eq, c1, c2, c3, w, decide_false]
  have hX : ∀ x ∈ sumsL a b, x.length = n := fun x hx => by
    simp only [sumsL, List.mem_flatMap, List.mem_map] at hx
    obtain ⟨u, hu, v, hv, rfl⟩ := hx
    rw [addV_len (by rw [hna u hu, hnb v hv]), hna u hu]
  have hXl : (sumsL a b).length = a.length * b.length := by
    simp [sumsL, List.length_flatMap, List.map_const']
  -- the inner loop
  have inner : ∀ (u : List Int) (hu : u ∈ a) (i : Nat) (sf : (List (List Int)) → Int → Option ((List (List Int)) × Int)) (v : Int), v = (i : Int) → a.getD i default = u → ∀ x : List (List Int), x.length ≤ 900 →
      loop2 (m23_vector_Sums_B1 a b v sf) (((b.length : Int) - 0).toNat + 1) x 0 = sf (x ++ b.map fun w => addV u w) (IntKind.wrap .i64 (v + 1)) := by
    intro u hu i sf v hv hgu x hx
    refine (up_listB (σ := List (List Int)) (fun j y => y.length = x.length + j) (fun j t y => sf (y ++ t.map fun w => addV u w) (IntKind.wrap .i64 (v + 1))) b (by omega) ?_ ?_ (show b.length < ((b.length : Int) - 0).toNat + 1 by omega) (by simp))
    · intro sf' y _; unfold m23_vector_Sums_B1; simp
    · intro sf' j y w t h1 h2 h3 hy ih
      obtain ⟨_, rfl⟩ := List.getElem?_eq_some_iff.1 h2
      unfold m23_vector_Sums_B1
      have c1 : (j : Int) < (b.length : Int) := by omega
      have g1 : b.getD (j : Int).toNat default = b[j] := by simp [h1]
      have hbm : b[j] ∈ b := List.getElem_mem _
      have hgu' : a.getD v.toNat default = u := by rw [hv, Int.toNat_natCast]; exact hgu
      simp only [c1, decide_true, cond_true, g1, h3, hgu']
      rw [ck_eq (by simp), m13_eq u b[j] (by have := hna u hu; simp [big]; omega) (by have := hnb _ hbm; simp [big]; omega), if_pos ⟨by rw [hna u hu, hnb _ hbm], sa u hu, sb _ hbm⟩]
      simp only [Option.bind_some]
      rw [ck_eq (by simp; omega), ih _ (by simp; omega)]
      simp
  refine (up_listB (σ := List (List Int)) (fun i x => x.length = i * b.length ∧ ∀ e ∈ x, e.length = n) (fun i t x => some (leastL (x ++ sumsL t b), (0 : Int))) a (by omega) ?_ ?_ (show a.length < ((a.length : Int) - 0).toNat + 1 by omega) ⟨by simp, by simp⟩).trans (by simp)
  · rintro sf x ⟨hx, hxn⟩
    unfold m23_vector_Sums_B0
    have hl := leastL_len x
    have c4 : ¬ (4096 : Int) < ((leastL x).length : Int) := by omega
    simp only [Int.lt_irrefl, decide_false, cond_false]
    rw [m37_eq x n hxn (by simp only [big]; omega) (by simp only [big]; omega)]
    simp [c4, sumsL]
  · rintro sf i x u t h1 h2 h3 ⟨hx, hxn⟩ ih
    obtain ⟨_, rfl⟩ := List.getElem?_eq_some_iff.1 h2
    have hu : a[i] ∈ a := List.getElem_mem _
    have hi30 : i * b.length ≤ 29 * 30 := Nat.mul_le_mul (by omega) hb
    unfold m23_vector_Sums_B0
    have c4 : (i : Int) < (a.length : Int) := by omega
    simp only [c4, decide_true, cond_true]
    rw [ck_eq (by simp), inner a[i] hu i sf i rfl (by simp [h1]) x (by omega), h3, ih _ ⟨by simp [hx, Nat.add_mul], fun e he => ?_⟩]
    · simp [sumsL]
    · simp only [List.mem_append, List.mem_map] at he
      rcases he with he | ⟨v, hv, rfl⟩
      · exact hxn e he
      · rw [addV_len (by rw [hna _ hu, hnb v hv]), hna _ hu]
end Go.Fx



set_option linter.unusedVariables false
set_option linter.unusedSimpArgs false
set_option maxRecDepth 100000
set_option maxHeartbeats 0
namespace Go.Fx
open Go Go.RowKit Go.Proofs
end Go.Fx



/- VectorAgain: the plain law. -/
set_option linter.unusedSimpArgs false
set_option linter.unusedVariables false
namespace Go.Fx
open Go Go.RowKit
theorem m27_refl (r : List (List Int)) (hl : r.length < 9223372036854775807) (hs : ∀ a ∈ r, a.length < 9223372036854775807) : m27_overflightref06_SameList r r = some true := by
  unfold m27_overflightref06_SameList
  have : loop1 (m27_overflightref06_SameList_B0 r r) (((r.length : Int) - 0).toNat + 1) 0 = some true := by
    refine up_list0 (fun t => some true) r hl ?_ ?_ (show r.length < ((r.length : Int) - 0).toNat + 1 by omega)
    · intro sf; unfold m27_overflightref06_SameList_B0; simp
    · intro sf i x t h1 h2 h3 ih
      obtain ⟨_, rfl⟩ := List.getElem?_eq_some_iff.1 h2
      unfold m27_overflightref06_SameList_B0
      have c1 : (i : Int) < (r.length : Int) := by omega
      have g1 : r.getD (i : Int).toNat default = r[i] := by simp [h1]
      simp only [c1, decide_true, cond_true, g1, h3]
      rw [ck_eq (by simp), ck_eq (by simp), m19_eq _ _ (hs _ (List.getElem_mem _))]
      simp [ih]
  simp only [ne_eq, not_true_eq_false, decide_false, cond_false]; exact this
end Go.Fx



/- VectorLeastSpec: the plain law. -/
set_option linter.unusedSimpArgs false
set_option linter.unusedVariables false
namespace Go.Fx
open Go Go.RowKit
theorem m38_eq (l : List (List Int)) (n : Nat) (hl : l.length < 9223372036854775807) : m38_overflightref06_alike l (n : Int) = some (l.all fun a => decide (a.length = n)) := by
  unfold m38_overflightref06_alike
  refine up_list0 (fun t => some (t.all fun a => decide (a.length = n))) l hl ?_ ?_ (show l.length < ((l.length : Int) - 0).toNat + 1 by omega)
  · intro sf; unfold m38_overflightref06_alike_B0; rw [decide_eq_false (by omega)]; rfl
  · intro sf i x t h1 h2 h3 ih
    unfold m38_overflightref06_alike_B0
    have g1 : l.getD (i : Int).toNat default = x := getD_of h2
    rw [decide_eq_true (show (i : Int) < l.length by omega), cond_true, ck_eq (by omega), g1, h3, ih, List.all_cons]
    by_cases c : x.length = n
    · rw [decide_eq_false (show ¬ ((x.length : Int) ≠ n) by omega), decide_eq_true c]; rfl
    · rw [decide_eq_true (show (x.length : Int) ≠ n by omega), decide_eq_false c]; rfl
theorem m41_eq (l : List (List Int)) (hl : l.length < 9223372036854775807) (hs : ∀ a ∈ l, a.length < 9223372036854775807) : m41_overflightref06_small l = some (l.all smallV) := by
  unfold m41_overflightref06_small
  refine up_list0 (fun t => some (t.all smallV)) l hl ?_ ?_ (show l.length < ((l.length : Int) - 0).toNat + 1 by omega)
  · intro sf; unfold m41_overflightref06_small_B0; rw [decide_eq_false (by omega)]; rfl
  · intro sf i x t h1 h2 h3 ih
    unfold m41_overflightref06_small_B0
    have g1 : l.getD (i : Int).toNat default = x := getD_of h2
    rw [decide_eq_true (show (i : Int) < l.length by omega), cond_true, ck_eq (by omega), g1, m31_eq x (hs x (List.mem_of_getElem? h2)), h3, ih, List.all_cons]
    cases smallV x <;> rfl
theorem m26_eq (l : List (List Int)) (c : List Int) (hl : l.length < 9223372036854775807) (hs : ∀ a ∈ l, a.length < 9223372036854775807) :
    m26_overflightref06_Fits l c = some (bif l.all (fun a => decide (a.length = c.length)) then (l.any (fun a => bel a c), 0) else (false, 60)) := by
  unfold m26_overflightref06_Fits
  rw [m38_eq l c.length hl, Option.bind_some]
  cases ha : l.all fun a => decide (a.length = c.length)
  · rfl
  rw [Bool.not_true, cond_false, cond_true]
  rw [List.all_eq_true] at ha
  refine up_list0 (fun t => some (t.any fun a => bel a c, (0 : Int))) l hl ?_ ?_ (show l.length < ((l.length : Int) - 0).toNat + 1 by omega)
  · intro sf; unfold m26_overflightref06_Fits_B0; rw [decide_eq_false (by omega)]; rfl
  · intro sf i x t h1 h2 h3 ih
    unfold m26_overflightref06_Fits_B0
    have hx := List.mem_of_getElem? h2
    have g1 : l.getD (i : Int).toNat default = x := getD_of h2
    rw [decide_eq_true (show (i : Int) < l.length by omega), cond_true, ck_eq (by omega), g1, m33_eq x c (of_decide_eq_true (ha x hx)) (hs x hx), h3, ih, List.any_cons]
    cases bel x c <;> rfl
theorem m53_eq (l : List (List Int)) (i : Nat) (n : Nat) (hi : i < l.length) (hl : l.length < 9223372036854775807) (hn : ∀ a ∈ l, a.length = n) (hnb : n < 9223372036854775807) : m53_overflightref06_isLeast l (i : Int) = some (isL l (l.getD i default)) := by
  unfold m53_overflightref06_isLeast
  have ha : (l.getD i default).length = n := hn _ (by rw [List.getD_eq_getElem?_getD, List.getElem?_eq_getElem hi]; exact List.getElem_mem hi)
  generalize hA : l.getD i default = a at ha
  unfold isL
  refine up_list0 (fun t => some (t.all fun b => !(!decide (cmpL b a = 0) && bel b a))) l hl ?_ ?_ (show l.length < ((l.length : Int) - 0).toNat + 1 by omega)
  · intro sf; unfold m53_overflightref06_isLeast_B0; rw [decide_eq_false (by omega)]; rfl
  · intro sf j x t h1 h2 h3 ih
    unfold m53_overflightref06_isLeast_B0
    have hx := hn _ (List.mem_of_getElem? h2)
    have g1 : l.getD (j : Int).toNat default = x := getD_of h2
    have g2 : l.getD (i : Int).toNat default = a := hA
    rw [decide_eq_true (show (j : Int) < l.length by omega), cond_true]
    simp only [jn_eq, g1, g2]
    rw [ck_eq (by omega), ck_eq (by omega), m35_eq x a (by omega) (by omega), m33_eq x a (by omega) (by omega), ck_eq (by omega), ck_eq (by omega), h3, ih, List.all_cons]
    simp only [Option.bind_some]
    by_cases c : cmpL x a = 0
    · rw [decide_eq_false (show ¬ (cmpL x a ≠ 0) by omega), decide_eq_true c]; rfl
    · rw [decide_eq_true (show cmpL x a ≠ 0 by omega), decide_eq_false c]; cases bel x a <;> rfl
theorem m54_eq (l : List (List Int)) (a : List Int) (n : Nat) (hl : l.length ≤ 4000) (hn : ∀ b ∈ l, b.length = n) (ha : a.length = n) (hnb : n < 9223372036854775807) : m54_overflightref06_insert l a = some (insL l a) := by
  have loop : ∀ k3 : Int → Option (List (List Int)), loop1 (m54_overflightref06_insert_B0 l a k3) 1000000 0 = k3 ((posL a l : Nat) : Int) := by
    intro k3
    refine (up_listI (B := m54_overflightref06_insert_B0 l a k3) (fun i t => k3 ((i + posL a t : Nat) : Int)) l (by omega) ?_ ?_ (by omega)).trans (by rw [Nat.zero_add])
    · intro sf; unfold m54_overflightref06_insert_B0; simp only [jn_eq]; rw [decide_eq_false (by omega)]; rfl
    · intro sf i x t h1 h2 h3 ih
      unfold m54_overflightref06_insert_B0
      have hx := hn _ (List.mem_of_getElem? h2)
      have g1 : l.getD (i : Int).toNat default = x := getD_of h2
      simp only [jn_eq]
      rw [decide_eq_true (show (i : Int) < l.length by omega), cond_true, ck_eq (by omega), g1, m35_eq x a (by omega) (by omega), h3, ih, Option.bind_some]
      show _ = k3 ((i + (if cmpL x a < 0 then posL a t + 1 else 0) : Nat) : Int)
      by_cases c : cmpL x a < 0
      · rw [decide_eq_true c, if_pos c, cond_true]; congr 2; omega
      · rw [decide_eq_false c, if_neg c, cond_false]; rfl
  unfold m54_overflightref06_insert
  rw [jn_eq, loop, insL_put, jn_eq]
  have hp := posL_le a l
  generalize posL a l = k at hp
  unfold putL
  have e1 : ([] ++ (l.drop 0).take ((k : Int).toNat - 0)) = l.take k := by simp
  have e2 : ((l.drop (k : Int).toNat).take (l.length - (k : Int).toNat)) = l.drop k := by
    rw [Int.toNat_natCast]; exact List.take_of_length_le (by rw [List.length_drop]; omega)
  have e3 : ((l.drop 0).take ((k : Int).toNat - 0)) = l.take k := by simp
  rw [e1, e2, e3]
  have hK : (ck ((0 : Int) ≤ (k : Int) ∧ (k : Int) ≤ (l.length : Int)) <|
        ck ((([] : List (List Int)).length + (l.take k).length) * 24 ≤ 140737488355328) <|
        ck (((l.take k).length + [a].length) * 24 ≤ 140737488355328) <|
        ck ((0 : Int) ≤ (k : Int) ∧ (k : Int) ≤ (l.length : Int)) <|
        ck (((l.take k ++ [a]).length + (l.drop k).length) * 24 ≤ 140737488355328) <|
        some (l.take k ++ [a] ++ l.drop k)) = some (l.take k ++ [a] ++ l.drop k) := by
    rw [ck_eq (by omega), ck_eq (by simp only [List.length_nil, List.length_take]; omega), ck_eq (by simp only [List.length_take, List.length_cons, List.length_nil]; omega), ck_eq (by omega),
      ck_eq (by simp only [List.length_append, List.length_take, List.length_drop, List.length_cons, List.length_nil]; omega)]
  by_cases c : k < l.length
  · have g1 : l.getD (k : Int).toNat default = l.getD k default := rfl
    have hx : (l.getD k default).length = n := hn _ (by rw [List.getD_eq_getElem?_getD, List.getElem?_eq_getElem c]; exact List.getElem_mem c)
    rw [decide_eq_true (show (k : Int) < l.length by omega), cond_true, g1, m35_eq _ a (by omega) (by omega), decide_eq_true c, Bool.true_and]
    refine (ck_eq (by omega)).trans ?_
    rw [Option.bind_some]
    cases decide (cmpL (l.getD k default) a = 0)
    · exact hK
    · rfl
  · rw [decide_eq_false (show ¬ (k : Int) < l.length by omega), decide_eq_false c]; exact hK
theorem m39_eq (l : List (List Int)) (n : Nat) (hl : l.length ≤ 4000) (hn : ∀ b ∈ l, b.length = n) (hnb : n < 9223372036854775807) : m39_overflightref06_least l = some (leastL l) := by
  rw [← leastR_eq hn]
  unfold m39_overflightref06_least leastR
  refine up_listB (fun i out => out.length ≤ i ∧ ∀ x ∈ out, x.length = n) (fun _ t out => some (t.foldl (goL l) out)) l (by omega) ?_ ?_ (by omega) ⟨by simp, by simp⟩
  · intro sf out _; unfold m39_overflightref06_least_B0; rw [decide_eq_false (by omega)]; rfl
  · intro sf i out x t h1 h2 h3 hI ih
    unfold m39_overflightref06_least_B0
    have hx := hn _ (List.mem_of_getElem? h2)
    have g0 : l.getD i default = x := getD_of h2
    have g1 : l.getD (i : Int).toNat default = x := getD_of h2
    rw [decide_eq_true (show (i : Int) < l.length by omega), cond_true, m53_eq l i n h1 (by omega) hn hnb, g0, ck_eq (by omega), g1, m54_eq out x n (by omega) hI.2 hx hnb, h3, List.foldl_cons]
    simp only [Option.bind_some]
    cases c : isL l x
    · have e : goL l out x = out := by unfold goL; rw [c]; rfl
      rw [cond_false, e]
      exact ih out ⟨by omega, hI.2⟩
    · have e : goL l out x = insL out x := by unfold goL; rw [c]; rfl
      rw [cond_true, e]
      refine ih _ ⟨by have := insL_len out x; omega, fun y hy => ?_⟩
      rcases mem_insL.1 hy with hy | rfl
      · exact hI.2 y hy
      · exact hx
theorem m22_eq (l : List (List Int)) (hl : l.length ≤ 4000) (hs : ∀ a ∈ l, a.length < big) : m22_overflightref06_Least l = some (bif alikeB l then (leastL l, 0) else ([], 60)) := by
  unfold m22_overflightref06_Least
  by_cases c : l = []
  · subst c; rfl
  have hp : 0 < l.length := List.length_pos_iff.2 c
  rw [decide_eq_false (show ¬ ((l.length : Int) = 0) by omega), cond_false, ck_eq (by omega), m38_eq l _ (by omega), Option.bind_some]
  show (bif !alikeB l then _ else _) = _
  cases ha : alikeB l
  · rfl
  obtain ⟨n, hn⟩ := alike_len ha
  have hb : n < big := by
    have h0 : l[0] ∈ l := List.getElem_mem hp
    have := hs _ h0; rw [hn _ h0] at this; exact this
  rw [Bool.not_true, cond_false, decide_eq_false (show ¬ (4096 : Int) < (l.length : Int) by omega), cond_false, m39_eq l n hl hn (by simp only [big] at hb; omega)]
  rfl
theorem m24_eq (a b : List (List Int)) (ha : a.length ≤ 30) (hb : b.length ≤ 30) (fab : ∀ x ∈ a ++ b, x.length ≤ 20) :
    m24_overflightref06_Sums a b = some (bif alikeB (a ++ b) && (a ++ b).all smallV then (leastL (sumsL a b), 0) else ([], 60)) := by
  unfold m24_overflightref06_Sums
  rw [ck_eq (by simp only [List.length_nil]; omega), ck_eq (by simp only [List.length_nil, List.length_append]; omega), List.nil_append]
  have hl : (a ++ b).length = a.length + b.length := List.length_append
  by_cases c : a ++ b = []
  · obtain ⟨rfl, rfl⟩ := List.append_eq_nil_iff.1 c; rfl
  have hp : 0 < (a ++ b).length := List.length_pos_iff.2 c
  rw [decide_eq_false (show ¬ (((a ++ b).length : Int) = 0) by omega), cond_false, jn_eq]
  rw [ck_eq (by omega), m38_eq (a ++ b) _ (by omega), m41_eq (a ++ b) (by omega) (fun x hx => by have := fab x hx; omega)]
  show ((some (alikeB (a ++ b))).bind fun alike_1 => _) = _
  rw [Option.bind_some]
  cases hal : alikeB (a ++ b)
  · rfl
  rw [Bool.not_true, cond_false, Option.bind_some]
  cases hsm : (a ++ b).all smallV
  · rfl
  simp only [Bool.not_true, cond_false, jn_eq, Bool.and_self, cond_true]
  obtain ⟨n, hn, hn20⟩ : ∃ n, (∀ x ∈ a ++ b, x.length = n) ∧ n ≤ 20 := by
    obtain ⟨n, hn⟩ := alike_len hal
    cases hh : a ++ b with
    | nil => exact ⟨0, by simp, by omega⟩
    | cons x t => rw [hh] at hn fab; exact ⟨n, hn, by have := fab x (by simp); rw [hn x (by simp)] at this; exact this⟩
  have hna : ∀ u ∈ a, u.length = n := fun u hu => hn u (by simp [hu])
  have hnb : ∀ u ∈ b, u.length = n := fun u hu => hn u (by simp [hu])
  have sa : ∀ u ∈ a, smallV u = true := fun u hu => List.all_eq_true.1 hsm u (by simp [hu])
  have sb : ∀ u ∈ b, smallV u = true := fun u hu => List.all_eq_true.1 hsm u (by simp [hu])
  have hm : a.length * b.length ≤ 30 * 30 := Nat.mul_le_mul ha hb
  have w : IntKind.i64.wrap ((a.length : Int) * (b.length : Int)) = ((a.length * b.length : Nat) : Int) := by
    rw [← Int.natCast_mul]; exact wrap_i64 (by omega) (by omega)
  rw [w, decide_eq_false (show ¬ (4096 : Int) < (a.length : Int) by omega), decide_eq_false (show ¬ (4096 : Int) < (b.length : Int) by omega), decide_eq_false (show ¬ (1048576 : Int) < ((a.length * b.length : Nat) : Int) by omega)]
  simp only [cond_false]
  have inner : ∀ (u : List Int) (hu : u ∈ a) (i : Nat) (hi : i < a.length) (sf : (List (List Int)) → Int → Option ((List (List Int)) × Int)) (v : Int), v = (i : Int) → a.getD i default = u → ∀ x : List (List Int), x.length ≤ 900 →
      loop2 (m24_overflightref06_Sums_B1 a b v sf) (((b.length : Int) - 0).toNat + 1) x 0 = sf (x ++ b.map fun w => addV u w) (IntKind.wrap .i64 (v + 1)) := by
    intro u hu i hi sf v hv hgu x hx
    refine (up_listB (σ := List (List Int)) (fun j y => y.length = x.length + j) (fun j t y => sf (y ++ t.map fun w => addV u w) (IntKind.wrap .i64 (v + 1))) b (by omega) ?_ ?_ (show b.length < ((b.length : Int) - 0).toNat + 1 by omega) (by simp))
    · intro sf' y _; unfold m24_overflightref06_Sums_B1; simp
    · intro sf' j y w t h1 h2 h3 hy ih
      obtain ⟨_, rfl⟩ := List.getElem?_eq_some_iff.1 h2
      unfold m24_overflightref06_Sums_B1
      have c1 : (j : Int) < (b.length : Int) := by omega
      have g1 : b.getD (j : Int).toNat default = b[j] := by simp [h1]
      have hbm : b[j] ∈ b := List.getElem_mem _
      have hgu' : a.getD v.toNat default = u := by rw [hv, Int.toNat_natCast]; exact hgu
      simp only [c1, decide_true, cond_true, g1, h3, hgu']
      rw [ck_eq (by omega), ck_eq (by simp), m14_eq u b[j] (by have := hna u hu; simp [big]; omega) (by have := hnb _ hbm; simp [big]; omega), if_pos ⟨by rw [hna u hu, hnb _ hbm], sa u hu, sb _ hbm⟩]
      simp only [Option.bind_some]
      rw [ck_eq (by simp; omega), ih _ (by simp; omega)]
      simp
  refine (up_listB (σ := List (List Int)) (fun i x => x.length = i * b.length ∧ ∀ e ∈ x, e.length = n) (fun i t x => some (leastL (x ++ sumsL t b), (0 : Int))) a (by omega) ?_ ?_ (show a.length < ((a.length : Int) - 0).toNat + 1 by omega) ⟨by simp, by simp⟩).trans (by simp)
  · rintro sf x ⟨hx, hxn⟩
    unfold m24_overflightref06_Sums_B0
    have hl := leastL_len x
    have c4 : ¬ (4096 : Int) < ((leastL x).length : Int) := by omega
    simp only [Int.lt_irrefl, decide_false, cond_false]
    rw [m39_eq x n (by omega) hxn (by omega)]
    simp [c4, sumsL]
  · rintro sf i x u t h1 h2 h3 ⟨hx, hxn⟩ ih
    obtain ⟨_, rfl⟩ := List.getElem?_eq_some_iff.1 h2
    have hu : a[i] ∈ a := List.getElem_mem _
    have hi30 : i * b.length ≤ 29 * 30 := Nat.mul_le_mul (by omega) hb
    unfold m24_overflightref06_Sums_B0
    have c4 : (i : Int) < (a.length : Int) := by omega
    simp only [c4, decide_true, cond_true]
    rw [inner a[i] hu i h1 sf i rfl (by simp [h1]) x (by omega), h3, ih _ ⟨by simp [hx, Nat.add_mul], fun e he => ?_⟩]
    · simp [sumsL]
    · simp only [List.mem_append, List.mem_map] at he
      rcases he with he | ⟨v, hv, rfl⟩
      · exact hxn e he
      · rw [addV_len (by rw [hna _ hu, hnb v hv]), hna _ hu]
theorem m23_all (a b : List (List Int)) (ha : a.length ≤ 30) (hb : b.length ≤ 30) (fab : ∀ x ∈ a ++ b, x.length ≤ 20) :
    m23_vector_Sums a b = some (bif alikeB (a ++ b) && (a ++ b).all smallV then (leastL (sumsL a b), 0) else ([], 60)) := by
  have al := m36_eq (a ++ b) (some fun x => m29_vector_small x) smallV (fun x hx f' hf' => by cases hf'; exact m29_eq x (by have := fab x hx; omega)) (by simp; omega)
  have e : (!(some fun x => m29_vector_small x).isSome || (a ++ b).all smallV) = (a ++ b).all smallV := by simp
  rw [e] at al
  cases hal : (alikeB (a ++ b) && (a ++ b).all smallV)
  · unfold m23_vector_Sums
    rw [m40_eq a b (by omega) (by omega)]
    simp only [Option.bind_some]
    rw [al, hal]; rfl
  rw [hal] at al
  rw [Bool.and_eq_true] at hal
  obtain ⟨n, hn, hn20⟩ : ∃ n, (∀ x ∈ a ++ b, x.length = n) ∧ n ≤ 20 := by
    obtain ⟨n, hn⟩ := alike_len hal.1
    cases hh : a ++ b with
    | nil => exact ⟨0, by simp, by omega⟩
    | cons x t => rw [hh] at hn fab; exact ⟨n, hn, by have := fab x (by simp); rw [hn x (by simp)] at this; exact this⟩
  rw [m23_eq a b n ha hb (fun u hu => hn u (by simp [hu])) (fun u hu => hn u (by simp [hu])) hn20 (fun u hu => List.all_eq_true.1 hal.2 u (by simp [hu])) (fun u hu => List.all_eq_true.1 hal.2 u (by simp [hu])) al]
  rfl
theorem VectorLeastSpec_law (a b : List (List Int)) (budget : List Int) (hla : SmL (SmL (InK .i64)) a) (hlb : SmL (SmL (InK .i64)) b) (_ : SmL (InK .i64) budget) : m4_overflightlaw06_VectorLeastSpec a b budget = some true := by
  have ha0 : a.length < 9223372036854775807 := by have := hla.1; omega
  have hb0 : b.length < 9223372036854775807 := by have := hlb.1; omega
  unfold m4_overflightlaw06_VectorLeastSpec
  rw [sane_eq]
  simp only [Option.bind_some, jn_eq, Bool.not_true, cond_false]
  rw [few_eq a ha0, few_eq b hb0, m12_eq _ (by simp)]
  cases hf : (a.all (fun a => decide (a.length ≤ 20)) && decide (a.length ≤ 30))
  · simp
  obtain ⟨f1, f2⟩ := few_spec hf
  simp only [Option.bind_some, Bool.not_true, cond_false]
  cases hf' : (b.all (fun a => decide (a.length ≤ 20)) && decide (b.length ≤ 30))
  · simp
  obtain ⟨f3, f4⟩ := few_spec hf'
  simp only [Option.bind_some, Bool.not_true, cond_false]
  cases hg : (List.all [budget] (fun a => decide (a.length ≤ 20)) && decide ([budget].length ≤ 30))
  · simp
  simp only [Bool.not_true, cond_false]
  have fab : ∀ x ∈ a ++ b, x.length ≤ 20 := fun x hx => by
    rcases List.mem_append.1 hx with h | h
    · exact f1 x h
    · exact f3 x h
  have hs1 : ∀ x ∈ a, x.length < big := fun x hx => by have := f1 x hx; simp only [big]; omega
  rw [m21_eq a (by omega) hs1, m22_eq a (by omega) hs1, m23_all a b f2 f4 fab, m24_eq a b f2 f4 fab, m25_eq a budget ha0 (fun x hx => by have := f1 x hx; omega), m26_eq a budget ha0 (fun x hx => by have := f1 x hx; omega)]
  have r1 : m27_overflightref06_SameList (bif alikeB a then (leastL a, (0 : Int)) else ([], 60)).1 (bif alikeB a then (leastL a, (0 : Int)) else ([], 60)).1 = some true := by
    cases hal : alikeB a
    · exact m27_refl [] (by simp) (by simp)
    · obtain ⟨n, hn⟩ := alike_len hal
      have := leastL_len a
      exact m27_refl _ (by show (leastL a).length < _; omega) (fun x hx => by have := f1 x ((leastL_is hn).sub x hx); omega)
  have hm : a.length * b.length ≤ 30 * 30 := Nat.mul_le_mul f2 f4
  have r2 : m27_overflightref06_SameList (bif alikeB (a ++ b) && (a ++ b).all smallV then (leastL (sumsL a b), (0 : Int)) else ([], 60)).1 (bif alikeB (a ++ b) && (a ++ b).all smallV then (leastL (sumsL a b), (0 : Int)) else ([], 60)).1 = some true := by
    cases hal : (alikeB (a ++ b) && (a ++ b).all smallV)
    · exact m27_refl [] (by simp) (by simp)
    · rw [Bool.and_eq_true] at hal
      obtain ⟨n, hn⟩ := alike_len hal.1
      have hX : ∀ x ∈ sumsL a b, x.length = n ∧ x.length ≤ 20 := fun x hx => by
        simp only [sumsL, List.mem_flatMap, List.mem_map] at hx
        obtain ⟨u, hu, v, hv, rfl⟩ := hx
        have h1 := hn u (by simp [hu]); have h2 := hn v (by simp [hv]); have h3 := f1 u hu
        rw [addV_len (by omega)]; omega
      have hXl : (sumsL a b).length = a.length * b.length := by simp [sumsL, List.length_flatMap, List.map_const']
      have := leastL_len (sumsL a b)
      exact m27_refl _ (by show (leastL (sumsL a b)).length < _; omega) (fun x hx => by have := (hX x ((leastL_is fun y hy => (hX y hy).1).sub x hx)).2; omega)
  simp only [Option.bind_some, r1, r2, cond_true, decide_true, beq_self_eq_true]
end Go.Fx



namespace Go.Proofs.Yteohplgecfdafaa.lawVectorLeastSpec
open Go Go.Proofs Go.ChangeShapes Go.WideShapes Go.ChangeAt Go.RowKit Go.Fx
open Go.ChangeMaps (open_string shut_string)
set_option linter.unusedVariables false
set_option maxRecDepth 100000
theorem own : ownKnob Try.prog.godebug = none := by kernel_rfl
theorem laidOut : laidOutB Try.prog = true := by kernel_rfl
set_option maxRecDepth 100000 in
set_option maxHeartbeats 1000000 in
theorem lifted (os : Os) (started : os.Started) (H : Type) (enc : TypeId × Value → H) :
    ReturnsInHanded {} Try.checked os 4 .any (Rows.vectorLeastSpecSpec.pre6 enc Try.prog Try.f4 Rows.vectorLeastSpecRow.domain false) (Rows.vectorLeastSpecSpec.post enc Try.prog Try.f4 false true false false) := by
  refine returnsInHanded_of_change_sized (C := Try.checked) own started (by kernel_rfl) Try.func4
    (ChangeSpec.witness6 (enc := enc) (C := Try.checked) false ⟨#[], #[(.slice none 0 0), (.slice none 0 0), (.slice none 0 0)], []⟩ 8 (by kernel_rfl) (by kernel_rfl) (by kernel_rfl) (by kernel_rfl)) ?_
  intro W base args ds gs before hval0 hW hcnd hsz _
  have hval : ∀ (j : Nat) t v, Try.f4.params[j]? = some t → args[j]? = some v → Value.okWide Try.prog W .any base t v := hval0
  have hW' := hW
  obtain ⟨p, q, hA0, hV, rfl, hfz, hnd⟩ := hW
  have hA : DataW.TrodAll enc Try.prog W 0 (fun _ => true) true Try.f4.params.toList args.toList ds p := hA0
  rw [Try.params4] at hA hval
  obtain ⟨v0, vs0, d0, ds0, p0, q0, hargs, rfl, rfl, h0, r0⟩ := trodAll_cons hA
  obtain ⟨v1, vs1, d1, ds1, p1, q1, rfl, rfl, rfl, h1, r1⟩ := trodAll_cons r0
  obtain ⟨v2, vs2, d2, ds2, p2, q2, rfl, rfl, rfl, h2, r2⟩ := trodAll_cons r1
  obtain ⟨rfl, rfl, rfl⟩ := trodAll_nil r2
  obtain rfl : args = #[v0, v1, v2] := by cases args; simp_all
  obtain ⟨rfl, rfl⟩ := trodVars_none hV
  have k0 := h0
  have lt0 : ∀ x ∈ p0, x.block < W.heap.size := by obtain ⟨m, hm⟩ := k0; exact DataW.trod_lt m _ _ _ hm
  obtain ⟨fu0, hf0⟩ := h0
  obtain ⟨a, rr0, sm0⟩ := rd33.2 _ _ _ hf0
  replace sm0 := sm0 (fun n hn => by have := List.all_eq_true.1 hsz n (DataW.weights_mem_each (j := 0) (t := 33) rfl rfl n hn); simpa using this)
  obtain ⟨b0, l0, c0, rfl⟩ := okWide_slice Try.underlying33 (hval 0 33 v0 rfl rfl)
  replace rr0 : (rSl (rSl (rInt .i64))).rd W [] [.slice b0 l0 c0] a := rr0
  obtain ⟨a_a, c_a, e0, f_a⟩ := un_sl rr0
  simp only [Value.slice.injEq] at e0
  obtain ⟨rfl, rfl, rfl⟩ := e0
  have k1 := h1
  have lt1 : ∀ x ∈ p1, x.block < W.heap.size := by obtain ⟨m, hm⟩ := k1; exact DataW.trod_lt m _ _ _ hm
  obtain ⟨fu1, hf1⟩ := h1
  obtain ⟨b, rr1, sm1⟩ := rd33.2 _ _ _ hf1
  replace sm1 := sm1 (fun n hn => by have := List.all_eq_true.1 hsz n (DataW.weights_mem_each (j := 1) (t := 33) rfl rfl n hn); simpa using this)
  obtain ⟨b1, l1, c1, rfl⟩ := okWide_slice Try.underlying33 (hval 1 33 v1 rfl rfl)
  replace rr1 : (rSl (rSl (rInt .i64))).rd W [] [.slice b1 l1 c1] b := rr1
  obtain ⟨a_b, c_b, e1, f_b⟩ := un_sl rr1
  simp only [Value.slice.injEq] at e1
  obtain ⟨rfl, rfl, rfl⟩ := e1
  have k2 := h2
  have lt2 : ∀ x ∈ p2, x.block < W.heap.size := by obtain ⟨m, hm⟩ := k2; exact DataW.trod_lt m _ _ _ hm
  obtain ⟨fu2, hf2⟩ := h2
  obtain ⟨budget, rr2, sm2⟩ := rd22.2 _ _ _ hf2
  replace sm2 := sm2 (fun n hn => by have := List.all_eq_true.1 hsz n (DataW.weights_mem_each (j := 2) (t := 22) rfl rfl n hn); simpa using this)
  obtain ⟨b2, l2, c2, rfl⟩ := okWide_slice Try.underlying22 (hval 2 22 v2 rfl rfl)
  replace rr2 : (rSl (rInt .i64)).rd W [] [.slice b2 l2 c2] budget := rr2
  obtain ⟨a_budget, c_budget, e2, f_budget⟩ := un_sl rr2
  simp only [Value.slice.injEq] at e2
  obtain ⟨rfl, rfl, rfl⟩ := e2
  have hm : m4_overflightlaw06_VectorLeastSpec a b budget = some true := VectorLeastSpec_law _ _ _ sm0 sm1 sm2
  have hc := Fn.calls (c4_overflightlaw06_VectorLeastSpec (a := a) (b := b) (budget := budget) (w := W) (O := []) (by simp) f_a f_b f_budget hm)
  clear hA0 hval0
  refine Calls.mono hc ?_
  rintro e W' ⟨v, rfl, bel, hv⟩
  replace bel := bel.below; obtain rfl : v = .bool true := hv
  exact ⟨_, rfl, _, _, _, [], _, [], hW', trodAll_mk1 (shut_bool Try.underlying4 _), (trodAll_cons_mk (Below.trod laidOut (by kernel_rfl) (of_decide_eq_true (by kernel_rfl)) k0 bel lt0) (trodAll_cons_mk (Below.trod laidOut (by kernel_rfl) (of_decide_eq_true (by kernel_rfl)) k1 bel lt1) (trodAll_cons_mk (Below.trod laidOut (by kernel_rfl) (of_decide_eq_true (by kernel_rfl)) k2 bel lt2) trodAll_mk0))), rfl, bel.frame _, fun h => by cases h⟩
theorem over : Rows.vectorLeastSpecRow.holds Try.pinned (OpenSpec.ofChange Rows.vectorLeastSpecSpec) :=
  OpenClaim.holds_of_wide 4 Try.f4 rfl rfl rfl rfl rfl rfl rfl ⟨rfl, rfl, rfl, rfl, rfl⟩ rfl rfl rfl rfl rfl (by kernel_rfl) Try.func4 (by kernel_rfl)
    (of_decide_eq_true (by kernel_rfl)) (by unfold Func.isWrapper; first | (rw [if_pos (by decide +kernel)]; kernel_rfl) | (rw [if_neg (by decide +kernel)]; exact ⟨rfl, rfl⟩))
    (fun os started H enc _ => lifted os started H enc)
theorem proved : Rows.VectorLeastSpecSaid := over
end Go.Proofs.Yteohplgecfdafaa.lawVectorLeastSpec


