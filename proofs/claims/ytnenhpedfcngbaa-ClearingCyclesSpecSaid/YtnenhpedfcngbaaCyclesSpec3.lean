/- Part 3 of the proof: value and Cycles answer as the specification does, for every assignment of a small round. -/
import Derived.Test.YtnenhpedfcngbaaCyclesSpec2
set_option linter.unusedVariables false
set_option linter.unusedSimpArgs false
set_option maxRecDepth 100000
set_option maxHeartbeats 0
namespace Go.Fx
open Go Go.RowKit Go.Proofs
def m27_coalition_Worse_B0 (costs_1 : (List Int)) (costs_2 : (List Int)) (sf140 : (List Int) → Int → Option ((List Int) × Int)) (l_1 : List Int) (v_1 : Int) : Option ((List Int) × Int) :=
 bif (decide (v_1 < (costs_2.length : Int))) then
  ck ((0 : Int) ≤ v_1 ∧ v_1 < (costs_2.length : Int)) <|
  ck ((0 : Int) ≤ v_1 ∧ v_1 < (costs_1.length : Int)) <|
  bif (decide ((costs_1.getD v_1.toNat default) < (costs_2.getD v_1.toNat default))) then
   ck ((l_1.length + [v_1].length) * 8 ≤ 140737488355328) <|
   sf140 (l_1 ++ [v_1]) (IntKind.wrap .i64 (v_1 + 1))
  else
   sf140 l_1 (IntKind.wrap .i64 (v_1 + 1))
 else
  some (l_1, 0)

def m27_coalition_Worse (r_ : XRound) (slots : List Int) : Option ((List Int) × Int) :=
 (m45_coalition_check r_ slots).bind fun check_1 =>
 bif (decide (check_1 ≠ 0)) then
  some (([] : List Int), check_1)
 else
  (m47_coalition_own r_).bind fun own_1 =>
  (m47_coalition_own r_).bind fun own_2 =>
  (m46_coalition_costs r_ own_1 own_2).bind fun costs_1 =>
  (m47_coalition_own r_).bind fun own_3 =>
  (m46_coalition_costs r_ own_3 slots).bind fun costs_2 =>
  loop2 (m27_coalition_Worse_B0 costs_1 costs_2) (((costs_2.length : Int) - 0).toNat + 1) ([] : List Int) 0

theorem c27_coalition_Worse {w : World} {O : List Nat} {r_ : XRound} {slots : List Int} {Aa : Option Addr} {Ca : Nat} {Ab : Option Addr} {Cb : Nat} {Ac : Option Addr} {Cc : Nat} (hO : ∀ k ∈ O, k < w.heap.size) (Ra : InK .i64 r_.slots) (Fa : SlR (rInt .i64) w O Aa Ca r_.owners) (Fb : SlR (rSl (rInt .i64)) w O Ab Cb r_.costs) (Fc : SlR (rInt .i64) w O Ac Cc slots) {x : (List Int) × Int} (hm : m27_coalition_Worse r_ slots = some x) :
 Ok Try.prog 27 [(Value.agg [(Value.int .i64 r_.slots), (Value.slice Aa r_.owners.length Ca), (Value.slice Ab r_.costs.length Cb)].toArray), (Value.slice Ac slots.length Cc)] w O (vT2 (vC (rSl (rInt .i64))) (vI .i64)) x := by
 unfold m27_coalition_Worse at hm
 refine Fn_of_Wp (n := 45) (xs := [.tmp 4, .tmp 5]) Try.func27 rfl Try.ntmps27 Try.results27 rfl ?_
 have hs := St.start hO
 refine Wp_seq (Wp_region ?_)
 refine Rg_op rfl (op_box (cs := [(Value.int .i64 r_.slots), (Value.slice Aa r_.owners.length Ca), (Value.slice Ab r_.costs.length Cb)]) hs rfl rfl ?_)
 intro b1 w2 _ p3 hs4
 replace Fa := Fa.step p3; replace Fb := Fb.step p3; replace Fc := Fc.step p3; clear p3
 refine Rg_op rfl (op_assign (v := (Value.slice none 0 0)) rfl ?_)
 refine Rg_op rfl (op_assign (v := (Value.int .i64 0)) rfl ?_)
 refine Rg_nil (Wp_seq (Wp_seq (Wp_region ?_)))
 refine Rg_op rfl (op_loadA (cs := [(Value.int .i64 r_.slots), (Value.slice Aa r_.owners.length Ca), (Value.slice Ab r_.costs.length Cb)]) (vs := [(Value.int .i64 r_.slots), (Value.slice Aa r_.owners.length Ca), (Value.slice Ab r_.costs.length Cb)]) (i := 0) ty25 hs4 rfl rfl rfl rfl ?_)
 refine Rg_op rfl (op_move (v := (Value.slice Ac slots.length Cc)) rfl ?_)
 replace hm := bd hm; obtain ⟨check_1, hv6, hm⟩ := hm
 refine Rg_op rfl (op_call Try.call45 (c45_coalition_check (r_ := r_) (slots := slots) hs4.ltw Ra Fa Fb Fc hv6) rfl ?_)
 rintro v7 w8 ⟨hx9, h10⟩
 have hs11 := hs4.call hx9
 have p12 := Step.ext (O := ks [(some b1, Obj.cells [(Value.int .i64 r_.slots), (Value.slice Aa r_.owners.length Ca), (Value.slice Ab r_.costs.length Cb)].toArray 25)] O) hx9
 clear hx9
 replace Fa := Fa.step p12; replace Fb := Fb.step p12; replace Fc := Fc.step p12; clear p12 hs4
 obtain ⟨rfl, Rb⟩ := h10
 refine Rg_op rfl (op_assign (v := (Value.int .i64 check_1)) rfl ?_)
 refine Rg_nil (Wp_seq (Wp_region ?_))
 refine Rg_op rfl (op_move (v := (Value.int .i64 check_1)) rfl ?_)
 refine Rg_op rfl (op_neq rfl rfl ?_)
 refine Rg_nil ?_
 refine Wp_cond rfl (fun hc14 => ?_) (fun hc14 => ?_)
 replace hm := bif_t hm hc14
 refine Wp_seq ?_
 obtain ⟨hs15, p16⟩ := hs11.sub (bs' := []) (.cons _ List.Sublist.slnil)
 clear Fa Fb Fc
 clear p16 hs11
 refine Wp_region ?_
 refine Rg_op rfl (op_move (v := (Value.int .i64 check_1)) rfl ?_)
 refine Rg_op rfl (op_assign (v := (Value.slice none 0 0)) rfl ?_)
 refine Rg_op rfl (op_assign (v := (Value.int .i64 check_1)) rfl ?_)
 refine Rg_nil ?_
 refine Wp_ret ?_
 have hz := step_all hs15
 refine ⟨_, (show Closes [] _ _ from rfl), [(Value.slice none 0 0), (Value.int .i64 check_1)], ⟨rfl, rfl, trivial⟩, hs15.ext, ?_⟩
 exact Vr.eq (a := (vT2 (vC (rSl (rInt .i64))) (vI .i64))) (x := (([] : List Int), check_1)) (mkT2 (mkC (mk_sl SlR.nil_)) ⟨rfl, Rb⟩) (Option.some.inj hm)
 replace hm := bif_f hm hc14
 refine Wp_skip (Wp_seq ?_)
 refine Wp_drawR (g0 := []) (m := 5) (fl := []) (TS_inv hs11) rfl (.inl rfl) rfl (by decide +kernel) ?_  -- 4
 refine Dw_eq (Value.agg [(Value.int .i64 r_.slots), (Value.slice Aa r_.owners.length Ca), (Value.slice Ab r_.costs.length Cb)].toArray) (fun ρ17 w18 g hle hi ht => ?_) ?_
 obtain ⟨-, hst, -⟩ := hle
 have hsn := (Step.nx hi).1
 refine StepOp_plain (op_loadA (cs := [(Value.int .i64 r_.slots), (Value.slice Aa r_.owners.length Ca), (Value.slice Ab r_.costs.length Cb)]) (vs := [(Value.int .i64 r_.slots), (Value.slice Aa r_.owners.length Ca), (Value.slice Ab r_.costs.length Cb)]) (i := 0) ty25 hsn (ht 2 rfl) rfl rfl rfl ?_)
 exact Goes.same hi rfl
 refine Dw_eq (Value.agg [(Value.int .i64 r_.slots), (Value.slice Aa r_.owners.length Ca), (Value.slice Ab r_.costs.length Cb)].toArray) (fun ρ20 w21 g hle hi ht => ?_) ?_
 obtain ⟨-, hst, -⟩ := hle
 have hsn := (Step.nx hi).1
 refine StepOp_plain (op_loadA (cs := [(Value.int .i64 r_.slots), (Value.slice Aa r_.owners.length Ca), (Value.slice Ab r_.costs.length Cb)]) (vs := [(Value.int .i64 r_.slots), (Value.slice Aa r_.owners.length Ca), (Value.slice Ab r_.costs.length Cb)]) (i := 0) ty25 hsn (ht 2 rfl) rfl rfl rfl ?_)
 exact Goes.same hi rfl
 replace hm := bd hm; obtain ⟨own_1, hv26, hm⟩ := hm
 refine Dw_op (VD O [(some b1, Obj.cells [(Value.int .i64 r_.slots), (Value.slice Aa r_.owners.length Ca), (Value.slice Ab r_.costs.length Cb)].toArray 25)] (vC (rSl (rInt .i64))) own_1) (VD.stab _ _) (fun ρ23 w24 g hle hi ht => ?_) ?_
 obtain ⟨-, hst, -⟩ := hle
 replace Fa := Fa.step hst; replace Fb := Fb.step hst
 refine StepOp_plain (op_call Try.call47 (c47_coalition_own (O := ks (ents g ++ [(some b1, Obj.cells [(Value.int .i64 r_.slots), (Value.slice Aa r_.owners.length Ca), (Value.slice Ab r_.costs.length Cb)].toArray 25)]) O) (r_ := r_) hi.ltw Ra Fa Fb hv26) (by simp only [List.map, Array.toList, (show ev _ (.tmp 17) = _ from (ht 17 rfl))] <;> rfl) ?_)
 rintro v27 w28 ⟨hx29, h30⟩
 exact Goes.call hi hx29 h30
 refine Dw_eq (Value.agg [(Value.int .i64 r_.slots), (Value.slice Aa r_.owners.length Ca), (Value.slice Ab r_.costs.length Cb)].toArray) (fun ρ32 w33 g hle hi ht => ?_) ?_
 obtain ⟨-, hst, -⟩ := hle
 have hsn := (Step.nx hi).1
 refine StepOp_plain (op_loadA (cs := [(Value.int .i64 r_.slots), (Value.slice Aa r_.owners.length Ca), (Value.slice Ab r_.costs.length Cb)]) (vs := [(Value.int .i64 r_.slots), (Value.slice Aa r_.owners.length Ca), (Value.slice Ab r_.costs.length Cb)]) (i := 0) ty25 hsn (ht 2 rfl) rfl rfl rfl ?_)
 exact Goes.same hi rfl
 replace hm := bd hm; obtain ⟨own_2, hv38, hm⟩ := hm
 refine Dw_op (VD O [(some b1, Obj.cells [(Value.int .i64 r_.slots), (Value.slice Aa r_.owners.length Ca), (Value.slice Ab r_.costs.length Cb)].toArray 25)] (vC (rSl (rInt .i64))) own_2) (VD.stab _ _) (fun ρ35 w36 g hle hi ht => ?_) ?_
 obtain ⟨-, hst, -⟩ := hle
 replace Fa := Fa.step hst; replace Fb := Fb.step hst
 refine StepOp_plain (op_call Try.call47 (c47_coalition_own (O := ks (ents g ++ [(some b1, Obj.cells [(Value.int .i64 r_.slots), (Value.slice Aa r_.owners.length Ca), (Value.slice Ab r_.costs.length Cb)].toArray 25)]) O) (r_ := r_) hi.ltw Ra Fa Fb hv38) (by simp only [List.map, Array.toList, (show ev _ (.tmp 19) = _ from (ht 19 rfl))] <;> rfl) ?_)
 rintro v39 w40 ⟨hx41, h42⟩
 exact Goes.call hi hx41 h42
 refine Dw_nil fun w48 g49 hl50 hi51 => ?_
 obtain ⟨-, hst52, -⟩ := hl50
 obtain ⟨hs54, p53⟩ := Step.nx hi51
 rintro v55 h56
 replace h56 : Vr.vd (vC (rSl (rInt .i64))) _ _ _ _ := h56
 obtain ⟨Ad, Cd, rfl, Fd⟩ := un_sl h56
 rintro _ rfl
 rintro v58 h59
 replace h59 : Vr.vd (vC (rSl (rInt .i64))) _ _ _ _ := h59
 obtain ⟨Ae, Ce, rfl, Fe⟩ := un_sl h59
 rintro _ rfl
 rintro _ rfl
 have p61 : Step (ks [(some b1, Obj.cells [(Value.int .i64 r_.slots), (Value.slice Aa r_.owners.length Ca), (Value.slice Ab r_.costs.length Cb)].toArray 25)] O) w8 (ks [(some b1, Obj.cells [(Value.int .i64 r_.slots), (Value.slice Aa r_.owners.length Ca), (Value.slice Ab r_.costs.length Cb)].toArray 25)] O) w48 := hst52.trans p53
 replace Fd := Fd.step p53; replace Fe := Fe.step p53; replace Fa := Fa.step p61; replace Fb := Fb.step p61; replace Fc := Fc.step p61; clear p61 hs11
 replace hm := bd hm; obtain ⟨costs_1, hv62, hm⟩ := hm
 refine Rg_op rfl (op_call Try.call46 (g46_coalition_costs (r_ := r_) (flights := own_1) (slots := own_2) hs54.ltw Ra Fa Fb Fe Fd hv62) rfl ?_)
 rintro _ w64 ⟨hx65, a68, c69, k70, o71, rfl, hk72, f73⟩
 obtain ⟨hs67, p74⟩ := hs54.callG (o := o71) hx65 hk72
 rw [← ks_cons (o := o71)] at f73
 replace Fa := Fa.step p74; replace Fb := Fb.step p74; replace Fc := Fc.step p74; replace Fd := Fd.step p74; replace Fe := Fe.step p74; clear p74 hs54
 refine Rg_op rfl (op_assign (v := (Value.slice a68 costs_1.length c69)) rfl ?_)
 refine Rg_nil (Wp_seq (Wp_seq ?_))
 clear Fd Fe
 refine Wp_drawR (g0 := []) (m := 7) (fl := []) (TS_inv hs67) rfl (.inl rfl) rfl (by decide +kernel) ?_  -- 5
 refine Dw_eq (Value.agg [(Value.int .i64 r_.slots), (Value.slice Aa r_.owners.length Ca), (Value.slice Ab r_.costs.length Cb)].toArray) (fun ρ76 w77 g hle hi ht => ?_) ?_
 obtain ⟨-, hst, -⟩ := hle
 have hsn := (Step.nx hi).1
 refine StepOp_plain (op_loadA (cs := [(Value.int .i64 r_.slots), (Value.slice Aa r_.owners.length Ca), (Value.slice Ab r_.costs.length Cb)]) (vs := [(Value.int .i64 r_.slots), (Value.slice Aa r_.owners.length Ca), (Value.slice Ab r_.costs.length Cb)]) (i := 1) ty25 hsn (ht 2 rfl) rfl rfl rfl ?_)
 exact Goes.same hi rfl
 refine Dw_eq (Value.agg [(Value.int .i64 r_.slots), (Value.slice Aa r_.owners.length Ca), (Value.slice Ab r_.costs.length Cb)].toArray) (fun ρ79 w80 g hle hi ht => ?_) ?_
 obtain ⟨-, hst, -⟩ := hle
 have hsn := (Step.nx hi).1
 refine StepOp_plain (op_loadA (cs := [(Value.int .i64 r_.slots), (Value.slice Aa r_.owners.length Ca), (Value.slice Ab r_.costs.length Cb)]) (vs := [(Value.int .i64 r_.slots), (Value.slice Aa r_.owners.length Ca), (Value.slice Ab r_.costs.length Cb)]) (i := 1) ty25 hsn (ht 2 rfl) rfl rfl rfl ?_)
 exact Goes.same hi rfl
 replace hm := bd hm; obtain ⟨own_3, hv85, hm⟩ := hm
 refine Dw_op (VD O [(k70, o71), (some b1, Obj.cells [(Value.int .i64 r_.slots), (Value.slice Aa r_.owners.length Ca), (Value.slice Ab r_.costs.length Cb)].toArray 25)] (vC (rSl (rInt .i64))) own_3) (VD.stab _ _) (fun ρ82 w83 g hle hi ht => ?_) ?_
 obtain ⟨-, hst, -⟩ := hle
 replace Fa := Fa.step hst; replace Fb := Fb.step hst
 refine StepOp_plain (op_call Try.call47 (c47_coalition_own (O := ks (ents g ++ [(k70, o71), (some b1, Obj.cells [(Value.int .i64 r_.slots), (Value.slice Aa r_.owners.length Ca), (Value.slice Ab r_.costs.length Cb)].toArray 25)]) O) (r_ := r_) hi.ltw Ra Fa Fb hv85) (by simp only [List.map, Array.toList, (show ev _ (.tmp 23) = _ from (ht 23 rfl))] <;> rfl) ?_)
 rintro v86 w87 ⟨hx88, h89⟩
 exact Goes.call hi hx88 h89
 refine Dw_eq (Value.slice Ac slots.length Cc) (fun ρ91 w92 g hle hi ht => ?_) ?_
 obtain ⟨-, hst, -⟩ := hle
 refine StepOp_plain (op_move (v := (Value.slice Ac slots.length Cc)) (ht 1 rfl) ?_)
 exact Goes.same hi rfl
 replace hm := bd hm; obtain ⟨costs_2, hv100, hm⟩ := hm
 refine Dw_op (VD O [(k70, o71), (some b1, Obj.cells [(Value.int .i64 r_.slots), (Value.slice Aa r_.owners.length Ca), (Value.slice Ab r_.costs.length Cb)].toArray 25)] (vC (rSl (rInt .i64))) costs_2) (VD.stab _ _) (fun ρ94 w95 g hle hi ht => ?_) ?_
 obtain ⟨-, hst, -⟩ := hle
 replace Fa := Fa.step hst; replace Fb := Fb.step hst; replace Fc := Fc.step hst
 have h97 : Vr.vd (vC (rSl (rInt .i64))) _ _ _ _ := ht 24 rfl
 obtain ⟨Af, Cf, q98, Ff⟩ := un_sl h97
 refine StepOp_plain (op_call Try.call46 (c46_coalition_costs (O := ks (ents g ++ [(k70, o71), (some b1, Obj.cells [(Value.int .i64 r_.slots), (Value.slice Aa r_.owners.length Ca), (Value.slice Ab r_.costs.length Cb)].toArray 25)]) O) (r_ := r_) (flights := own_3) (slots := slots) hi.ltw Ra Fa Fb Ff Fc hv100) (by simp only [List.map, Array.toList, (show ev _ (.tmp 22) = _ from (ht 22 rfl)), (show ev _ (.tmp 24) = _ from q98), (show ev _ (.tmp 25) = _ from (ht 25 rfl))] <;> rfl) ?_)
 rintro v101 w102 ⟨hx103, h104⟩
 exact Goes.call hi hx103 h104
 refine Dw_op (VD O [(k70, o71), (some b1, Obj.cells [(Value.int .i64 r_.slots), (Value.slice Aa r_.owners.length Ca), (Value.slice Ab r_.costs.length Cb)].toArray 25)] (vI .i64) (costs_2.length : Int)) (VD.stab _ _) (fun ρ106 w107 g hle hi ht => ?_) ?_
 obtain ⟨-, hst, -⟩ := hle
 have h109 : Vr.vd (vC (rSl (rInt .i64))) _ _ _ _ := ht 26 rfl
 obtain ⟨Ag, Cg, q110, Fg⟩ := un_sl h109
 refine StepOp_plain (op_len Try.underlying22 q110 ?_)
 exact Goes.same hi (show Vr.vd (vI .i64) _ _ _ _ from ⟨rfl, (inK_len Fg)⟩)
 refine Dw_eq (Value.int .i64 0) (fun ρ112 w113 g hle hi ht => ?_) ?_
 obtain ⟨-, hst, -⟩ := hle
 refine StepOp_plain (op_move (v := (Value.int .i64 0)) rfl ?_)
 exact Goes.same hi rfl
 refine Dw_nil fun w119 g120 hl121 hi122 => ?_
 obtain ⟨-, hst123, -⟩ := hl121
 obtain ⟨hs125, p124⟩ := Step.nx hi122
 rintro _ rfl
 rintro v126 h127
 replace h127 : Vr.vd (vI .i64) _ _ _ _ := h127
 obtain ⟨rfl, Rc⟩ := h127
 rintro v129 h130
 replace h130 : Vr.vd (vC (rSl (rInt .i64))) _ _ _ _ := h130
 obtain ⟨Ah, Ch, rfl, Fh⟩ := un_sl h130
 rintro _ rfl
 rintro v132 h133
 replace h133 : Vr.vd (vC (rSl (rInt .i64))) _ _ _ _ := h133
 obtain ⟨Ai, Ci, rfl, Fi⟩ := un_sl h133
 rintro _ rfl
 rintro _ rfl
 have p135 : Step (ks [(k70, o71), (some b1, Obj.cells [(Value.int .i64 r_.slots), (Value.slice Aa r_.owners.length Ca), (Value.slice Ab r_.costs.length Cb)].toArray 25)] O) w64 (ks [(k70, o71), (some b1, Obj.cells [(Value.int .i64 r_.slots), (Value.slice Aa r_.owners.length Ca), (Value.slice Ab r_.costs.length Cb)].toArray 25)] O) w119 := hst123.trans p124
 replace Fh := Fh.step p124; replace Fi := Fi.step p124; replace Fa := Fa.step p135; replace Fb := Fb.step p135; replace Fc := Fc.step p135; replace f73 := f73.step p135; clear p135 hs67
 refine Rg_nil (Wp_block ?_)
 refine Wp_reset [] [(4, (Value.slice none 0 0)), (7, (Value.slice a68 costs_1.length c69)), (26, (Value.slice Ah costs_2.length Ch)), (27, (Value.int .i64 (costs_2.length : Int))), (28, (Value.int .i64 0))] rfl ⟨rfl, rfl, rfl, rfl, rfl, trivial⟩ fun ξ139 => ?_
 have hs144 := hs125.ghost (Obj.cells #[] 3)
 refine Wp_loopM [4, 8, 9, 28, 29, 30, 31, 32, 33, 34, 35, 36, 37, 38, 39, 40, 41, 42, 43] (fun m fr w' => ∃ (l_1 : List Int) (v_1 : Int) (Aj : Option Addr) (Cj : Nat) (k_g137 : Option Nat) (o_g137 : Obj) (Ebs : Ents), Ebs = [(k_g137, o_g137), (k70, o71), (some b1, Obj.cells [(Value.int .i64 r_.slots), (Value.slice Aa r_.owners.length Ca), (Value.slice Ab r_.costs.length Cb)].toArray 25)] ∧ fr [] [(4, (Value.slice Aj l_1.length Cj)), (28, (Value.int .i64 v_1))] ∧ Step (ks [(none, (Obj.cells #[] 3)), (k70, o71), (some b1, Obj.cells [(Value.int .i64 r_.slots), (Value.slice Aa r_.owners.length Ca), (Value.slice Ab r_.costs.length Cb)].toArray 25)] O) w119 (ks Ebs O) w' ∧ St ⟨w, [], []⟩ O w' Ebs ∧ Gs (rInt .i64) 3 w' (ks Ebs O) Aj Cj l_1 k_g137 o_g137 ∧ InK .i64 v_1 ∧ loop2 (m27_coalition_Worse_B0 costs_1 costs_2) m l_1 v_1 = some x) (((costs_2.length : Int) - 0).toNat + 1) ⟨([] : List Int), 0, none, 0, none, (Obj.cells #[] 3), _, rfl, ⟨Out.refl _ _, rfl, rfl, rfl, trivial⟩, Step.refl _ _, hs144, Gs.nil_, (show InK .i64 0 from by decide), hm⟩ ?_ ?_
 rintro _ _ ⟨_, _, _, _, _, _, _, _, _, _, _, _, _, hm⟩; exact loop2_z hm
 rintro m143 K142 hK142 ρ150 w146 ⟨l_1, v_1, Aj, Cj, k_g137, o_g137, Ebs, hEbs, hfr149, hst148, hs147, Fj, Rd, hm⟩
 obtain ⟨sf140, hsf141, hm⟩ := loop2_s hm; unfold m27_coalition_Worse_B0 at hm
 subst hEbs; rw [hfr149.eq]; clear hfr149
 replace Fa := Fa.step hst148; replace Fb := Fb.step hst148; replace Fc := Fc.step hst148; replace f73 := f73.step hst148; replace Fh := Fh.step hst148; replace Fi := Fi.step hst148
 have ch151 := hst148
 refine Wp_seq ?_
 clear Fc Fi
 refine Wp_region ?_
 refine Rg_op rfl (op_lss rfl rfl ?_)
 refine Rg_nil (Wp_seq ?_)
 refine Wp_cond rfl (fun hc152 => ?_) (fun hc152 => ?_)
 replace hm := bif_t hm hc152
 refine Wp_skip (Wp_seq (Wp_block (Wp_seq (Wp_region ?_))))
 refine Rg_op rfl (op_move (v := (Value.int .i64 v_1)) rfl ?_)
 replace hm := ck_some hm; obtain ⟨hc153, hm⟩ := hm
 refine Rg_op rfl (op_indexAddr (q := (rInt .i64)) ty22 ty3 rfl rfl Fh rfl hc153.1 hc153.2 ?_)
 intro p154 f155
 refine Rg_op rfl (op_loadP ty3 rfl f155 rfl ?_)
 intro v156 h157
 obtain ⟨rfl, Re⟩ := un_int h157
 refine Rg_op rfl (op_assign (v := (Value.int .i64 v_1)) rfl ?_)
 refine Rg_op rfl (op_assign (v := (Value.int .i64 (costs_2.getD v_1.toNat default))) rfl ?_)
 refine Rg_nil (Wp_seq ?_)
 clear f155
 refine Wp_region ?_
 refine Rg_op rfl (op_move (v := (Value.int .i64 (costs_2.getD v_1.toNat default))) rfl ?_)
 refine Rg_op rfl (op_move (v := (Value.slice a68 costs_1.length c69)) rfl ?_)
 refine Rg_op rfl (op_move (v := (Value.int .i64 v_1)) rfl ?_)
 replace hm := ck_some hm; obtain ⟨hc159, hm⟩ := hm
 refine Rg_op rfl (op_indexAddrG ty22 ty3 rfl rfl f73 hc159 ?_)
 rintro b160 rfl rfl
 refine Rg_op rfl (op_loadG (m := v_1) (i := 1) ty3 rfl hs147 rfl rfl f73 hc159 ?_)
 intro v161 h162
 obtain ⟨rfl, Rf⟩ := un_int h162
 refine Rg_op rfl (op_gtr rfl rfl ?_)
 refine Rg_nil ?_
 refine Wp_cond rfl (fun hc164 => ?_) (fun hc164 => ?_)
 replace hm := bif_t hm hc164
 refine Wp_region ?_
 refine Rg_op rfl (op_move (v := (Value.slice Aj l_1.length Cj)) rfl ?_)
 refine Rg_op rfl (op_move (v := (Value.int .i64 v_1)) rfl ?_)
 refine Rg_op rfl (op_buildSlice (cs := [(Value.int .i64 v_1)]) (parts := [(0, .tmp 40)]) ty22 ty3 hs147 (by decide) rfl ?_)
 intro b165 w166 hx169 p167 hs168
 replace Fa := Fa.step p167; replace Fb := Fb.step p167; replace f73 := f73.step p167; replace Fh := Fh.step p167; replace Fj := Fj.step p167; replace ch151 := ch151.trans p167; clear p167 hs147
 replace hm := ck_some hm; obtain ⟨hc171, hm⟩ := hm
 refine Rg_op rfl (op_append (q := (rInt .i64)) (i := 1) (xs := l_1) (ys := [v_1]) (news := [(Value.int .i64 v_1)]) ty22 ty3 rfl (by decide) hs168 rfl rfl Fj rfl (Src.owned' (len := 1) (hs168.get (i := 0) rfl) rfl) (show Els (rInt .i64) _ _ [(Value.int .i64 v_1)] [v_1] from ⟨_, _, rfl, (mk_int Rd), Els.nil⟩) hc171 (by have := hc171; simp only [maxLen]; omega) ?_)
 intro a175 c176 k177 o178 w172 p173 hs174 f179
 replace Fa := Fa.step p173; replace Fb := Fb.step p173; replace f73 := f73.step p173; replace Fh := Fh.step p173; replace ch151 := ch151.trans p173; clear p173 hs168
 have hs180 := hs174.drop 0
 replace Fa := Fa.step (hs174.dropS 0)
 replace Fb := Fb.step (hs174.dropS 0)
 replace f73 := f73.step (hs174.dropS 0)
 replace Fh := Fh.step (hs174.dropS 0)
 replace f179 := f179.step (hs174.dropS 0)
 replace ch151 := ch151.trans (hs174.dropS 0); clear hs174
 refine Rg_op rfl (op_assign (v := (Value.slice a175 (l_1 ++ [v_1]).length c176)) rfl ?_)
 refine Rg_nil (Wp_region ?_)
 refine Rg_op rfl (op_addw rfl rfl ?_)
 refine Rg_op rfl (op_move (v := (Value.int .i64 (IntKind.wrap .i64 (v_1 + 1)))) rfl ?_)
 refine Rg_nil ?_
 exact hK142 _ _ ⟨(l_1 ++ [v_1]), (IntKind.wrap .i64 (v_1 + 1)), a175, c176, k177, o178, _, rfl, ⟨(by repeat (first | with_reducible exact Out.refl _ _ | refine Out.upd ?_ rfl | refine Out.updL ?_ rfl | refine Out.mix' ?_ rfl | exact Out.refl _ _)), rfl, rfl, rfl, trivial⟩, ch151, hs180, f179, (inK_wrap .i64 _), jnE2 hsf141 hm⟩
 replace hm := bif_f hm hc164
 refine Wp_skip (Wp_region ?_)
 refine Rg_op rfl (op_addw rfl rfl ?_)
 refine Rg_op rfl (op_move (v := (Value.int .i64 (IntKind.wrap .i64 (v_1 + 1)))) rfl ?_)
 refine Rg_nil ?_
 exact hK142 _ _ ⟨l_1, (IntKind.wrap .i64 (v_1 + 1)), Aj, Cj, k_g137, o_g137, _, rfl, ⟨(by repeat (first | with_reducible exact Out.refl _ _ | refine Out.upd ?_ rfl | refine Out.updL ?_ rfl | refine Out.mix' ?_ rfl | exact Out.refl _ _)), rfl, rfl, rfl, trivial⟩, ch151, hs147, Fj, (inK_wrap .i64 _), jnE2 hsf141 hm⟩
 replace hm := bif_f hm hc152
 refine Wp_exit (Wp_seq ?_)
 obtain ⟨hs181, p182⟩ := hs147.sub (bs' := [(k_g137, o_g137)]) (.cons_cons _ (.cons _ (.cons _ List.Sublist.slnil)))
 clear Fa Fb f73 Fh
 replace Fj := Fj.step p182; replace ch151 := ch151.trans p182; clear p182 hs147
 refine Wp_region ?_
 refine Rg_op rfl (op_move (v := (Value.slice Aj l_1.length Cj)) rfl ?_)
 refine Rg_op rfl (op_assign (v := (Value.slice Aj l_1.length Cj)) rfl ?_)
 refine Rg_op rfl (op_assign (v := (Value.int .i64 0)) rfl ?_)
 refine Rg_nil ?_
 refine Wp_ret ?_
 obtain ⟨hs184, p185, f183⟩ := Gs.publish (i := 0) hs181 rfl Fj
 replace ch151 := ch151.trans p185; clear p185 hs181
 have hz := step_all hs184
 replace f183 := f183.step hz
 refine ⟨_, (show Closes [] _ _ from rfl), [(Value.slice Aj l_1.length Cj), (Value.int .i64 0)], ⟨rfl, rfl, trivial⟩, hs184.ext, ?_⟩
 exact Vr.eq (a := (vT2 (vC (rSl (rInt .i64))) (vI .i64))) (x := (l_1, 0)) (mkT2 (mkC (mk_sl f183)) ⟨rfl, (show InK .i64 0 from by decide)⟩) (Option.some.inj hm)

def m40_slices_Cloneint_int_ (s : List Int) : Option (List Int) :=
 ck ((([] : List Int).length + s.length) * 8 ≤ 140737488355328) <|
 some (([] : List Int) ++ s)

theorem g40_slices_Cloneint_int_ {w : World} {O : List Nat} {s : List Int} {Aa : Option Addr} {Ca : Nat} (hO : ∀ k ∈ O, k < w.heap.size) (Fa : SlR (rInt .i64) w O Aa Ca s) {x : (List Int)} (hm : m40_slices_Cloneint_int_ s = some x) :
 OkG Try.prog 40 [(Value.slice Aa s.length Ca)] w O (rInt .i64) 3 x := by
 unfold m40_slices_Cloneint_int_ at hm
 refine Fn_of_Wp (n := 8) (xs := [.tmp 2]) Try.func40 rfl Try.ntmps40 Try.results40 rfl ?_
 have hs := St.start hO
 refine Wp_seq (Wp_region ?_)
 refine Rg_op rfl (op_assign (v := (Value.slice none 0 0)) rfl ?_)
 refine Rg_nil (Wp_seq (Wp_seq (Wp_region ?_)))
 refine Rg_op rfl (op_move (v := (Value.slice Aa s.length Ca)) rfl ?_)
 refine Rg_op rfl (op_eqnil Try.underlying22 rfl rfl ?_)
 refine Rg_nil ?_
 rcases Aa with _ | ad1
 have hnil2 := (Fa.nil rfl).1
 refine Wp_cond_t rfl ?_
 refine Wp_seq ?_
 clear Fa
 refine Wp_region ?_
 refine Rg_op rfl (op_assign (v := (Value.slice none 0 0)) rfl ?_)
 refine Rg_nil ?_
 refine Wp_ret ?_
 refine ⟨_, (show Closes [] _ _ from rfl), [(Value.slice none 0 0)], ⟨rfl, trivial⟩, hs.ext, ?_⟩
 exact OkG.mkNil (by simp [ck, hnil2] at hm; first | exact hm | (subst hm; simp [hnil2]) | simpa using hm)
 refine Wp_cond_f rfl ?_
 refine Wp_skip (Wp_seq (Wp_region ?_))
 refine Rg_op rfl (op_buildSlice (cs := []) (parts := []) ty22 ty3 hs (by decide) rfl ?_)
 intro b3 w4 hx7 p5 hs6
 replace Fa := Fa.step p5; clear p5
 refine Rg_op rfl (op_move (v := (Value.slice (some ad1) s.length Ca)) rfl ?_)
 have f9 := Gs.of_cells (p := (rInt .i64)) (e := 3) (bl := b3) (c := 0) (w := w4) (O := ks [(some b3, Obj.cells [].toArray 3)] O) (show Els (rInt .i64) _ _ [] [] from Els.nil) rfl (le_lit rfl)
 replace hm := ck_some hm; obtain ⟨hc10, hm⟩ := hm
 obtain ⟨ns11, he12, hr13⟩ := Fa.src
 refine Rg_op rfl (op_append (q := (rInt .i64)) (i := 0) (xs := ([] : List Int)) (ys := s) (news := ns11) ty22 ty3 rfl (by decide) hs6 rfl rfl f9 rfl hr13 he12 hc10 (by have := hc10; simp only [maxLen]; omega) ?_)
 intro a17 c18 k19 o20 w14 p15 hs16 f21
 replace Fa := Fa.step p15; clear p15 hs6
 refine Rg_op rfl (op_assign (v := (Value.slice a17 (([] : List Int) ++ s).length c18)) rfl ?_)
 refine Rg_nil ?_
 refine Wp_ret ?_
 refine ⟨_, (show Closes [] _ _ from rfl), [(Value.slice a17 (([] : List Int) ++ s).length c18)], ⟨rfl, trivial⟩, hs16.ext, ?_⟩
 exact OkG.mk (i := 0) hs16 rfl f21 (Option.some.inj hm)
theorem c40_slices_Cloneint_int_ {w : World} {O : List Nat} {s : List Int} {Aa : Option Addr} {Ca : Nat} (hO : ∀ k ∈ O, k < w.heap.size) (Fa : SlR (rInt .i64) w O Aa Ca s) {x : (List Int)} (hm : m40_slices_Cloneint_int_ s = some x) :
 Ok Try.prog 40 [(Value.slice Aa s.length Ca)] w O (vC (rSl (rInt .i64))) x :=
 (g40_slices_Cloneint_int_ hO Fa hm).ok hO

def m89_coalition_deviations_1_1_B0 (begin : List Int) (fv0_ : List Int) (fv2_ : XRound) (fv3_ : (List Int) → Option (List (List Int))) (sf66 : Int → Option (List (List Int))) (v_1 : Int) : Option (List (List Int)) :=
 bif (decide (v_1 < (fv0_.length : Int))) then
  ck ((0 : Int) ≤ v_1 ∧ v_1 < (fv0_.length : Int)) <|
  ck ((0 : Int) ≤ (begin.length : Int) ∧ (begin.length : Int) < (fv0_.length : Int)) <|
  ck ((0 : Int) ≤ (fv0_.getD begin.length default) ∧ (fv0_.getD begin.length default) < (fv2_.costs.length : Int)) <|
  ck ((0 : Int) ≤ (fv0_.getD v_1.toNat default) ∧ (fv0_.getD v_1.toNat default) < ((fv2_.costs.getD (fv0_.getD begin.length default).toNat default).length : Int)) <|
  bif (decide (0 ≤ ((fv2_.costs.getD (fv0_.getD begin.length default).toNat default).getD (fv0_.getD v_1.toNat default).toNat default))) then
   (m48_slices_Containsint_int_ begin (fv0_.getD v_1.toNat default)).bind fun contains_1 =>
   bif (!contains_1) then
    ck ((0 : Int) ≤ (begin.length : Int) ∧ (begin.length : Int) ≤ (begin.length : Int)) <|
    ck ((((begin.drop 0).take (begin.length - 0)).length + [(fv0_.getD v_1.toNat default)].length) * 8 ≤ 140737488355328) <|
    ck (0 < [(fv0_.getD v_1.toNat default)].length) <|
    apl (fv3_ (((begin.drop 0).take (begin.length - 0)) ++ [(fv0_.getD v_1.toNat default)])) (
    sf66 (IntKind.wrap .i64 (v_1 + 1)))
   else
    sf66 (IntKind.wrap .i64 (v_1 + 1))
  else
   sf66 (IntKind.wrap .i64 (v_1 + 1))
 else
  some ([] : List (List Int))

def m89_coalition_deviations_1_1 (begin : List Int) (fv0_ : List Int) (fv2_ : XRound) (fv3_ : (List Int) → Option (List (List Int))) : Option (List (List Int)) :=
 bif (decide ((begin.length : Int) = (fv0_.length : Int))) then
  (m40_slices_Cloneint_int_ begin).bind fun clone_1 =>
  yl clone_1 (
  some ([] : List (List Int)))
 else
  loop1 (m89_coalition_deviations_1_1_B0 begin fv0_ fv2_ fv3_) (((fv0_.length : Int) - 0).toNat + 1) 0

theorem c89_coalition_deviations_1_1 {w1 : World} {O1 : List Nat} {l : Nat} {begin : List Int} {fv0_ : List Int} {fv2_ : XRound} {fv3_ : (List Int) → Option (List (List Int))} {Aa : Option Addr} {Ca : Nat} {p_fv0_ : Addr} {p_fv1_ : Addr} {p_fv2_ : Addr} {p_fv3_ : Addr} (hO1 : ∀ k ∈ O1, k < w1.heap.size) (Fa : SlR (rInt .i64) w1 O1 Aa Ca begin) (Fb : PtR (rSl (rInt .i64)) w1 O1 p_fv0_ fv0_) (Fc : PtR (rVal (Value.func (.yield l) #[] #[]) rfl) w1 O1 p_fv1_ ()) (Fd : PtR rXRound w1 O1 p_fv2_ fv2_) (Fe : PtR (rSb Try.prog (enc1 (vC (rSl (rInt .i64)))) l (vC (rSl (rInt .i64)))) w1 O1 p_fv3_ fv3_) {J Jx : JP (List Int)} (hJ : Abides J) (hJx : Abides Jx) {L : List (List Int)} (hm : m89_coalition_deviations_1_1 begin fv0_ fv2_ fv3_ = some L) (hY : YieldsTo Try.prog (enc1 (vC (rSl (rInt .i64)))) L l J Jx) (h0 : J [] w1 O1 []) :
 Fn Try.prog 89 [(Value.slice Aa begin.length Ca), (Value.pointer (some p_fv0_)), (Value.pointer (some p_fv1_)), (Value.pointer (some p_fv2_)), (Value.pointer (some p_fv3_))] w1 fun u w2 => ∃ O2, (u = .bool true ∧ J L w2 O2 []) ∨ (u = .bool false ∧ ∃ pre, Jx pre w2 O2 []) := by
 unfold m89_coalition_deviations_1_1 at hm
 obtain ⟨x, hm, hL⟩ : ∃ x, _ = some x ∧ L = [] ++ x := ⟨L, hm, rfl⟩
 refine Fn_of_Wp (n := 57) (xs := [.tmp 6]) Try.func89 rfl Try.ntmps89 Try.results89 rfl ?_
 have hs := St.start hO1
 have hI := Itr.start h0
 refine Wp_seq (Wp_region ?_)
 refine Rg_op rfl (op_assign (v := (Value.bool false)) rfl ?_)
 refine Rg_nil (Wp_seq (Wp_region ?_))
 refine Rg_op rfl (op_move (v := (Value.slice Aa begin.length Ca)) rfl ?_)
 refine Rg_op rfl (op_len Try.underlying22 rfl ?_)
 have rl1 := inK_len Fa
 refine Rg_op rfl (op_assign (v := (Value.int .i64 (begin.length : Int))) rfl ?_)
 refine Rg_nil (Wp_seq (Wp_seq (Wp_region ?_)))
 refine Rg_op rfl (op_move (v := (Value.int .i64 (begin.length : Int))) rfl ?_)
 refine Rg_op rfl (op_loadP ty22 rfl Fb rfl ?_)
 intro v2 h3
 obtain ⟨Ab, Cb, rfl, Ff⟩ := un_sl h3
 refine Rg_op rfl (op_len Try.underlying22 rfl ?_)
 have rl5 := inK_len Ff
 refine Rg_op rfl (op_eql rfl rfl ?_)
 refine Rg_nil ?_
 refine Wp_cond rfl (fun hc6 => ?_) (fun hc6 => ?_)
 replace hm := bif_t hm hc6
 refine Wp_seq ?_
 clear Fb Fd Fe Ff
 refine Wp_drawR (g0 := []) (m := 3) (fl := []) (TS_inv hs) rfl (.inl rfl) rfl (by decide +kernel) ?_  -- 3
 refine Dw_eq (Value.func (.yield l) #[] #[]) (fun ρ7 w8 g hle hi ht => ?_) ?_
 obtain ⟨-, hst, -⟩ := hle
 replace Fc := Fc.step hst
 refine StepOp_plain (op_loadP ty71 (ht 2 rfl) Fc rfl ?_)
 intro v10 h11
 obtain rfl := un_val h11
 exact Goes.same hi rfl
 refine Dw_eq (Value.slice Aa begin.length Ca) (fun ρ12 w13 g hle hi ht => ?_) ?_
 obtain ⟨-, hst, -⟩ := hle
 refine StepOp_plain (op_move (v := (Value.slice Aa begin.length Ca)) (ht 0 rfl) ?_)
 exact Goes.same hi rfl
 replace hm := bd hm; obtain ⟨clone_1, hv18, hm⟩ := hm
 refine Dw_op (VD O1 [] (vC (rSl (rInt .i64))) clone_1) (VD.stab _ _) (fun ρ15 w16 g hle hi ht => ?_) ?_
 obtain ⟨-, hst, -⟩ := hle
 replace Fa := Fa.step hst
 refine StepOp_plain (op_call Try.call40 (c40_slices_Cloneint_int_ (O := ks (ents g ++ []) O1) (s := begin) hi.ltw Fa hv18) (by simp only [List.map, Array.toList, (show ev _ (.tmp 17) = _ from (ht 17 rfl))] <;> rfl) ?_)
 rintro v19 w20 ⟨hx21, h22⟩
 exact Goes.call hi hx21 h22
 refine Dw_nil fun w28 g29 hl30 hi31 => ?_
 obtain ⟨-, hst32, -⟩ := hl30
 obtain ⟨hs34, p33⟩ := Step.nx hi31
 rintro v35 h36
 replace h36 : Vr.vd (vC (rSl (rInt .i64))) _ _ _ _ := h36
 obtain ⟨Ac, Cc, rfl, Fg⟩ := un_sl h36
 rintro _ rfl
 rintro _ rfl
 have p38 : Step (ks [] O1) w1 (ks [] O1) w28 := hst32.trans p33
 replace Fg := Fg.step p33; replace Fa := Fa.step p38; replace Fc := Fc.step p38; clear p38
 replace hm := yl_elim hm; obtain ⟨xr39, hm, hL40⟩ := hm
 rw [hL40] at hL
 refine Rg_op rfl (op_yield (pre := ([] : List _)) (a := clone_1) rfl rfl hY hJ hI hs34 ⟨xr39, by rw [hL]; simp⟩ (show (enc1 (vC (rSl (rInt .i64)))) _ _ _ _ from ⟨_, rfl, (mkC (mk_sl Fg))⟩) ?_ ?_)
 intro w41 O42 hs43 p44 hI45
 replace Fa := Fa.step p44; replace Fc := Fc.step p44; replace Fg := Fg.step p44; clear p44 hs34
 have hL46 : L = (([] : List _) ++ [clone_1]) ++ xr39 := by rw [hL]; simp
 refine Rg_op rfl (op_assign (v := (Value.bool true)) rfl ?_)
 refine Rg_nil ?_
 refine Wp_ret ?_
 have h47 := hI45.fin hJ hs43
 rw [← Option.some.inj hm, List.append_nil] at hL46; rw [← hL46] at h47
 exact ⟨_, (show Closes [] _ _ from rfl), [Value.bool true], ⟨rfl, trivial⟩, _, .inl ⟨rfl, h47⟩⟩
 intro w48 O49 hs50 hI52
 refine Rg_op rfl (op_assign (v := (Value.bool false)) rfl ?_)
 refine Rg_nil ?_
 refine Wp_ret ?_
 exact ⟨_, (show Closes [] _ _ from rfl), [Value.bool false], ⟨rfl, trivial⟩, _, .inr ⟨rfl, _, hI52.fin hJx hs50⟩⟩
 replace hm := bif_f hm hc6
 refine Wp_skip (Wp_seq (Wp_seq ?_))
 clear Fc Ff
 refine Wp_region ?_
 refine Rg_op rfl (op_loadP ty22 rfl Fb rfl ?_)
 intro v53 h54
 obtain ⟨Ad, Cd, rfl, Fh⟩ := un_sl h54
 refine Rg_op rfl (op_len Try.underlying22 rfl ?_)
 have rl56 := inK_len Fh
 refine Rg_op rfl (op_move (v := (Value.int .i64 0)) rfl ?_)
 refine Rg_nil (Wp_block ?_)
 refine Wp_reset [] [(0, (Value.slice Aa begin.length Ca)), (1, (Value.pointer (some p_fv0_))), (3, (Value.pointer (some p_fv2_))), (4, (Value.pointer (some p_fv3_))), (7, (Value.int .i64 (begin.length : Int))), (20, (Value.slice Ad fv0_.length Cd)), (21, (Value.int .i64 (fv0_.length : Int))), (22, (Value.int .i64 0))] rfl ⟨rfl, rfl, rfl, rfl, rfl, rfl, rfl, rfl, trivial⟩ fun ξ65 => ?_
 refine Wp_loopM [6, 9, 22, 23, 24, 25, 26, 27, 28, 29, 30, 31, 32, 33, 34, 35, 36, 37, 38, 39, 40, 41, 42, 43, 44, 45, 46, 47, 48, 49, 50, 51, 52, 53, 54, 55, 56] (fun m fr w' => ∃ (v_1 : Int) (xr58 pre59 : List (List Int)) (wz60 : World) (Kz61 Oz62 : List Nat) (Ebs : Ents), Ebs = [] ∧ fr [] [(22, (Value.int .i64 v_1))] ∧ Step (ks [] O1) w1 (ks Ebs Oz62) w' ∧ St ⟨wz60, Kz61, []⟩ Oz62 w' Ebs ∧ InK .i64 v_1 ∧ Itr J pre59 ⟨wz60, Kz61, []⟩ Oz62 ∧ L = pre59 ++ xr58 ∧ loop1 (m89_coalition_deviations_1_1_B0 begin fv0_ fv2_ fv3_) m v_1 = some xr58) (((fv0_.length : Int) - 0).toNat + 1) ⟨0, x, ([] : List _), w1, [], O1, _, rfl, ⟨Out.refl _ _, rfl, rfl, trivial⟩, Step.refl _ _, hs, (show InK .i64 0 from by decide), hI, hL, hm⟩ ?_ ?_
 rintro _ _ ⟨_, _, _, _, _, _, _, _, _, _, _, _, _, _, hm⟩; exact loop1_z hm
 rintro m69 K68 hK68 ρ74 w70 ⟨v_1, xr58, pre59, wz60, Kz61, Oz62, Ebs, hEbs, hfr73, hst72, hs71, Ra, hI63, hL64, hm⟩
 obtain ⟨sf66, hsf67, hm⟩ := loop1_s hm; unfold m89_coalition_deviations_1_1_B0 at hm
 subst hEbs; rw [hfr73.eq]; clear hfr73
 replace Fa := Fa.step hst72; replace Fb := Fb.step hst72; replace Fd := Fd.step hst72; replace Fe := Fe.step hst72; replace Fh := Fh.step hst72
 have ch75 := hst72
 refine Wp_seq (Wp_region ?_)
 refine Rg_op rfl (op_lss rfl rfl ?_)
 refine Rg_nil (Wp_seq ?_)
 refine Wp_cond rfl (fun hc76 => ?_) (fun hc76 => ?_)
 replace hm := bif_t hm hc76
 refine Wp_skip (Wp_seq (Wp_block (Wp_seq (Wp_region ?_))))
 replace hm := ck_some hm; obtain ⟨hc77, hm⟩ := hm
 refine Rg_op rfl (op_indexAddr (q := (rInt .i64)) ty22 ty3 rfl rfl Fh rfl hc77.1 hc77.2 ?_)
 intro p78 f79
 refine Rg_op rfl (op_loadP ty3 rfl f79 rfl ?_)
 intro v80 h81
 obtain ⟨rfl, Rb⟩ := un_int h81
 refine Rg_op rfl (op_assign (v := (Value.int .i64 (fv0_.getD v_1.toNat default))) rfl ?_)
 refine Rg_nil (Wp_seq ?_)
 clear f79
 refine Wp_drawR (g0 := []) (m := 27) (fl := []) (TS_inv hs71) rfl (.inl rfl) rfl (by decide +kernel) ?_  -- 7
 refine Dw_op (VP Oz62 [] (rSl (rSl (rInt .i64))) fv2_.costs) (VP.stab _ _) (fun ρ83 w84 g hle hi ht => ?_) ?_
 obtain ⟨-, hst, -⟩ := hle
 replace Fd := Fd.step hst
 refine StepOp_plain (op_fieldAddr ty25 rfl ty23 (by decide) (ht 3 rfl) rfl ?_)
 have f86 := Fd.via.snd.snd
 exact Goes.same hi ⟨_, rfl, f86⟩
 refine Dw_op (VD Oz62 [] (vC (rSl (rSl (rInt .i64)))) fv2_.costs) (VD.stab _ _) (fun ρ87 w88 g hle hi ht => ?_) ?_
 obtain ⟨-, hst, -⟩ := hle
 obtain ⟨p90, q91, f92⟩ := ht 26 rfl
 refine StepOp_plain (op_loadP ty23 q91 f92 rfl ?_)
 intro v93 h94
 obtain ⟨Ae, Ce, rfl, Fi⟩ := un_sl h94
 exact Goes.same hi (show Vr.vd (vC (rSl (rSl (rInt .i64)))) _ _ _ _ from (mkC (mk_sl Fi)))
 refine Dw_op (VD Oz62 [] (vC (rSl (rInt .i64))) fv0_) (VD.stab _ _) (fun ρ96 w97 g hle hi ht => ?_) ?_
 obtain ⟨-, hst, -⟩ := hle
 replace Fb := Fb.step hst
 refine StepOp_plain (op_loadP ty22 (ht 1 rfl) Fb rfl ?_)
 intro v99 h100
 obtain ⟨Af, Cf, rfl, Fj⟩ := un_sl h100
 exact Goes.same hi (show Vr.vd (vC (rSl (rInt .i64))) _ _ _ _ from (mkC (mk_sl Fj)))
 refine Dw_eq (Value.int .i64 (begin.length : Int)) (fun ρ102 w103 g hle hi ht => ?_) ?_
 obtain ⟨-, hst, -⟩ := hle
 refine StepOp_plain (op_move (v := (Value.int .i64 (begin.length : Int))) (ht 7 rfl) ?_)
 exact Goes.same hi rfl
 replace hm := ck_some hm; obtain ⟨hc111, hm⟩ := hm
 refine Dw_op (VP Oz62 [] (rInt .i64) (fv0_.getD begin.length default)) (VP.stab _ _) (fun ρ105 w106 g hle hi ht => ?_) ?_
 obtain ⟨-, hst, -⟩ := hle
 have h108 : Vr.vd (vC (rSl (rInt .i64))) _ _ _ _ := ht 28 rfl
 obtain ⟨Ag, Cg, q109, Fk⟩ := un_sl h108
 refine StepOp_plain (op_indexAddr (q := (rInt .i64)) ty22 ty3 q109 (ht 29 rfl) Fk rfl hc111.1 hc111.2 ?_)
 intro p112 f113
 exact Goes.same hi ⟨_, rfl, f113⟩
 refine Dw_op (VD Oz62 [] (vI .i64) (fv0_.getD begin.length default)) (VD.stab _ _) (fun ρ114 w115 g hle hi ht => ?_) ?_
 obtain ⟨-, hst, -⟩ := hle
 obtain ⟨p117, q118, f119⟩ := ht 30 rfl
 refine StepOp_plain (op_loadP ty3 q118 f119 rfl ?_)
 intro v120 h121
 obtain ⟨rfl, Rc⟩ := un_int h121
 exact Goes.same hi (show Vr.vd (vI .i64) _ _ _ _ from ⟨rfl, Rc⟩)
 replace hm := ck_some hm; obtain ⟨hc132, hm⟩ := hm
 refine Dw_op (VP Oz62 [] (rSl (rInt .i64)) (fv2_.costs.getD (fv0_.getD begin.length default).toNat default)) (VP.stab _ _) (fun ρ123 w124 g hle hi ht => ?_) ?_
 obtain ⟨-, hst, -⟩ := hle
 have h126 : Vr.vd (vC (rSl (rSl (rInt .i64)))) _ _ _ _ := ht 27 rfl
 obtain ⟨Ah, Ch, q127, Fl⟩ := un_sl h126
 have h129 : Vr.vd (vI .i64) _ _ _ _ := ht 31 rfl
 obtain ⟨q130, Rd⟩ := h129
 refine StepOp_plain (op_indexAddr (q := (rSl (rInt .i64))) ty23 ty22 q127 q130 Fl rfl hc132.1 hc132.2 ?_)
 intro p133 f134
 exact Goes.same hi ⟨_, rfl, f134⟩
 refine Dw_op (VD Oz62 [] (vC (rSl (rInt .i64))) (fv2_.costs.getD (fv0_.getD begin.length default).toNat default)) (VD.stab _ _) (fun ρ135 w136 g hle hi ht => ?_) ?_
 obtain ⟨-, hst, -⟩ := hle
 obtain ⟨p138, q139, f140⟩ := ht 32 rfl
 refine StepOp_plain (op_loadP ty22 q139 f140 rfl ?_)
 intro v141 h142
 obtain ⟨Ai, Ci, rfl, Fm⟩ := un_sl h142
 exact Goes.same hi (show Vr.vd (vC (rSl (rInt .i64))) _ _ _ _ from (mkC (mk_sl Fm)))
 refine Dw_eq (Value.int .i64 (fv0_.getD v_1.toNat default)) (fun ρ144 w145 g hle hi ht => ?_) ?_
 obtain ⟨-, hst, -⟩ := hle
 refine StepOp_plain (op_move (v := (Value.int .i64 (fv0_.getD v_1.toNat default))) (ht 9 rfl) ?_)
 exact Goes.same hi rfl
 replace hm := ck_some hm; obtain ⟨hc153, hm⟩ := hm
 refine Dw_op (VP Oz62 [] (rInt .i64) ((fv2_.costs.getD (fv0_.getD begin.length default).toNat default).getD (fv0_.getD v_1.toNat default).toNat default)) (VP.stab _ _) (fun ρ147 w148 g hle hi ht => ?_) ?_
 obtain ⟨-, hst, -⟩ := hle
 have h150 : Vr.vd (vC (rSl (rInt .i64))) _ _ _ _ := ht 33 rfl
 obtain ⟨Aj, Cj, q151, Fo⟩ := un_sl h150
 refine StepOp_plain (op_indexAddr (q := (rInt .i64)) ty22 ty3 q151 (ht 34 rfl) Fo rfl hc153.1 hc153.2 ?_)
 intro p154 f155
 exact Goes.same hi ⟨_, rfl, f155⟩
 refine Dw_op (VD Oz62 [] (vI .i64) ((fv2_.costs.getD (fv0_.getD begin.length default).toNat default).getD (fv0_.getD v_1.toNat default).toNat default)) (VD.stab _ _) (fun ρ156 w157 g hle hi ht => ?_) ?_
 obtain ⟨-, hst, -⟩ := hle
 obtain ⟨p159, q160, f161⟩ := ht 35 rfl
 refine StepOp_plain (op_loadP ty3 q160 f161 rfl ?_)
 intro v162 h163
 obtain ⟨rfl, Re⟩ := un_int h163
 exact Goes.same hi (show Vr.vd (vI .i64) _ _ _ _ from ⟨rfl, Re⟩)
 refine Dw_eq (Value.bool (decide (0 ≤ ((fv2_.costs.getD (fv0_.getD begin.length default).toNat default).getD (fv0_.getD v_1.toNat default).toNat default)))) (fun ρ165 w166 g hle hi ht => ?_) ?_
 obtain ⟨-, hst, -⟩ := hle
 have h168 : Vr.vd (vI .i64) _ _ _ _ := ht 36 rfl
 obtain ⟨q169, Rf⟩ := h168
 refine StepOp_plain (op_geq q169 rfl ?_)
 exact Goes.same hi rfl
 refine Dw_opB (decide (0 ≤ ((fv2_.costs.getD (fv0_.getD begin.length default).toNat default).getD (fv0_.getD v_1.toNat default).toNat default))) (fun ρ171 w172 g hle hi ht => ?_) (fun hg174 => ?_) (fun hg174 => ?_)
 obtain ⟨-, hst, -⟩ := hle
 refine StepOp_plain (op_move (v := (Value.bool (decide (0 ≤ ((fv2_.costs.getD (fv0_.getD begin.length default).toNat default).getD (fv0_.getD v_1.toNat default).toNat default))))) (ht 37 rfl) ?_)
 exact Goes.same hi rfl
 replace hm := bif_t hm hg174
 refine Dw_eq (Value.slice Aa begin.length Ca) (fun ρ175 w176 g hle hi ht => ?_) ?_
 obtain ⟨-, hst, -⟩ := hle
 refine StepOp_g rfl (ht 38 rfl) (op_move (v := (Value.slice Aa begin.length Ca)) (ht 0 rfl) ?_)
 exact Goes.same hi rfl
 refine Dw_eq (Value.int .i64 (fv0_.getD v_1.toNat default)) (fun ρ178 w179 g hle hi ht => ?_) ?_
 obtain ⟨-, hst, -⟩ := hle
 refine StepOp_g rfl (ht 38 rfl) (op_move (v := (Value.int .i64 (fv0_.getD v_1.toNat default))) (ht 9 rfl) ?_)
 exact Goes.same hi rfl
 replace hm := bd hm; obtain ⟨contains_1, hv184, hm⟩ := hm
 refine Dw_op (VD Oz62 [] vB contains_1) (VD.stab _ _) (fun ρ181 w182 g hle hi ht => ?_) ?_
 obtain ⟨-, hst, -⟩ := hle
 replace Fa := Fa.step hst
 refine StepOp_g rfl (ht 38 rfl) (op_call Try.call48 (c48_slices_Containsint_int_ (O := ks (ents g ++ []) Oz62) (s := begin) (v := (fv0_.getD v_1.toNat default)) hi.ltw Fa Rb hv184) (by simp only [List.map, Array.toList, (show ev _ (.tmp 39) = _ from (ht 39 rfl)), (show ev _ (.tmp 40) = _ from (ht 40 rfl))] <;> rfl) ?_)
 rintro v185 w186 ⟨hx187, h188⟩
 exact Goes.call hi hx187 h188
 refine Dw_eq (Value.bool (!contains_1)) (fun ρ190 w191 g hle hi ht => ?_) ?_
 obtain ⟨-, hst, -⟩ := hle
 have h193 : Vr.vd vB _ _ _ _ := ht 41 rfl
 have q194 : _ = (Value.bool contains_1) := h193
 refine StepOp_g rfl (ht 38 rfl) (op_not q194 ?_)
 exact Goes.same hi rfl
 refine Dw_eq (Value.bool (!contains_1)) (fun ρ196 w197 g hle hi ht => ?_) ?_
 obtain ⟨-, hst, -⟩ := hle
 refine StepOp_plain (op_pick_t (v := (Value.bool (!contains_1))) (ht 38 rfl) (ht 42 rfl) ?_)
 exact Goes.same hi rfl
 refine Dw_opB (!contains_1) (fun ρ199 w200 g hle hi ht => ?_) (fun hg202 => ?_) (fun hg202 => ?_)
 obtain ⟨-, hst, -⟩ := hle
 refine StepOp_plain (op_move (v := (Value.bool (!contains_1))) (ht 43 rfl) ?_)
 exact Goes.same hi rfl
 replace hm := bif_t hm hg202
 refine Dw_op (VD Oz62 [] (vSb Try.prog (enc1 (vC (rSl (rInt .i64)))) l (vC (rSl (rInt .i64)))) fv3_) (VD.stab _ _) (fun ρ203 w204 g hle hi ht => ?_) ?_
 obtain ⟨-, hst, -⟩ := hle
 replace Fe := Fe.step hst
 refine StepOp_g rfl (ht 44 rfl) (op_loadP ty71 (ht 4 rfl) Fe rfl ?_)
 intro v206 h207
 have F208 := un_sb h207; clear h207
 exact Goes.same hi (show Vr.vd (vSb Try.prog (enc1 (vC (rSl (rInt .i64)))) l (vC (rSl (rInt .i64)))) _ _ _ _ from F208)
 refine Dw_eq (Value.slice Aa begin.length Ca) (fun ρ209 w210 g hle hi ht => ?_) ?_
 obtain ⟨-, hst, -⟩ := hle
 refine StepOp_g rfl (ht 44 rfl) (op_move (v := (Value.slice Aa begin.length Ca)) (ht 0 rfl) ?_)
 exact Goes.same hi rfl
 refine Dw_eq (Value.int .i64 (begin.length : Int)) (fun ρ212 w213 g hle hi ht => ?_) ?_
 obtain ⟨-, hst, -⟩ := hle
 refine StepOp_g rfl (ht 44 rfl) (op_move (v := (Value.int .i64 (begin.length : Int))) (ht 7 rfl) ?_)
 exact Goes.same hi rfl
 refine Dw_eq (Value.int .i64 (begin.length : Int)) (fun ρ215 w216 g hle hi ht => ?_) ?_
 obtain ⟨-, hst, -⟩ := hle
 refine StepOp_g rfl (ht 44 rfl) (op_move (v := (Value.int .i64 (begin.length : Int))) (ht 7 rfl) ?_)
 exact Goes.same hi rfl
 replace hm := ck_some hm; obtain ⟨hc221, hm⟩ := hm
 refine Dw_op (VD Oz62 [] (vCl (rInt .i64)) ((begin.drop 0).take (begin.length - 0))) (VD.stab _ _) (fun ρ218 w219 g hle hi ht => ?_) ?_
 obtain ⟨-, hst, -⟩ := hle
 replace Fa := Fa.step hst
 refine StepOp_g rfl (ht 44 rfl) (op_slice (q := (rInt .i64)) (l := 0) (h := begin.length) (m := begin.length) ty22 ty3 (ht 46 rfl) Fa rfl rfl (bndI (ht 47 rfl) (by omega)) (bndI (ht 48 rfl) (by omega)) (by decide) (by omega) (by omega) (by have h_ : begin.length ≤ Ca := Fa.le; omega) (by have h_ : begin.length ≤ Ca := Fa.le; omega) ?_)
 intro a222 f223
 exact Goes.same hi (show Vr.vd (vCl (rInt .i64)) _ _ _ _ from mkCl f223 (by simp <;> omega))
 refine Dw_eq (Value.int .i64 (fv0_.getD v_1.toNat default)) (fun ρ224 w225 g hle hi ht => ?_) ?_
 obtain ⟨-, hst, -⟩ := hle
 refine StepOp_g rfl (ht 44 rfl) (op_move (v := (Value.int .i64 (fv0_.getD v_1.toNat default))) (ht 9 rfl) ?_)
 exact Goes.same hi rfl
 refine Dw_op (VD Oz62 [] (vC (rSl (rInt .i64))) [(fv0_.getD v_1.toNat default)]) (VD.stab _ _) (fun ρ227 w228 g hle hi ht => ?_) ?_
 obtain ⟨-, hst, -⟩ := hle
 replace Fa := Fa.step hst; replace Fb := Fb.step hst; replace Fd := Fd.step hst; replace Fe := Fe.step hst; replace Fh := Fh.step hst
 refine StepOp_g rfl (ht 44 rfl) (op_buildSlice (cs := [(Value.int .i64 (fv0_.getD v_1.toNat default))]) (parts := [(0, .tmp 50)]) ty22 ty3 hi (by decide) (by simp only [List.map, (show ev _ (.tmp 50) = _ from (ht 50 rfl))]; rfl) ?_)
 intro b230 w231 hx234 p232 hs233
 replace Fa := Fa.step p232; replace Fb := Fb.step p232; replace Fd := Fd.step p232; replace Fe := Fe.step p232; replace Fh := Fh.step p232
 obtain ⟨hs236, p237, f238⟩ := St.publish (q := (rInt .i64)) (i := 0) (o := 0) (c := 1) (xs := [(fv0_.getD v_1.toNat default)]) hs233 rfl (show Els (rInt .i64) _ _ [(Value.int .i64 (fv0_.getD v_1.toNat default))] [(fv0_.getD v_1.toNat default)] from ⟨_, _, rfl, (mk_int Rb), Els.nil⟩) (le_lit rfl) (le_lit rfl) (le_lit rfl)
 exact Goes.pub hi hs236 (Step.trans p232 p237) hx234 (show Vr.vd (vC (rSl (rInt .i64))) _ _ _ _ from mkC (mk_sl f238))
 replace hm := ck_some hm; obtain ⟨hc249, hm⟩ := hm
 replace hm := ck_some hm; obtain ⟨hc250, hm⟩ := hm
 refine Dw_op (VD Oz62 [] (vC (rSl (rInt .i64))) (((begin.drop 0).take (begin.length - 0)) ++ [(fv0_.getD v_1.toNat default)])) (VD.stab _ _) (fun ρ239 w240 g hle hi ht => ?_) ?_
 obtain ⟨-, hst, -⟩ := hle
 have h242 : Vr.vd (vCl (rInt .i64)) _ _ _ _ := ht 49 rfl
 obtain ⟨a244, q243, f245⟩ := h242
 have h246 : Vr.vd (vC (rSl (rInt .i64))) _ _ _ _ := ht 51 rfl
 obtain ⟨Ak, Ck, q247, Fp⟩ := un_sl h246
 obtain ⟨ns251, he252, hr253⟩ := Fp.src
 refine StepOp_g rfl (ht 44 rfl) (op_appendPX (q := (rInt .i64)) (xs := ((begin.drop 0).take (begin.length - 0))) (ys := [(fv0_.getD v_1.toNat default)]) (news := ns251) ty22 ty3 rfl (by decide) hi q243 f245 q247 hr253 he252 hc250 hc249 (by have := hc249; simp only [maxLen]; omega) ?_)
 intro a257 c258 w254 hx260 p255 hs256 f259; exact Goes.pub hi hs256 p255 hx260 (show Vr.vd (vC (rSl (rInt .i64))) _ _ _ _ from mkC (mk_sl f259))
 refine Dw_nil fun w265 g266 hl267 hi268 => ?_
 obtain ⟨-, hst269, -⟩ := hl267
 obtain ⟨hs271, p270⟩ := Step.nx hi268
 rintro v272 h273
 replace h273 : Vr.vd (vC (rSl (rInt .i64))) _ _ _ _ := h273
 obtain ⟨Al, Cl, rfl, Fq⟩ := un_sl h273
 rintro v275 h276
 replace h276 : Vr.vd (vC (rSl (rInt .i64))) _ _ _ _ := h276
 obtain ⟨Am, Cm, rfl, Fr⟩ := un_sl h276
 rintro _ rfl
 rintro v278 h279
 replace h279 : Vr.vd (vCl (rInt .i64)) _ _ _ _ := h279
 obtain ⟨a280, rfl, f281⟩ := h279
 rintro _ rfl
 rintro _ rfl
 rintro _ rfl
 rintro v282 h283
 replace h283 : Vr.vd (vSb Try.prog (enc1 (vC (rSl (rInt .i64)))) l (vC (rSl (rInt .i64)))) _ _ _ _ := h283
 have F285 := h283
 replace F285 : SubIt1 Try.prog (enc1 (vC (rSl (rInt .i64)))) l _ _ v282 (vC (rSl (rInt .i64))) fv3_ := F285
 rintro _ rfl
 rintro _ rfl
 rintro _ rfl
 rintro v286 h287
 replace h287 : Vr.vd vB _ _ _ _ := h287
 obtain rfl := h287
 rintro _ rfl
 rintro _ rfl
 rintro _ rfl
 rintro _ rfl
 rintro v289 h290
 replace h290 : Vr.vd (vI .i64) _ _ _ _ := h290
 obtain ⟨rfl, Rg⟩ := h290
 rintro _ ⟨p292, rfl, f293⟩
 rintro _ rfl
 rintro v294 h295
 replace h295 : Vr.vd (vC (rSl (rInt .i64))) _ _ _ _ := h295
 obtain ⟨An, Cn, rfl, Fs⟩ := un_sl h295
 rintro _ ⟨p297, rfl, f298⟩
 rintro v299 h300
 replace h300 : Vr.vd (vI .i64) _ _ _ _ := h300
 obtain ⟨rfl, Rh⟩ := h300
 rintro _ ⟨p302, rfl, f303⟩
 rintro _ rfl
 rintro v304 h305
 replace h305 : Vr.vd (vC (rSl (rInt .i64))) _ _ _ _ := h305
 obtain ⟨Ao, Co, rfl, Ft⟩ := un_sl h305
 rintro v307 h308
 replace h308 : Vr.vd (vC (rSl (rSl (rInt .i64)))) _ _ _ _ := h308
 obtain ⟨Ap, Cp, rfl, Fu⟩ := un_sl h308
 rintro _ ⟨p310, rfl, f311⟩
 have p312 : Step (ks [] Oz62) w70 (ks [] Oz62) w265 := hst269.trans p270
 replace Fq := Fq.step p270; replace Fr := Fr.step p270; replace f281 := f281.step p270; replace F285 := F285.step p270; replace f293 := f293.step p270; replace Fs := Fs.step p270; replace f298 := f298.step p270; replace f303 := f303.step p270; replace Ft := Ft.step p270; replace Fu := Fu.step p270; replace f311 := f311.step p270; replace Fa := Fa.step p312; replace Fb := Fb.step p312; replace Fd := Fd.step p312; replace Fe := Fe.step p312; replace Fh := Fh.step p312; replace ch75 := ch75.trans p312; clear p312 hs71
 replace hm := apl_elim hm; obtain ⟨A313, xr314, ha315, hm, hL316⟩ := hm
 rw [hL316] at hL64
 refine Rg_opg rfl rfl rfl (op_subcall (pre := pre59) (Lx := A313) rfl F285 rfl (show Vr.vd (vC (rSl (rInt .i64))) _ _ _ _ from (mkC (mk_sl Fq))) ha315 hY hJ hJx hI63 hs271 ⟨xr314, by rw [hL64]; simp⟩ ?_ ?_)
 intro w317 O318 hs319 p320 hI321
 replace Fa := Fa.step p320; replace Fb := Fb.step p320; replace Fd := Fd.step p320; replace Fe := Fe.step p320; replace Fh := Fh.step p320; replace Fq := Fq.step p320; replace Fr := Fr.step p320; replace f281 := f281.step p320; replace F285 := F285.step p320; replace f293 := f293.step p320; replace Fs := Fs.step p320; replace f298 := f298.step p320; replace f303 := f303.step p320; replace Ft := Ft.step p320; replace Fu := Fu.step p320; replace f311 := f311.step p320; replace ch75 := ch75.trans p320; clear p320 hs271
 have hL322 : L = (pre59 ++ A313) ++ xr314 := by rw [hL64]; simp
 refine Rg_opg rfl rfl rfl (op_not rfl ?_)
 refine Rg_op rfl (op_pick_t (v := (Value.bool false)) rfl rfl ?_)
 refine Rg_nil ?_
 refine Wp_cond_f rfl ?_
 refine Wp_skip ?_
 clear f293 Fs f298 f303 Ft Fu f311
 refine Wp_reset2 [6, 9, 22, 23, 24, 25, 26, 27, 28, 29, 30, 31, 32, 33, 34, 35, 36, 37, 38, 39, 40, 41, 42, 43, 44, 45, 46, 47, 48, 49, 50, 51, 52, 53, 54, 55, 56] [] (updL ⟨ξ65, []⟩ [(0, (Value.slice Aa begin.length Ca)), (1, (Value.pointer (some p_fv0_))), (3, (Value.pointer (some p_fv2_))), (4, (Value.pointer (some p_fv3_))), (7, (Value.int .i64 (begin.length : Int))), (20, (Value.slice Ad fv0_.length Cd)), (21, (Value.int .i64 (fv0_.length : Int))), (22, (Value.int .i64 0))]) [(22, (Value.int .i64 v_1)), (39, (Value.slice Aa begin.length Ca)), (40, (Value.int .i64 (fv0_.getD v_1.toNat default))), (41, (Value.bool contains_1)), (42, (Value.bool (!contains_1))), (45, v282), (46, (Value.slice Aa begin.length Ca)), (47, (Value.int .i64 (begin.length : Int))), (48, (Value.int .i64 (begin.length : Int))), (49, (Value.slice a280 ((begin.drop 0).take (begin.length - 0)).length (((begin.drop 0).take (begin.length - 0)).length))), (50, (Value.int .i64 (fv0_.getD v_1.toNat default))), (51, (Value.slice Am [(fv0_.getD v_1.toNat default)].length Cm)), (52, (Value.slice Al (((begin.drop 0).take (begin.length - 0)) ++ [(fv0_.getD v_1.toNat default)]).length Cl)), (53, (Value.bool true)), (54, (Value.bool false))] (by repeat (first | with_reducible exact Out.refl _ _ | refine Out.upd ?_ rfl | refine Out.updL ?_ rfl | refine Out.mix' ?_ rfl | exact Out.refl _ _)) rfl ⟨rfl, rfl, rfl, rfl, rfl, rfl, rfl, rfl, rfl, rfl, rfl, rfl, rfl, rfl, rfl, trivial⟩ fun ξ323 => ?_
 refine Wp_region ?_
 refine Rg_op rfl (op_addw rfl rfl ?_)
 refine Rg_op rfl (op_move (v := (Value.int .i64 (IntKind.wrap .i64 (v_1 + 1)))) rfl ?_)
 refine Rg_nil ?_
 exact hK68 _ _ ⟨(IntKind.wrap .i64 (v_1 + 1)), xr314, (pre59 ++ A313), w317, (List.filterMap Prod.fst []), O318, _, rfl, ⟨(by repeat (first | with_reducible exact Out.refl _ _ | refine Out.upd ?_ rfl | refine Out.updL ?_ rfl | refine Out.mix' ?_ rfl | exact Out.refl _ _)), rfl, rfl, trivial⟩, ch75, hs319, (inK_wrap .i64 _), hI321, hL322, jnE1 hsf67 hm⟩
 intro w324 O325 _ hs326 hI328
 refine Rg_opg rfl rfl rfl (op_not rfl ?_)
 refine Rg_op rfl (op_pick_t (v := (Value.bool true)) rfl rfl ?_)
 refine Rg_nil ?_
 refine Wp_cond_t rfl ?_
 refine Wp_seq ?_
 refine Wp_reset2 [6, 9, 22, 23, 24, 25, 26, 27, 28, 29, 30, 31, 32, 33, 34, 35, 36, 37, 38, 39, 40, 41, 42, 43, 44, 45, 46, 47, 48, 49, 50, 51, 52, 53, 54, 55, 56] [] (updL ⟨ξ65, []⟩ [(0, (Value.slice Aa begin.length Ca)), (1, (Value.pointer (some p_fv0_))), (3, (Value.pointer (some p_fv2_))), (4, (Value.pointer (some p_fv3_))), (7, (Value.int .i64 (begin.length : Int))), (20, (Value.slice Ad fv0_.length Cd)), (21, (Value.int .i64 (fv0_.length : Int))), (22, (Value.int .i64 0))]) [] (by repeat (first | with_reducible exact Out.refl _ _ | refine Out.upd ?_ rfl | refine Out.updL ?_ rfl | refine Out.mix' ?_ rfl | exact Out.refl _ _)) rfl trivial fun ξ329 => ?_
 refine Wp_region ?_
 refine Rg_op rfl (op_assign (v := (Value.bool false)) rfl ?_)
 refine Rg_nil ?_
 refine Wp_ret ?_
 exact ⟨_, (show Closes [] _ _ from rfl), [Value.bool false], ⟨rfl, trivial⟩, _, .inr ⟨rfl, _, hI328.fin hJx hs326⟩⟩
 replace hm := bif_f hm hg202
 refine Dw_skip (fun _ _ _ ht => wanted_x rfl (ht 44 rfl) rfl) ?_
 refine Dw_skip (fun _ _ _ ht => wanted_x rfl (ht 44 rfl) rfl) ?_
 refine Dw_skip (fun _ _ _ ht => wanted_x rfl (ht 44 rfl) rfl) ?_
 refine Dw_skip (fun _ _ _ ht => wanted_x rfl (ht 44 rfl) rfl) ?_
 refine Dw_skip (fun _ _ _ ht => wanted_x rfl (ht 44 rfl) rfl) ?_
 refine Dw_skip (fun _ _ _ ht => wanted_x rfl (ht 44 rfl) rfl) ?_
 refine Dw_skip (fun _ _ _ ht => wanted_x rfl (ht 44 rfl) rfl) ?_
 refine Dw_skip (fun _ _ _ ht => wanted_x rfl (ht 44 rfl) rfl) ?_
 refine Dw_nil fun w334 g335 hl336 hi337 => ?_
 obtain ⟨-, hst338, -⟩ := hl336
 obtain ⟨hs340, p339⟩ := Step.nx hi337
 rintro _ rfl
 rintro _ rfl
 rintro _ rfl
 rintro _ rfl
 rintro _ rfl
 rintro _ rfl
 rintro _ rfl
 rintro _ rfl
 rintro _ rfl
 rintro _ rfl
 rintro _ rfl
 rintro v341 h342
 replace h342 : Vr.vd vB _ _ _ _ := h342
 obtain rfl := h342
 rintro _ rfl
 rintro _ rfl
 rintro _ rfl
 rintro _ rfl
 rintro v344 h345
 replace h345 : Vr.vd (vI .i64) _ _ _ _ := h345
 obtain ⟨rfl, Ri⟩ := h345
 rintro _ ⟨p347, rfl, f348⟩
 rintro _ rfl
 rintro v349 h350
 replace h350 : Vr.vd (vC (rSl (rInt .i64))) _ _ _ _ := h350
 obtain ⟨Aq, Cq, rfl, Fv⟩ := un_sl h350
 rintro _ ⟨p352, rfl, f353⟩
 rintro v354 h355
 replace h355 : Vr.vd (vI .i64) _ _ _ _ := h355
 obtain ⟨rfl, Rj⟩ := h355
 rintro _ ⟨p357, rfl, f358⟩
 rintro _ rfl
 rintro v359 h360
 replace h360 : Vr.vd (vC (rSl (rInt .i64))) _ _ _ _ := h360
 obtain ⟨Ar, Cr, rfl, Fw⟩ := un_sl h360
 rintro v362 h363
 replace h363 : Vr.vd (vC (rSl (rSl (rInt .i64)))) _ _ _ _ := h363
 obtain ⟨As, Cs, rfl, Fx⟩ := un_sl h363
 rintro _ ⟨p365, rfl, f366⟩
 have p367 : Step (ks [] Oz62) w70 (ks [] Oz62) w334 := hst338.trans p339
 replace f348 := f348.step p339; replace Fv := Fv.step p339; replace f353 := f353.step p339; replace f358 := f358.step p339; replace Fw := Fw.step p339; replace Fx := Fx.step p339; replace f366 := f366.step p339; replace Fa := Fa.step p367; replace Fb := Fb.step p367; replace Fd := Fd.step p367; replace Fe := Fe.step p367; replace Fh := Fh.step p367; replace ch75 := ch75.trans p367; clear p367 hs71
 iterate 2 refine Rg_opx rfl (asB_ne rfl rfl) rfl ?_
 refine Rg_op rfl (op_pick_f (v := (Value.bool false)) rfl rfl ?_)
 refine Rg_nil ?_
 refine Wp_cond_f rfl ?_
 refine Wp_skip ?_
 clear f348 Fv f353 f358 Fw Fx f366
 refine Wp_reset2 [6, 9, 22, 23, 24, 25, 26, 27, 28, 29, 30, 31, 32, 33, 34, 35, 36, 37, 38, 39, 40, 41, 42, 43, 44, 45, 46, 47, 48, 49, 50, 51, 52, 53, 54, 55, 56] [] (updL ⟨ξ65, []⟩ [(0, (Value.slice Aa begin.length Ca)), (1, (Value.pointer (some p_fv0_))), (3, (Value.pointer (some p_fv2_))), (4, (Value.pointer (some p_fv3_))), (7, (Value.int .i64 (begin.length : Int))), (20, (Value.slice Ad fv0_.length Cd)), (21, (Value.int .i64 (fv0_.length : Int))), (22, (Value.int .i64 0))]) [(22, (Value.int .i64 v_1)), (39, (Value.slice Aa begin.length Ca)), (40, (Value.int .i64 (fv0_.getD v_1.toNat default))), (41, (Value.bool contains_1)), (42, (Value.bool (!contains_1)))] (by repeat (first | with_reducible exact Out.refl _ _ | refine Out.upd ?_ rfl | refine Out.updL ?_ rfl | refine Out.mix' ?_ rfl | exact Out.refl _ _)) rfl ⟨rfl, rfl, rfl, rfl, rfl, trivial⟩ fun ξ368 => ?_
 refine Wp_region ?_
 refine Rg_op rfl (op_addw rfl rfl ?_)
 refine Rg_op rfl (op_move (v := (Value.int .i64 (IntKind.wrap .i64 (v_1 + 1)))) rfl ?_)
 refine Rg_nil ?_
 exact hK68 _ _ ⟨(IntKind.wrap .i64 (v_1 + 1)), xr58, pre59, wz60, Kz61, Oz62, _, rfl, ⟨(by repeat (first | with_reducible exact Out.refl _ _ | refine Out.upd ?_ rfl | refine Out.updL ?_ rfl | refine Out.mix' ?_ rfl | exact Out.refl _ _)), rfl, rfl, trivial⟩, ch75, hs340, (inK_wrap .i64 _), hI63, hL64, jnE1 hsf67 hm⟩
 replace hm := bif_f hm hg174
 refine Dw_skip (fun _ _ _ ht => wanted_x rfl (ht 38 rfl) rfl) ?_
 refine Dw_skip (fun _ _ _ ht => wanted_x rfl (ht 38 rfl) rfl) ?_
 refine Dw_skip (fun _ _ _ ht => wanted_x rfl (ht 38 rfl) rfl) ?_
 refine Dw_skip (fun _ _ _ ht => wanted_x rfl (ht 38 rfl) rfl) ?_
 refine Dw_eq (Value.bool false) (fun ρ369 w370 g hle hi ht => ?_) ?_
 obtain ⟨-, hst, -⟩ := hle
 refine StepOp_plain (op_pick_f (v := (Value.bool false)) (ht 38 rfl) rfl ?_)
 exact Goes.same hi rfl
 refine Dw_eq (Value.bool false) (fun ρ372 w373 g hle hi ht => ?_) ?_
 obtain ⟨-, hst, -⟩ := hle
 refine StepOp_plain (op_move (v := (Value.bool false)) (ht 43 rfl) ?_)
 exact Goes.same hi rfl
 refine Dw_skip (fun _ _ _ ht => wanted_x rfl (ht 44 rfl) rfl) ?_
 refine Dw_skip (fun _ _ _ ht => wanted_x rfl (ht 44 rfl) rfl) ?_
 refine Dw_skip (fun _ _ _ ht => wanted_x rfl (ht 44 rfl) rfl) ?_
 refine Dw_skip (fun _ _ _ ht => wanted_x rfl (ht 44 rfl) rfl) ?_
 refine Dw_skip (fun _ _ _ ht => wanted_x rfl (ht 44 rfl) rfl) ?_
 refine Dw_skip (fun _ _ _ ht => wanted_x rfl (ht 44 rfl) rfl) ?_
 refine Dw_skip (fun _ _ _ ht => wanted_x rfl (ht 44 rfl) rfl) ?_
 refine Dw_skip (fun _ _ _ ht => wanted_x rfl (ht 44 rfl) rfl) ?_
 refine Dw_nil fun w379 g380 hl381 hi382 => ?_
 obtain ⟨-, hst383, -⟩ := hl381
 obtain ⟨hs385, p384⟩ := Step.nx hi382
 rintro _ rfl
 rintro _ rfl
 rintro _ rfl
 rintro _ rfl
 rintro _ rfl
 rintro _ rfl
 rintro _ rfl
 rintro _ rfl
 rintro _ rfl
 rintro _ rfl
 rintro _ rfl
 rintro _ rfl
 rintro _ rfl
 rintro _ rfl
 rintro _ rfl
 rintro _ rfl
 rintro v386 h387
 replace h387 : Vr.vd (vI .i64) _ _ _ _ := h387
 obtain ⟨rfl, Rk⟩ := h387
 rintro _ ⟨p389, rfl, f390⟩
 rintro _ rfl
 rintro v391 h392
 replace h392 : Vr.vd (vC (rSl (rInt .i64))) _ _ _ _ := h392
 obtain ⟨At, Ct, rfl, Fy⟩ := un_sl h392
 rintro _ ⟨p394, rfl, f395⟩
 rintro v396 h397
 replace h397 : Vr.vd (vI .i64) _ _ _ _ := h397
 obtain ⟨rfl, Rl⟩ := h397
 rintro _ ⟨p399, rfl, f400⟩
 rintro _ rfl
 rintro v401 h402
 replace h402 : Vr.vd (vC (rSl (rInt .i64))) _ _ _ _ := h402
 obtain ⟨Au, Cu, rfl, Fz⟩ := un_sl h402
 rintro v404 h405
 replace h405 : Vr.vd (vC (rSl (rSl (rInt .i64)))) _ _ _ _ := h405
 obtain ⟨Av, Cv, rfl, Fa1⟩ := un_sl h405
 rintro _ ⟨p407, rfl, f408⟩
 have p409 : Step (ks [] Oz62) w70 (ks [] Oz62) w379 := hst383.trans p384
 replace f390 := f390.step p384; replace Fy := Fy.step p384; replace f395 := f395.step p384; replace f400 := f400.step p384; replace Fz := Fz.step p384; replace Fa1 := Fa1.step p384; replace f408 := f408.step p384; replace Fa := Fa.step p409; replace Fb := Fb.step p409; replace Fd := Fd.step p409; replace Fe := Fe.step p409; replace Fh := Fh.step p409; replace ch75 := ch75.trans p409; clear p409 hs71
 iterate 2 refine Rg_opx rfl (asB_ne rfl rfl) rfl ?_
 refine Rg_op rfl (op_pick_f (v := (Value.bool false)) rfl rfl ?_)
 refine Rg_nil ?_
 refine Wp_cond_f rfl ?_
 refine Wp_skip ?_
 clear f390 Fy f395 f400 Fz Fa1 f408
 refine Wp_reset2 [6, 9, 22, 23, 24, 25, 26, 27, 28, 29, 30, 31, 32, 33, 34, 35, 36, 37, 38, 39, 40, 41, 42, 43, 44, 45, 46, 47, 48, 49, 50, 51, 52, 53, 54, 55, 56] [] (updL ⟨ξ65, []⟩ [(0, (Value.slice Aa begin.length Ca)), (1, (Value.pointer (some p_fv0_))), (3, (Value.pointer (some p_fv2_))), (4, (Value.pointer (some p_fv3_))), (7, (Value.int .i64 (begin.length : Int))), (20, (Value.slice Ad fv0_.length Cd)), (21, (Value.int .i64 (fv0_.length : Int))), (22, (Value.int .i64 0))]) [(22, (Value.int .i64 v_1))] (by repeat (first | with_reducible exact Out.refl _ _ | refine Out.upd ?_ rfl | refine Out.updL ?_ rfl | refine Out.mix' ?_ rfl | exact Out.refl _ _)) rfl ⟨rfl, trivial⟩ fun ξ410 => ?_
 refine Wp_region ?_
 refine Rg_op rfl (op_addw rfl rfl ?_)
 refine Rg_op rfl (op_move (v := (Value.int .i64 (IntKind.wrap .i64 (v_1 + 1)))) rfl ?_)
 refine Rg_nil ?_
 exact hK68 _ _ ⟨(IntKind.wrap .i64 (v_1 + 1)), xr58, pre59, wz60, Kz61, Oz62, _, rfl, ⟨(by repeat (first | with_reducible exact Out.refl _ _ | refine Out.upd ?_ rfl | refine Out.updL ?_ rfl | refine Out.mix' ?_ rfl | exact Out.refl _ _)), rfl, rfl, trivial⟩, ch75, hs385, (inK_wrap .i64 _), hI63, hL64, jnE1 hsf67 hm⟩
 replace hm := bif_f hm hc76
 refine Wp_exit (Wp_seq ?_)
 clear Fa Fb Fd Fe Fh
 refine Wp_region ?_
 refine Rg_op rfl (op_assign (v := (Value.bool true)) rfl ?_)
 refine Rg_nil ?_
 refine Wp_ret ?_
 have h411 := hI63.fin hJ hs71
 rw [← Option.some.inj hm, List.append_nil] at hL64; rw [← hL64] at h411
 exact ⟨_, (show Closes [] _ _ from rfl), [Value.bool true], ⟨rfl, trivial⟩, _, .inl ⟨rfl, h411⟩⟩

def m88_coalition_deviations_1 (fv0_ : List Int) (fv1_ : XRound) : Option (List (List Int)) :=
 apl ((fixO (fun fx20 x21 => m89_coalition_deviations_1_1 x21 fv0_ fv1_ fx20) 1000000) ([] : List Int)) (
 some ([] : List (List Int)))

theorem c88_coalition_deviations_1 {w : World} {O : List Nat} {fv0_ : List Int} {fv1_ : XRound} {p_fv0_ : Addr} {p_fv1_ : Addr} (hO : ∀ k ∈ O, k < w.heap.size) (Fa : PtR (rSl (rInt .i64)) w O p_fv0_ fv0_) (Fb : PtR rXRound w O p_fv1_ fv1_) {L : List (List Int)} (hm : m88_coalition_deviations_1 fv0_ fv1_ = some L) :
 IterF Try.prog w O 88 [(Value.pointer (some p_fv0_)), (Value.pointer (some p_fv1_))] (enc1 (vC (rSl (rInt .i64)))) L := by
 unfold m88_coalition_deviations_1 at hm
 obtain ⟨x, hm, hL⟩ : ∃ x, _ = some x ∧ L = [] ++ x := ⟨L, hm, rfl⟩
 intro w1 O1 hst0 hO1 l J Jx hJ hJx hY h0
 replace Fa := Fa.step hst0; replace Fb := Fb.step hst0
 refine Fn_of_Wp (n := 8) (xs := []) Try.func88 rfl Try.ntmps88 Try.results88 rfl ?_
 have hs := St.start hO1
 have hI := Itr.start h0
 refine Wp_seq (Wp_region ?_)
 refine Rg_op rfl (op_box (cs := [(Value.func (.yield l) #[] #[])]) hs rfl rfl ?_)
 intro b1 w2 _ p3 hs4
 replace Fa := Fa.step p3; replace Fb := Fb.step p3; clear p3
 refine Rg_nil (Wp_seq (Wp_region ?_))
 refine Rg_op rfl (op_alloc ty71 hs4 ?_)
 intro b6 w7 _ p8 hs9
 replace Fa := Fa.step p8; replace Fb := Fb.step p8; clear p8 hs4
 refine Rg_nil (Wp_seq (Wp_region ?_))
 obtain ⟨hs12, p13, f11⟩ := St.publishP (p := rVal (Value.func (.yield l) #[] #[]) rfl) (i := 1) (x := ()) hs9 rfl rfl
 replace Fa := Fa.step p13; replace Fb := Fb.step p13; clear p13 hs9
 refine Rg_op rfl (op_makeFunc' (a' := []) (c' := [(Value.pointer (some p_fv0_)), (Value.pointer (some (⟨b1, 0, none⟩ : Addr))), (Value.pointer (some p_fv1_)), (Value.pointer (some ⟨b6, 0, none⟩))]) rfl rfl ?_)
 refine Rg_op_ (op_store (cs := [Value.nilFunc]) (vs := [(Value.func (.func 89) #[] #[(Value.pointer (some p_fv0_)), (Value.pointer (some (⟨b1, 0, none⟩ : Addr))), (Value.pointer (some p_fv1_)), (Value.pointer (some ⟨b6, 0, none⟩))])]) (cs' := [(Value.func (.func 89) #[] #[(Value.pointer (some p_fv0_)), (Value.pointer (some (⟨b1, 0, none⟩ : Addr))), (Value.pointer (some p_fv1_)), (Value.pointer (some ⟨b6, 0, none⟩))])]) (bs' := [(some b6, Obj.cells [(Value.func (.func 89) #[] #[(Value.pointer (some p_fv0_)), (Value.pointer (some (⟨b1, 0, none⟩ : Addr))), (Value.pointer (some p_fv1_)), (Value.pointer (some ⟨b6, 0, none⟩))])].toArray 71)]) (i := 0) ty71 hs12 rfl rfl rfl rfl rfl (le_lit rfl) rfl rfl rfl ?_)
 intro w14 p15 hs16
 replace Fa := Fa.step p15; replace Fb := Fb.step p15; replace f11 := f11.step p15; clear p15 hs12
 obtain ⟨hs18, p19, f17⟩ := St.publishP (p := rVal (Value.func (.func 89) #[] #[(Value.pointer (some p_fv0_)), (Value.pointer (some (⟨b1, 0, none⟩ : Addr))), (Value.pointer (some p_fv1_)), (Value.pointer (some ⟨b6, 0, none⟩))]) rfl) (i := 0) (x := ()) hs16 rfl rfl
 replace Fa := Fa.step p19; replace Fb := Fb.step p19; replace f11 := f11.step p19; clear p19 hs16
 have F22 : ∀ n, SubIt1 Try.prog (enc1 (vC (rSl (rInt .i64)))) l w14 (ks [] O1) (Value.func (.func 89) #[] #[(Value.pointer (some p_fv0_)), (Value.pointer (some (⟨b1, 0, none⟩ : Addr))), (Value.pointer (some p_fv1_)), (Value.pointer (some ⟨b6, 0, none⟩))]) (vC (rSl (rInt .i64))) (fixO (fun fx20 x21 => m89_coalition_deviations_1_1 x21 fv0_ fv1_ fx20) n) := by
  refine SubIt1.fix (fun fx20 hfx23 => ⟨⟨_, _, rfl⟩, ?_⟩)
  intro w24 O25 s26 hO27 J28 Jx29 hJ30 hJx31 v32 x33 L34 hv35 hfa36 hY37 h38
  obtain ⟨Aa, Ca, rfl, Fc⟩ := un_sl hv35
  exact ⟨89, #[], #[(Value.pointer (some p_fv0_)), (Value.pointer (some (⟨b1, 0, none⟩ : Addr))), (Value.pointer (some p_fv1_)), (Value.pointer (some ⟨b6, 0, none⟩))], rfl, Try.call89, c89_coalition_deviations_1_1 hO27 Fc (Fa.step s26) (f11.step s26) (Fb.step s26) ((f17.step s26).sb (hfx23.step s26)) hJ30 hJx31 hfa36 hY37 h38⟩
 have f40 := f17.sb (F22 1000000); clear F22
 refine Rg_nil ?_
 clear Fa Fb f11 f17
 refine Wp_region ?_
 refine Rg_op rfl (op_loadP ty71 rfl f40 rfl ?_)
 intro v41 h42
 have F43 := un_sb h42; clear h42
 replace hm := apl_elim hm; obtain ⟨A44, xr45, ha46, hm, hL47⟩ := hm
 rw [hL47] at hL
 refine Rg_op rfl (op_subcall (pre := ([] : List _)) (Lx := A44) rfl F43 rfl (show Vr.vd (vC (rSl (rInt .i64))) _ _ _ _ from (mkC (mk_sl SlR.nil_))) ha46 hY hJ hJx hI hs18 ⟨xr45, by rw [hL]; simp⟩ ?_ ?_)
 intro w48 O49 hs50 p51 hI52
 replace f40 := f40.step p51; replace F43 := F43.step p51; clear p51 hs18
 have hL53 : L = (([] : List _) ++ A44) ++ xr45 := by rw [hL]; simp
 refine Rg_nil ?_
 have h54 := hI52.fin hJ hs50
 rw [← Option.some.inj hm, List.append_nil] at hL53; rw [← hL53] at h54
 exact ⟨_, (show Closes [] _ _ from rfl), [], trivial, _, .inl h54⟩
 intro w55 O56 _ hs57 hI59
 refine Rg_nil ?_
 exact ⟨_, (show Closes [] _ _ from rfl), [], trivial, _, .inr ⟨_, hI59.fin hJx hs57⟩⟩

def m69_coalition_deviations (r_ : XRound) (flights : List Int) : Option (List (List Int)) :=
 (m88_coalition_deviations_1 flights r_).bind fun l_1 =>
 some l_1

theorem c69_coalition_deviations {w : World} {O : List Nat} {r_ : XRound} {flights : List Int} {Aa : Option Addr} {Ca : Nat} {Ab : Option Addr} {Cb : Nat} {Ac : Option Addr} {Cc : Nat} (hO : ∀ k ∈ O, k < w.heap.size) (Ra : InK .i64 r_.slots) (Fa : SlR (rInt .i64) w O Aa Ca r_.owners) (Fb : SlR (rSl (rInt .i64)) w O Ab Cb r_.costs) (Fc : SlR (rInt .i64) w O Ac Cc flights) {x : (List (List Int))} (hm : m69_coalition_deviations r_ flights = some x) :
 Ok Try.prog 69 [(Value.agg [(Value.int .i64 r_.slots), (Value.slice Aa r_.owners.length Ca), (Value.slice Ab r_.costs.length Cb)].toArray), (Value.slice Ac flights.length Cc)] w O (vIt Try.prog (enc1 (vC (rSl (rInt .i64))))) x := by
 unfold m69_coalition_deviations at hm
 refine Fn_of_Wp (n := 6) (xs := [.tmp 4]) Try.func69 rfl Try.ntmps69 Try.results69 rfl ?_
 have hs := St.start hO
 refine Wp_seq (Wp_region ?_)
 refine Rg_op rfl (op_box (cs := [(Value.int .i64 r_.slots), (Value.slice Aa r_.owners.length Ca), (Value.slice Ab r_.costs.length Cb)]) hs rfl rfl ?_)
 intro b1 w2 _ p3 hs4
 replace Fa := Fa.step p3; replace Fb := Fb.step p3; replace Fc := Fc.step p3; clear p3
 refine Rg_op rfl (op_box (cs := [(Value.slice Ac flights.length Cc)]) hs4 rfl rfl ?_)
 intro b6 w7 _ p8 hs9
 replace Fa := Fa.step p8; replace Fb := Fb.step p8; replace Fc := Fc.step p8; clear p8 hs4
 refine Rg_op rfl (op_assign (v := Value.nilFunc) rfl ?_)
 refine Rg_nil (Wp_seq (Wp_region ?_))
 obtain ⟨hs12, p13, f11⟩ := St.publishP (p := (rSl (rInt .i64))) (i := 0) (x := flights) hs9 rfl (mk_sl Fc)
 replace Fa := Fa.step p13; replace Fb := Fb.step p13; replace Fc := Fc.step p13; clear p13 hs9
 obtain ⟨hs15, p16, f14⟩ := St.publishP (p := rXRound) (i := 0) (x := r_) hs12 rfl (mkVia (mk_pair (mk_int Ra) (mk_pair (mk_sl Fa) (mk_sl Fb))))
 replace Fa := Fa.step p16; replace Fb := Fb.step p16; replace Fc := Fc.step p16; replace f11 := f11.step p16; clear p16 hs12
 refine Rg_op rfl (op_makeFunc' (a' := []) (c' := [(Value.pointer (some (⟨b6, 0, none⟩ : Addr))), (Value.pointer (some (⟨b1, 0, none⟩ : Addr)))]) rfl rfl ?_)
 replace hm := bd hm; obtain ⟨l_1, hv17, hm⟩ := hm
 have F18 : ItR Try.prog (enc1 (vC (rSl (rInt .i64)))) w7 (ks [] O) (Value.func (.func 88) #[] #[(Value.pointer (some (⟨b6, 0, none⟩ : Addr))), (Value.pointer (some (⟨b1, 0, none⟩ : Addr)))]) l_1 := ⟨88, [(Value.pointer (some (⟨b6, 0, none⟩ : Addr))), (Value.pointer (some (⟨b1, 0, none⟩ : Addr)))], rfl, Try.call88, c88_coalition_deviations_1 hs15.ltw f11 f14 hv17⟩
 refine Rg_op rfl (op_assign (v := (Value.func (.func 88) #[] #[(Value.pointer (some (⟨b6, 0, none⟩ : Addr))), (Value.pointer (some (⟨b1, 0, none⟩ : Addr)))])) rfl ?_)
 refine Rg_nil ?_
 refine Wp_ret ?_
 have hz := step_all hs15
 replace Fa := Fa.step hz; replace Fb := Fb.step hz; replace Fc := Fc.step hz; replace f11 := f11.step hz; replace f14 := f14.step hz; replace F18 := F18.step hz
 refine ⟨_, (show Closes [] _ _ from rfl), [(Value.func (.func 88) #[] #[(Value.pointer (some (⟨b6, 0, none⟩ : Addr))), (Value.pointer (some (⟨b1, 0, none⟩ : Addr)))])], ⟨rfl, trivial⟩, hs15.ext, ?_⟩
 exact Vr.eq (a := (vIt Try.prog (enc1 (vC (rSl (rInt .i64)))))) (x := l_1) F18 (Option.some.inj hm)

def m49_coalition_blocks_B2 (than : List Int) (group : List Int) (k98 : Bool → (List Int) → Option ((List Int) × Bool)) (v_3 : Bool) (v_4 : List Int) (sf116 : Bool → (List Int) → Option ((List Int) × Bool)) (xi107 : (List Int)) (costs_1 : (List Int)) (sf148 : Int → Option ((List Int) × Bool)) (v_5 : Int) : Option ((List Int) × Bool) :=
 bif (decide (v_5 < (group.length : Int))) then
  ck ((0 : Int) ≤ v_5 ∧ v_5 < (group.length : Int)) <|
  ck ((0 : Int) ≤ (group.getD v_5.toNat default) ∧ (group.getD v_5.toNat default) < (costs_1.length : Int)) <|
  ck ((0 : Int) ≤ (group.getD v_5.toNat default) ∧ (group.getD v_5.toNat default) < (than.length : Int)) <|
  bif (decide ((than.getD (group.getD v_5.toNat default).toNat default) ≤ (costs_1.getD (group.getD v_5.toNat default).toNat default))) then
   sf116 v_3 v_4
  else
   sf148 (IntKind.wrap .i64 (v_5 + 1))
 else
  k98 true xi107

def m49_coalition_blocks_B1 (r_ : XRound) (than : List Int) (group : List Int) (v_2 : List Int) (k98 : Bool → (List Int) → Option ((List Int) × Bool)) (sf116 : Bool → (List Int) → Option ((List Int) × Bool)) (xi107 : (List Int)) (v_3 : Bool) (v_4 : List Int) : Option ((List Int) × Bool) :=
 (m46_coalition_costs r_ v_2 xi107).bind fun costs_1 =>
 loop1 (m49_coalition_blocks_B2 than group k98 v_3 v_4 sf116 xi107 costs_1) (((group.length : Int) - 0).toNat + 1) 0

def m49_coalition_blocks_B0 (r_ : XRound) (than : List Int) (group : List Int) (sf36 : Int → (List Int) → Option ((List Int) × Bool)) (v_1 : Int) (v_2 : List Int) : Option ((List Int) × Bool) :=
 bif (decide (v_1 < (r_.owners.length : Int))) then
  ck ((0 : Int) ≤ v_1 ∧ v_1 < (r_.owners.length : Int)) <|
  (m48_slices_Containsint_int_ group (r_.owners.getD v_1.toNat default)).bind fun contains_1 =>
  bif contains_1 then
   ck ((v_2.length + [v_1].length) * 8 ≤ 140737488355328) <|
   sf36 (IntKind.wrap .i64 (v_1 + 1)) (v_2 ++ [v_1])
  else
   sf36 (IntKind.wrap .i64 (v_1 + 1)) v_2
 else
  (m69_coalition_deviations r_ v_2).bind fun deviations_1 =>
  jn (fun (v_3 : Bool) (v_4 : List Int) =>
   some (([] : List Int), false))
  (fun k96 =>
   jn (fun (v_3 : Bool) (v_4 : List Int) =>
    some (v_4, v_3))
   (fun k98 =>
    rng2 (m49_coalition_blocks_B1 r_ than group v_2 k98) k96 deviations_1 false ([] : List Int)))

def m49_coalition_blocks (r_ : XRound) (than : List Int) (group : List Int) : Option ((List Int) × Bool) :=
 loop2 (m49_coalition_blocks_B0 r_ than group) (((r_.owners.length : Int) - 0).toNat + 1) 0 ([] : List Int)

theorem c49_coalition_blocks {w : World} {O : List Nat} {r_ : XRound} {than : List Int} {group : List Int} {Aa : Option Addr} {Ca : Nat} {Ab : Option Addr} {Cb : Nat} {Ac : Option Addr} {Cc : Nat} {Ad : Option Addr} {Cd : Nat} (hO : ∀ k ∈ O, k < w.heap.size) (Ra : InK .i64 r_.slots) (Fa : SlR (rInt .i64) w O Aa Ca r_.owners) (Fb : SlR (rSl (rInt .i64)) w O Ab Cb r_.costs) (Fc : SlR (rInt .i64) w O Ac Cc than) (Fd : SlR (rInt .i64) w O Ad Cd group) {x : (List Int) × Bool} (hm : m49_coalition_blocks r_ than group = some x) :
 Ok Try.prog 49 [(Value.agg [(Value.int .i64 r_.slots), (Value.slice Aa r_.owners.length Ca), (Value.slice Ab r_.costs.length Cb)].toArray), (Value.slice Ac than.length Cc), (Value.slice Ad group.length Cd)] w O (vT2 (vC (rSl (rInt .i64))) vB) x := by
 unfold m49_coalition_blocks at hm
 refine Fn_of_Wp (n := 56) (xs := [.cell 6 22, .cell 7 4]) Try.func49 rfl Try.ntmps49 Try.results49 rfl ?_
 have hs := St.start hO
 refine Wp_seq (Wp_region ?_)
 refine Rg_op rfl (op_box (cs := [(Value.int .i64 r_.slots), (Value.slice Aa r_.owners.length Ca), (Value.slice Ab r_.costs.length Cb)]) hs rfl rfl ?_)
 intro b1 w2 _ p3 hs4
 replace Fa := Fa.step p3; replace Fb := Fb.step p3; replace Fc := Fc.step p3; replace Fd := Fd.step p3; clear p3
 refine Rg_op rfl (op_box (cs := [(Value.slice Ac than.length Cc)]) hs4 rfl rfl ?_)
 intro b6 w7 _ p8 hs9
 replace Fa := Fa.step p8; replace Fb := Fb.step p8; replace Fc := Fc.step p8; replace Fd := Fd.step p8; clear p8 hs4
 refine Rg_op rfl (op_box (cs := [(Value.slice Ad group.length Cd)]) hs9 rfl rfl ?_)
 intro b11 w12 _ p13 hs14
 replace Fa := Fa.step p13; replace Fb := Fb.step p13; replace Fc := Fc.step p13; replace Fd := Fd.step p13; clear p13 hs9
 refine Rg_op rfl (op_alloc ty22 hs14 ?_)
 intro b16 w17 _ p18 hs19
 replace Fa := Fa.step p18; replace Fb := Fb.step p18; replace Fc := Fc.step p18; replace Fd := Fd.step p18; clear p18 hs14
 refine Rg_op rfl (op_alloc ty4 hs19 ?_)
 intro b21 w22 _ p23 hs24
 replace Fa := Fa.step p23; replace Fb := Fb.step p23; replace Fc := Fc.step p23; replace Fd := Fd.step p23; clear p23 hs19
 refine Rg_nil ?_
 refine Wp_scope (Wp_seq (Wp_region ?_))
 refine Rg_op rfl (op_alloc ty22 hs24 ?_)
 intro b26 w27 _ p28 hs29
 replace Fa := Fa.step p28; replace Fb := Fb.step p28; replace Fc := Fc.step p28; replace Fd := Fd.step p28; clear p28 hs24
 refine Rg_nil (Wp_seq (Wp_seq (Wp_region ?_)))
 refine Rg_op rfl (op_fieldAddr ty25 rfl ty22 (by decide) rfl (rfl : _ = (⟨_, 1, none⟩ : Addr)) ?_)
 refine Rg_op rfl (op_load (cs := [(Value.int .i64 r_.slots), (Value.slice Aa r_.owners.length Ca), (Value.slice Ab r_.costs.length Cb)]) (i := 5) ty22 hs29 rfl rfl rfl ?_)
 refine Rg_op rfl (op_len Try.underlying22 rfl ?_)
 have rl31 := inK_len Fa
 refine Rg_op rfl (op_move (v := (Value.int .i64 0)) rfl ?_)
 refine Rg_nil (Wp_block ?_)
 refine Wp_reset [] [(3, (Value.pointer (some ⟨b1, 0, none⟩))), (4, (Value.pointer (some ⟨b6, 0, none⟩))), (5, (Value.pointer (some ⟨b11, 0, none⟩))), (6, (Value.pointer (some ⟨b16, 0, none⟩))), (7, (Value.pointer (some ⟨b21, 0, none⟩))), (8, (Value.pointer (some ⟨b26, 0, none⟩))), (16, (Value.slice Aa r_.owners.length Ca)), (17, (Value.int .i64 (r_.owners.length : Int))), (18, (Value.int .i64 0))] rfl ⟨rfl, rfl, rfl, rfl, rfl, rfl, rfl, rfl, rfl, trivial⟩ fun ξ35 => ?_
 have hs40 := hs29.ghost (Obj.cells #[] 3)
 refine Wp_loopM [9, 10, 18, 19, 20, 21, 22, 23, 24, 25, 26, 27, 28, 29, 30] (fun m fr w' => ∃ (v_1 : Int) (v_2 : List Int) (Ae : Option Addr) (Ce : Nat) (k_g34 : Option Nat) (o_g34 : Obj) (Ebs : Ents), Ebs = [(k_g34, o_g34), (some b26, Obj.cells [(Value.slice Ae v_2.length Ce)].toArray 22), (some b21, Obj.cells [(Value.bool false)].toArray 4), (some b16, Obj.cells [(Value.slice none 0 0)].toArray 22), (some b11, Obj.cells [(Value.slice Ad group.length Cd)].toArray 22), (some b6, Obj.cells [(Value.slice Ac than.length Cc)].toArray 22), (some b1, Obj.cells [(Value.int .i64 r_.slots), (Value.slice Aa r_.owners.length Ca), (Value.slice Ab r_.costs.length Cb)].toArray 25)] ∧ fr [] [(18, (Value.int .i64 v_1))] ∧ Step (ks [(none, (Obj.cells #[] 3)), (some b26, Obj.cells [(Value.slice none 0 0)].toArray 22), (some b21, Obj.cells [(Value.bool false)].toArray 4), (some b16, Obj.cells [(Value.slice none 0 0)].toArray 22), (some b11, Obj.cells [(Value.slice Ad group.length Cd)].toArray 22), (some b6, Obj.cells [(Value.slice Ac than.length Cc)].toArray 22), (some b1, Obj.cells [(Value.int .i64 r_.slots), (Value.slice Aa r_.owners.length Ca), (Value.slice Ab r_.costs.length Cb)].toArray 25)] O) w27 (ks Ebs O) w' ∧ St ⟨w, [], []⟩ O w' Ebs ∧ InK .i64 v_1 ∧ Gs (rInt .i64) 3 w' (ks Ebs O) Ae Ce v_2 k_g34 o_g34 ∧ loop2 (m49_coalition_blocks_B0 r_ than group) m v_1 v_2 = some x) (((r_.owners.length : Int) - 0).toNat + 1) ⟨0, ([] : List Int), none, 0, none, (Obj.cells #[] 3), _, rfl, ⟨Out.refl _ _, rfl, rfl, trivial⟩, Step.refl _ _, hs40, (show InK .i64 0 from by decide), Gs.nil_, hm⟩ ?_ ?_
 rintro _ _ ⟨_, _, _, _, _, _, _, _, _, _, _, _, _, hm⟩; exact loop2_z hm
 rintro m39 K38 hK38 ρ46 w42 ⟨v_1, v_2, Ae, Ce, k_g34, o_g34, Ebs, hEbs, hfr45, hst44, hs43, Rb, Fe, hm⟩
 obtain ⟨sf36, hsf37, hm⟩ := loop2_s hm; unfold m49_coalition_blocks_B0 at hm
 subst hEbs; rw [hfr45.eq]; clear hfr45
 replace Fa := Fa.step hst44; replace Fb := Fb.step hst44; replace Fc := Fc.step hst44; replace Fd := Fd.step hst44
 have ch47 := hst44
 refine Wp_seq (Wp_region ?_)
 refine Rg_op rfl (op_lss rfl rfl ?_)
 refine Rg_nil (Wp_seq ?_)
 refine Wp_cond rfl (fun hc48 => ?_) (fun hc48 => ?_)
 replace hm := bif_t hm hc48
 refine Wp_skip (Wp_seq (Wp_block (Wp_seq (Wp_region ?_))))
 refine Rg_op rfl (op_move (v := (Value.int .i64 v_1)) rfl ?_)
 replace hm := ck_some hm; obtain ⟨hc49, hm⟩ := hm
 refine Rg_op rfl (op_indexAddr (q := (rInt .i64)) ty22 ty3 rfl rfl Fa rfl hc49.1 hc49.2 ?_)
 intro p50 f51
 refine Rg_op rfl (op_loadP ty3 rfl f51 rfl ?_)
 intro v52 h53
 obtain ⟨rfl, Rc⟩ := un_int h53
 refine Rg_op rfl (op_assign (v := (Value.int .i64 v_1)) rfl ?_)
 refine Rg_op rfl (op_assign (v := (Value.int .i64 (r_.owners.getD v_1.toNat default))) rfl ?_)
 refine Rg_nil (Wp_seq ?_)
 clear f51
 refine Wp_region ?_
 refine Rg_op rfl (op_load (cs := [(Value.slice Ad group.length Cd)]) (i := 4) ty22 hs43 rfl rfl rfl ?_)
 refine Rg_op rfl (op_move (v := (Value.int .i64 (r_.owners.getD v_1.toNat default))) rfl ?_)
 replace hm := bd hm; obtain ⟨contains_1, hv55, hm⟩ := hm
 refine Rg_op rfl (op_call Try.call48 (c48_slices_Containsint_int_ (s := group) (v := (r_.owners.getD v_1.toNat default)) hs43.ltw Fd Rc hv55) rfl ?_)
 rintro v56 w57 ⟨hx58, h59⟩
 have hs60 := hs43.call hx58
 have p61 := Step.ext (O := ks [(k_g34, o_g34), (some b26, Obj.cells [(Value.slice Ae v_2.length Ce)].toArray 22), (some b21, Obj.cells [(Value.bool false)].toArray 4), (some b16, Obj.cells [(Value.slice none 0 0)].toArray 22), (some b11, Obj.cells [(Value.slice Ad group.length Cd)].toArray 22), (some b6, Obj.cells [(Value.slice Ac than.length Cc)].toArray 22), (some b1, Obj.cells [(Value.int .i64 r_.slots), (Value.slice Aa r_.owners.length Ca), (Value.slice Ab r_.costs.length Cb)].toArray 25)] O) hx58
 clear hx58
 replace Fa := Fa.step p61; replace Fb := Fb.step p61; replace Fc := Fc.step p61; replace Fd := Fd.step p61; replace Fe := Fe.step p61; replace ch47 := ch47.trans p61; clear p61 hs43
 obtain rfl := h59
 refine Rg_nil ?_
 refine Wp_cond rfl (fun hc63 => ?_) (fun hc63 => ?_)
 replace hm := bif_t hm hc63
 refine Wp_region ?_
 refine Rg_op rfl (op_load (cs := [(Value.slice Ae v_2.length Ce)]) (i := 1) ty22 hs60 rfl rfl rfl ?_)
 refine Rg_op rfl (op_move (v := (Value.int .i64 v_1)) rfl ?_)
 refine Rg_op rfl (op_buildSlice (cs := [(Value.int .i64 v_1)]) (parts := [(0, .tmp 27)]) ty22 ty3 hs60 (by decide) rfl ?_)
 intro b64 w65 hx68 p66 hs67
 replace Fa := Fa.step p66; replace Fb := Fb.step p66; replace Fc := Fc.step p66; replace Fd := Fd.step p66; replace Fe := Fe.step p66; replace ch47 := ch47.trans p66; clear p66 hs60
 replace hm := ck_some hm; obtain ⟨hc70, hm⟩ := hm
 refine Rg_op rfl (op_append (q := (rInt .i64)) (i := 1) (xs := v_2) (ys := [v_1]) (news := [(Value.int .i64 v_1)]) ty22 ty3 rfl (by decide) hs67 rfl rfl Fe rfl (Src.owned' (len := 1) (hs67.get (i := 0) rfl) rfl) (show Els (rInt .i64) _ _ [(Value.int .i64 v_1)] [v_1] from ⟨_, _, rfl, (mk_int Rb), Els.nil⟩) hc70 (by have := hc70; simp only [maxLen]; omega) ?_)
 intro a74 c75 k76 o77 w71 p72 hs73 f78
 replace Fa := Fa.step p72; replace Fb := Fb.step p72; replace Fc := Fc.step p72; replace Fd := Fd.step p72; replace ch47 := ch47.trans p72; clear p72 hs67
 have hs79 := hs73.drop 0
 replace Fa := Fa.step (hs73.dropS 0)
 replace Fb := Fb.step (hs73.dropS 0)
 replace Fc := Fc.step (hs73.dropS 0)
 replace Fd := Fd.step (hs73.dropS 0)
 replace f78 := f78.step (hs73.dropS 0)
 replace ch47 := ch47.trans (hs73.dropS 0); clear hs73
 refine Rg_op_ (op_store (cs := [(Value.slice Ae v_2.length Ce)]) (vs := [(Value.slice a74 (v_2 ++ [v_1]).length c75)]) (cs' := [(Value.slice a74 (v_2 ++ [v_1]).length c75)]) (bs' := [(k76, o77), (some b26, Obj.cells [(Value.slice a74 (v_2 ++ [v_1]).length c75)].toArray 22), (some b21, Obj.cells [(Value.bool false)].toArray 4), (some b16, Obj.cells [(Value.slice none 0 0)].toArray 22), (some b11, Obj.cells [(Value.slice Ad group.length Cd)].toArray 22), (some b6, Obj.cells [(Value.slice Ac than.length Cc)].toArray 22), (some b1, Obj.cells [(Value.int .i64 r_.slots), (Value.slice Aa r_.owners.length Ca), (Value.slice Ab r_.costs.length Cb)].toArray 25)]) (i := 1) ty22 hs79 rfl rfl rfl rfl rfl (le_lit rfl) rfl rfl rfl ?_)
 intro w80 p81 hs82
 replace Fa := Fa.step p81; replace Fb := Fb.step p81; replace Fc := Fc.step p81; replace Fd := Fd.step p81; replace f78 := f78.step p81; replace ch47 := ch47.trans p81; clear p81 hs79
 refine Rg_nil (Wp_region ?_)
 refine Rg_op rfl (op_addw rfl rfl ?_)
 refine Rg_op rfl (op_move (v := (Value.int .i64 (IntKind.wrap .i64 (v_1 + 1)))) rfl ?_)
 refine Rg_nil ?_
 exact hK38 _ _ ⟨(IntKind.wrap .i64 (v_1 + 1)), (v_2 ++ [v_1]), a74, c75, k76, o77, _, rfl, ⟨(by repeat (first | with_reducible exact Out.refl _ _ | refine Out.upd ?_ rfl | refine Out.updL ?_ rfl | refine Out.mix' ?_ rfl | exact Out.refl _ _)), rfl, rfl, trivial⟩, ch47, hs82, (inK_wrap .i64 _), f78, jnE2 hsf37 hm⟩
 replace hm := bif_f hm hc63
 refine Wp_skip (Wp_region ?_)
 refine Rg_op rfl (op_addw rfl rfl ?_)
 refine Rg_op rfl (op_move (v := (Value.int .i64 (IntKind.wrap .i64 (v_1 + 1)))) rfl ?_)
 refine Rg_nil ?_
 exact hK38 _ _ ⟨(IntKind.wrap .i64 (v_1 + 1)), v_2, Ae, Ce, k_g34, o_g34, _, rfl, ⟨(by repeat (first | with_reducible exact Out.refl _ _ | refine Out.upd ?_ rfl | refine Out.updL ?_ rfl | refine Out.mix' ?_ rfl | exact Out.refl _ _)), rfl, rfl, trivial⟩, ch47, hs60, (inK_wrap .i64 _), Fe, jnE2 hsf37 hm⟩
 replace hm := bif_f hm hc48
 refine Wp_exit (Wp_seq ?_)
 refine Wp_label (Wp_seq (Wp_seq (Wp_region ?_)))
 refine Rg_op rfl (op_loadA (cs := [(Value.int .i64 r_.slots), (Value.slice Aa r_.owners.length Ca), (Value.slice Ab r_.costs.length Cb)]) (vs := [(Value.int .i64 r_.slots), (Value.slice Aa r_.owners.length Ca), (Value.slice Ab r_.costs.length Cb)]) (i := 6) ty25 hs43 rfl rfl rfl rfl ?_)
 refine Rg_op rfl (op_load (cs := [(Value.slice Ae v_2.length Ce)]) (i := 1) ty22 hs43 rfl rfl rfl ?_)
 obtain ⟨hs84, p85, f83⟩ := Gs.publish (i := 0) hs43 rfl Fe
 replace Fa := Fa.step p85; replace Fb := Fb.step p85; replace Fc := Fc.step p85; replace Fd := Fd.step p85; replace ch47 := ch47.trans p85; clear p85 hs43
 replace hm := bd hm; obtain ⟨deviations_1, hv86, hm⟩ := hm
 refine Rg_op rfl (op_call Try.call69 (c69_coalition_deviations (r_ := r_) (flights := v_2) hs84.ltw Ra Fa Fb f83 hv86) rfl ?_)
 rintro v87 w88 ⟨hx89, h90⟩
 have hs91 := hs84.call hx89
 have p92 := Step.ext (O := ks [(some b26, Obj.cells [(Value.slice Ae v_2.length Ce)].toArray 22), (some b21, Obj.cells [(Value.bool false)].toArray 4), (some b16, Obj.cells [(Value.slice none 0 0)].toArray 22), (some b11, Obj.cells [(Value.slice Ad group.length Cd)].toArray 22), (some b6, Obj.cells [(Value.slice Ac than.length Cc)].toArray 22), (some b1, Obj.cells [(Value.int .i64 r_.slots), (Value.slice Aa r_.owners.length Ca), (Value.slice Ab r_.costs.length Cb)].toArray 25)] O) hx89
 clear hx89
 replace Fa := Fa.step p92; replace Fb := Fb.step p92; replace Fc := Fc.step p92; replace Fd := Fd.step p92; replace f83 := f83.step p92; replace ch47 := ch47.trans p92; clear p92 hs84
 have F_y93 : ItR Try.prog (enc1 (vC (rSl (rInt .i64)))) _ _ v87 deviations_1 := h90
 refine Rg_nil (Wp_block ?_)
 have hit104 := F_y93; obtain ⟨fk100, cp101, hvq102, hcl103, hit104⟩ := hit104
 replace hm := jn_elim hm; obtain ⟨k96, hk97, hm⟩ := hm
 replace hm := jn_elim hm; obtain ⟨k98, hk99, hm⟩ := hm
 refine Wp_rangeFunc (σ := Bool × (List Int) × (Option Addr) × Nat) (ps := [34]) hs91 (rfl.trans hvq102) hcl103 hit104 rfl enc1_len enc1_step (fun s => match s with | (v_3, v_4, Af, Cf) => [(some b26, Obj.cells [(Value.slice Ae v_2.length Ce)].toArray 22), (some b21, Obj.cells [(Value.bool v_3)].toArray 4), (some b16, Obj.cells [(Value.slice Af v_4.length Cf)].toArray 22), (some b11, Obj.cells [(Value.slice Ad group.length Cd)].toArray 22), (some b6, Obj.cells [(Value.slice Ac than.length Cc)].toArray 22), (some b1, Obj.cells [(Value.int .i64 r_.slots), (Value.slice Aa r_.owners.length Ca), (Value.slice Ab r_.costs.length Cb)].toArray 25)]) (fun s w O => match s with | (v_3, v_4, Af, Cf) => SlR (rInt .i64) w O Af Cf v_4) (fun s w O w' O' p h => by obtain ⟨v_3, v_4, Af, Cf⟩ := s; have h : SlR (rInt .i64) w O Af Cf v_4 := h; have Ff := h; exact Ff.step p) (fun s l => match s with | (v_3, v_4, Af, Cf) => rng2 (m49_coalition_blocks_B1 r_ than group v_2 k98) k96 l v_3 v_4 = some x) [none] (fun e s => match e, s with | none, (v_3, v_4, Af, Cf) => k98 v_3 v_4 = some x | _, _ => False) (false, ([] : List Int), none, 0) rfl SlR.nil_ hm ?_ ?_ ?_
 rintro l105 E106 ⟨v_3, v_4, Af, Cf⟩ xi107 rest108 w109 vs110 z111 hz112 hs113 hst114 Ff hm hx115
 replace hs113 : St z111 (E106 ++ O) w109 [(some b26, Obj.cells [(Value.slice Ae v_2.length Ce)].toArray 22), (some b21, Obj.cells [(Value.bool v_3)].toArray 4), (some b16, Obj.cells [(Value.slice Af v_4.length Cf)].toArray 22), (some b11, Obj.cells [(Value.slice Ad group.length Cd)].toArray 22), (some b6, Obj.cells [(Value.slice Ac than.length Cc)].toArray 22), (some b1, Obj.cells [(Value.int .i64 r_.slots), (Value.slice Aa r_.owners.length Ca), (Value.slice Ab r_.costs.length Cb)].toArray 25)] := hs113
 have ch118 : Step (ks [(some b26, Obj.cells [(Value.slice Ae v_2.length Ce)].toArray 22), (some b21, Obj.cells [(Value.bool false)].toArray 4), (some b16, Obj.cells [(Value.slice none 0 0)].toArray 22), (some b11, Obj.cells [(Value.slice Ad group.length Cd)].toArray 22), (some b6, Obj.cells [(Value.slice Ac than.length Cc)].toArray 22), (some b1, Obj.cells [(Value.int .i64 r_.slots), (Value.slice Aa r_.owners.length Ca), (Value.slice Ab r_.costs.length Cb)].toArray 25)] O) w88 (ks [(some b26, Obj.cells [(Value.slice Ae v_2.length Ce)].toArray 22), (some b21, Obj.cells [(Value.bool v_3)].toArray 4), (some b16, Obj.cells [(Value.slice Af v_4.length Cf)].toArray 22), (some b11, Obj.cells [(Value.slice Ad group.length Cd)].toArray 22), (some b6, Obj.cells [(Value.slice Ac than.length Cc)].toArray 22), (some b1, Obj.cells [(Value.int .i64 r_.slots), (Value.slice Aa r_.owners.length Ca), (Value.slice Ab r_.costs.length Cb)].toArray 25)] (E106 ++ O)) w109 := hst114; clear hst114
 replace Ff : SlR (rInt .i64) w109 (ks [(some b26, Obj.cells [(Value.slice Ae v_2.length Ce)].toArray 22), (some b21, Obj.cells [(Value.bool v_3)].toArray 4), (some b16, Obj.cells [(Value.slice Af v_4.length Cf)].toArray 22), (some b11, Obj.cells [(Value.slice Ad group.length Cd)].toArray 22), (some b6, Obj.cells [(Value.slice Ac than.length Cc)].toArray 22), (some b1, Obj.cells [(Value.int .i64 r_.slots), (Value.slice Aa r_.owners.length Ca), (Value.slice Ab r_.costs.length Cb)].toArray 25)] (E106 ++ O)) Af Cf v_4 := Ff
 have hm119 := rng2_s (show rng2 _ _ (xi107 :: rest108) v_3 v_4 = some _ from hm); clear hm; obtain ⟨sf116, hsf117, hm⟩ := hm119
 unfold m49_coalition_blocks_B1 at hm
 replace Fa := Fa.step ch118; replace Fb := Fb.step ch118; replace Fc := Fc.step ch118; replace Fd := Fd.step ch118; replace f83 := f83.step ch118; replace F_y93 := F_y93.step ch118
 replace hx115 : (enc1 (vC (rSl (rInt .i64)))) xi107 w109 (ks [(some b26, Obj.cells [(Value.slice Ae v_2.length Ce)].toArray 22), (some b21, Obj.cells [(Value.bool v_3)].toArray 4), (some b16, Obj.cells [(Value.slice Af v_4.length Cf)].toArray 22), (some b11, Obj.cells [(Value.slice Ad group.length Cd)].toArray 22), (some b6, Obj.cells [(Value.slice Ac than.length Cc)].toArray 22), (some b1, Obj.cells [(Value.int .i64 r_.slots), (Value.slice Aa r_.owners.length Ca), (Value.slice Ab r_.costs.length Cb)].toArray 25)] (E106 ++ O)) vs110 := hx115
 obtain ⟨v120, rfl, h121⟩ := hx115
 obtain ⟨Ag, Cg, rfl, Fg⟩ := un_sl h121
 refine Wp_region ?_
 refine Rg_op rfl (op_assign (v := (Value.slice Ag xi107.length Cg)) rfl ?_)
 refine Rg_nil ?_
 refine Exists.intro _ (And.intro hs113 ?_)
 intro w123 z124 RQ125 hz126 hs127 p128 hN129 hX130
 replace Fa := Fa.step p128; replace Fb := Fb.step p128; replace Fc := Fc.step p128; replace Fd := Fd.step p128; replace f83 := f83.step p128; replace F_y93 := F_y93.step p128; replace Ff := Ff.step p128; replace Fg := Fg.step p128; replace ch118 := ch118.trans p128; clear p128 hs113
 refine Wp_block (Wp_seq (Wp_region ?_))
 refine Rg_op rfl (op_loadA (cs := [(Value.int .i64 r_.slots), (Value.slice Aa r_.owners.length Ca), (Value.slice Ab r_.costs.length Cb)]) (vs := [(Value.int .i64 r_.slots), (Value.slice Aa r_.owners.length Ca), (Value.slice Ab r_.costs.length Cb)]) (i := 5) ty25 hs127 rfl rfl rfl rfl ?_)
 refine Rg_op rfl (op_load (cs := [(Value.slice Ae v_2.length Ce)]) (i := 0) ty22 hs127 rfl rfl rfl ?_)
 refine Rg_op rfl (op_move (v := (Value.slice Ag xi107.length Cg)) rfl ?_)
 replace hm := bd hm; obtain ⟨costs_1, hv131, hm⟩ := hm
 refine Rg_op rfl (op_call Try.call46 (g46_coalition_costs (r_ := r_) (flights := v_2) (slots := xi107) hs127.ltw Ra Fa Fb f83 Fg hv131) rfl ?_)
 rintro _ w133 ⟨hx134, a137, c138, k139, o140, rfl, hk141, f142⟩
 obtain ⟨hs136, p143⟩ := hs127.callG (o := o140) hx134 hk141
 rw [← ks_cons (o := o140)] at f142
 replace Fa := Fa.step p143; replace Fb := Fb.step p143; replace Fc := Fc.step p143; replace Fd := Fd.step p143; replace f83 := f83.step p143; replace F_y93 := F_y93.step p143; replace Ff := Ff.step p143; replace Fg := Fg.step p143; replace ch118 := ch118.trans p143; clear p143 hs127
 refine Rg_op rfl (op_assign (v := (Value.slice a137 costs_1.length c138)) rfl ?_)
 refine Rg_nil (Wp_seq (Wp_seq (Wp_region ?_)))
 refine Rg_op rfl (op_load (cs := [(Value.slice Ad group.length Cd)]) (i := 4) ty22 hs136 rfl rfl rfl ?_)
 refine Rg_op rfl (op_len Try.underlying22 rfl ?_)
 have rl145 := inK_len Fd
 refine Rg_op rfl (op_move (v := (Value.int .i64 0)) rfl ?_)
 refine Rg_nil (Wp_block ?_)
 refine Wp_reset [] [(3, (Value.pointer (some ⟨b1, 0, none⟩))), (4, (Value.pointer (some ⟨b6, 0, none⟩))), (5, (Value.pointer (some ⟨b11, 0, none⟩))), (6, (Value.pointer (some ⟨b16, 0, none⟩))), (7, (Value.pointer (some ⟨b21, 0, none⟩))), (8, (Value.pointer (some ⟨b26, 0, none⟩))), (11, (Value.slice Ag xi107.length Cg)), (12, (Value.slice a137 costs_1.length c138)), (33, v87), (39, (Value.slice Ad group.length Cd)), (40, (Value.int .i64 (group.length : Int))), (41, (Value.int .i64 0))] rfl ⟨rfl, rfl, rfl, rfl, rfl, rfl, rfl, rfl, rfl, rfl, rfl, rfl, trivial⟩ fun ξ147 => ?_
 refine Wp_loopM [14, 41, 42, 43, 44, 45, 46, 47, 48, 49, 50, 51, 52, 53, 54] (fun m fr w' => ∃ (v_5 : Int) (Ebs : Ents), Ebs = [(k139, o140), (some b26, Obj.cells [(Value.slice Ae v_2.length Ce)].toArray 22), (some b21, Obj.cells [(Value.bool v_3)].toArray 4), (some b16, Obj.cells [(Value.slice Af v_4.length Cf)].toArray 22), (some b11, Obj.cells [(Value.slice Ad group.length Cd)].toArray 22), (some b6, Obj.cells [(Value.slice Ac than.length Cc)].toArray 22), (some b1, Obj.cells [(Value.int .i64 r_.slots), (Value.slice Aa r_.owners.length Ca), (Value.slice Ab r_.costs.length Cb)].toArray 25)] ∧ fr [] [(41, (Value.int .i64 v_5))] ∧ Step (ks [(k139, o140), (some b26, Obj.cells [(Value.slice Ae v_2.length Ce)].toArray 22), (some b21, Obj.cells [(Value.bool v_3)].toArray 4), (some b16, Obj.cells [(Value.slice Af v_4.length Cf)].toArray 22), (some b11, Obj.cells [(Value.slice Ad group.length Cd)].toArray 22), (some b6, Obj.cells [(Value.slice Ac than.length Cc)].toArray 22), (some b1, Obj.cells [(Value.int .i64 r_.slots), (Value.slice Aa r_.owners.length Ca), (Value.slice Ab r_.costs.length Cb)].toArray 25)] (E106 ++ O)) w133 (ks Ebs (E106 ++ O)) w' ∧ St z124 (E106 ++ O) w' Ebs ∧ InK .i64 v_5 ∧ loop1 (m49_coalition_blocks_B2 than group k98 v_3 v_4 sf116 xi107 costs_1) m v_5 = some x) (((group.length : Int) - 0).toNat + 1) ⟨0, _, rfl, ⟨Out.refl _ _, rfl, rfl, trivial⟩, Step.refl _ _, hs136, (show InK .i64 0 from by decide), hm⟩ ?_ ?_
 rintro _ _ ⟨_, _, _, _, _, _, _, hm⟩; exact loop1_z hm
 rintro m151 K150 hK150 ρ156 w152 ⟨v_5, Ebs, hEbs, hfr155, hst154, hs153, Rd, hm⟩
 obtain ⟨sf148, hsf149, hm⟩ := loop1_s hm; unfold m49_coalition_blocks_B2 at hm
 subst hEbs; rw [hfr155.eq]; clear hfr155
 replace Fa := Fa.step hst154; replace Fb := Fb.step hst154; replace Fc := Fc.step hst154; replace Fd := Fd.step hst154; replace f83 := f83.step hst154; replace F_y93 := F_y93.step hst154; replace Ff := Ff.step hst154; replace Fg := Fg.step hst154; replace f142 := f142.step hst154; replace ch118 := ch118.trans hst154
 have ch157 := hst154
 refine Wp_seq (Wp_region ?_)
 refine Rg_op rfl (op_lss rfl rfl ?_)
 refine Rg_nil (Wp_seq ?_)
 refine Wp_cond rfl (fun hc158 => ?_) (fun hc158 => ?_)
 replace hm := bif_t hm hc158
 refine Wp_skip (Wp_seq (Wp_block (Wp_seq (Wp_region ?_))))
 replace hm := ck_some hm; obtain ⟨hc159, hm⟩ := hm
 refine Rg_op rfl (op_indexAddr (q := (rInt .i64)) ty22 ty3 rfl rfl Fd rfl hc159.1 hc159.2 ?_)
 intro p160 f161
 refine Rg_op rfl (op_loadP ty3 rfl f161 rfl ?_)
 intro v162 h163
 obtain ⟨rfl, Re⟩ := un_int h163
 refine Rg_op rfl (op_assign (v := (Value.int .i64 (group.getD v_5.toNat default))) rfl ?_)
 refine Rg_nil (Wp_seq ?_)
 clear f161
 refine Wp_drawR (g0 := []) (m := 8) (fl := []) (TS_inv hs153) rfl (.inr rfl) rfl (by decide +kernel) ?_  -- 14
 refine Dw_eq (Value.slice a137 costs_1.length c138) (fun ρ165 w166 g hle hi ht => ?_) ?_
 obtain ⟨-, hst, -⟩ := hle
 refine StepOp_plain (op_move (v := (Value.slice a137 costs_1.length c138)) (ht 12 rfl) ?_)
 exact Goes.same hi rfl
 refine Dw_eq (Value.int .i64 (group.getD v_5.toNat default)) (fun ρ168 w169 g hle hi ht => ?_) ?_
 obtain ⟨-, hst, -⟩ := hle
 refine StepOp_plain (op_move (v := (Value.int .i64 (group.getD v_5.toNat default))) (ht 14 rfl) ?_)
 exact Goes.same hi rfl
 replace hm := ck_some hm; obtain ⟨hc174, hm⟩ := hm
 obtain ⟨b175, rfl, rfl⟩ := f142.at_ (by omega)
 refine Dw_eq (Value.pointer (some ⟨b175, (group.getD v_5.toNat default).toNat * 1, none⟩)) (fun ρ171 w172 g hle hi ht => ?_) ?_
 obtain ⟨-, hst, -⟩ := hle
 replace f142 := f142.step hst
 refine StepOp_plain (op_indexAddrG ty22 ty3 (ht 45 rfl) (ht 46 rfl) f142 hc174 ?_)
 rintro _ ⟨⟩ -
 exact Goes.same hi rfl
 refine Dw_op (VD (E106 ++ O) [(some b175, o140), (some b26, Obj.cells [(Value.slice Ae v_2.length Ce)].toArray 22), (some b21, Obj.cells [(Value.bool v_3)].toArray 4), (some b16, Obj.cells [(Value.slice Af v_4.length Cf)].toArray 22), (some b11, Obj.cells [(Value.slice Ad group.length Cd)].toArray 22), (some b6, Obj.cells [(Value.slice Ac than.length Cc)].toArray 22), (some b1, Obj.cells [(Value.int .i64 r_.slots), (Value.slice Aa r_.owners.length Ca), (Value.slice Ab r_.costs.length Cb)].toArray 25)] (vI .i64) (costs_1.getD (group.getD v_5.toNat default).toNat default)) (VD.stab _ _) (fun ρ176 w177 g hle hi ht => ?_) ?_
 obtain ⟨-, hst, -⟩ := hle
 replace f142 := f142.step hst
 have hsn := (Step.nx hi).1
 refine StepOp_plain (op_loadG (m := (group.getD v_5.toNat default)) (i := 0) ty3 rfl hsn rfl (ht 47 rfl) f142 hc174 ?_)
 intro v179 h180
 obtain ⟨rfl, Rf⟩ := un_int h180
 exact Goes.same hi (show Vr.vd (vI .i64) _ _ _ _ from ⟨rfl, Rf⟩)
 refine Dw_eq (Value.slice Ac than.length Cc) (fun ρ182 w183 g hle hi ht => ?_) ?_
 obtain ⟨-, hst, -⟩ := hle
 have hsn := (Step.nx hi).1
 refine StepOp_plain (op_load (cs := [(Value.slice Ac than.length Cc)]) (i := 5) ty22 hsn (ht 4 rfl) rfl rfl ?_)
 exact Goes.same hi rfl
 refine Dw_eq (Value.int .i64 (group.getD v_5.toNat default)) (fun ρ185 w186 g hle hi ht => ?_) ?_
 obtain ⟨-, hst, -⟩ := hle
 refine StepOp_plain (op_move (v := (Value.int .i64 (group.getD v_5.toNat default))) (ht 14 rfl) ?_)
 exact Goes.same hi rfl
 replace hm := ck_some hm; obtain ⟨hc191, hm⟩ := hm
 refine Dw_op (VP (E106 ++ O) [(some b175, o140), (some b26, Obj.cells [(Value.slice Ae v_2.length Ce)].toArray 22), (some b21, Obj.cells [(Value.bool v_3)].toArray 4), (some b16, Obj.cells [(Value.slice Af v_4.length Cf)].toArray 22), (some b11, Obj.cells [(Value.slice Ad group.length Cd)].toArray 22), (some b6, Obj.cells [(Value.slice Ac than.length Cc)].toArray 22), (some b1, Obj.cells [(Value.int .i64 r_.slots), (Value.slice Aa r_.owners.length Ca), (Value.slice Ab r_.costs.length Cb)].toArray 25)] (rInt .i64) (than.getD (group.getD v_5.toNat default).toNat default)) (VP.stab _ _) (fun ρ188 w189 g hle hi ht => ?_) ?_
 obtain ⟨-, hst, -⟩ := hle
 replace Fc := Fc.step hst
 refine StepOp_plain (op_indexAddr (q := (rInt .i64)) ty22 ty3 (ht 49 rfl) (ht 50 rfl) Fc rfl hc191.1 hc191.2 ?_)
 intro p192 f193
 exact Goes.same hi ⟨_, rfl, f193⟩
 refine Dw_op (VD (E106 ++ O) [(some b175, o140), (some b26, Obj.cells [(Value.slice Ae v_2.length Ce)].toArray 22), (some b21, Obj.cells [(Value.bool v_3)].toArray 4), (some b16, Obj.cells [(Value.slice Af v_4.length Cf)].toArray 22), (some b11, Obj.cells [(Value.slice Ad group.length Cd)].toArray 22), (some b6, Obj.cells [(Value.slice Ac than.length Cc)].toArray 22), (some b1, Obj.cells [(Value.int .i64 r_.slots), (Value.slice Aa r_.owners.length Ca), (Value.slice Ab r_.costs.length Cb)].toArray 25)] (vI .i64) (than.getD (group.getD v_5.toNat default).toNat default)) (VD.stab _ _) (fun ρ194 w195 g hle hi ht => ?_) ?_
 obtain ⟨-, hst, -⟩ := hle
 obtain ⟨p197, q198, f199⟩ := ht 51 rfl
 refine StepOp_plain (op_loadP ty3 q198 f199 rfl ?_)
 intro v200 h201
 obtain ⟨rfl, Rg⟩ := un_int h201
 exact Goes.same hi (show Vr.vd (vI .i64) _ _ _ _ from ⟨rfl, Rg⟩)
 refine Dw_nil fun w207 g208 hl209 hi210 => ?_
 obtain ⟨-, hst211, -⟩ := hl209
 obtain ⟨hs213, p212⟩ := Step.nx hi210
 rintro v214 h215
 replace h215 : Vr.vd (vI .i64) _ _ _ _ := h215
 obtain ⟨rfl, Rh⟩ := h215
 rintro _ ⟨p217, rfl, f218⟩
 rintro _ rfl
 rintro _ rfl
 rintro v219 h220
 replace h220 : Vr.vd (vI .i64) _ _ _ _ := h220
 obtain ⟨rfl, Ri⟩ := h220
 rintro _ rfl
 rintro _ rfl
 rintro _ rfl
 have p222 : Step (ks [(some b175, o140), (some b26, Obj.cells [(Value.slice Ae v_2.length Ce)].toArray 22), (some b21, Obj.cells [(Value.bool v_3)].toArray 4), (some b16, Obj.cells [(Value.slice Af v_4.length Cf)].toArray 22), (some b11, Obj.cells [(Value.slice Ad group.length Cd)].toArray 22), (some b6, Obj.cells [(Value.slice Ac than.length Cc)].toArray 22), (some b1, Obj.cells [(Value.int .i64 r_.slots), (Value.slice Aa r_.owners.length Ca), (Value.slice Ab r_.costs.length Cb)].toArray 25)] (E106 ++ O)) w152 (ks [(some b175, o140), (some b26, Obj.cells [(Value.slice Ae v_2.length Ce)].toArray 22), (some b21, Obj.cells [(Value.bool v_3)].toArray 4), (some b16, Obj.cells [(Value.slice Af v_4.length Cf)].toArray 22), (some b11, Obj.cells [(Value.slice Ad group.length Cd)].toArray 22), (some b6, Obj.cells [(Value.slice Ac than.length Cc)].toArray 22), (some b1, Obj.cells [(Value.int .i64 r_.slots), (Value.slice Aa r_.owners.length Ca), (Value.slice Ab r_.costs.length Cb)].toArray 25)] (E106 ++ O)) w207 := hst211.trans p212
 replace f218 := f218.step p212; replace Fa := Fa.step p222; replace Fb := Fb.step p222; replace Fc := Fc.step p222; replace Fd := Fd.step p222; replace f83 := f83.step p222; replace F_y93 := F_y93.step p222; replace Ff := Ff.step p222; replace Fg := Fg.step p222; replace f142 := f142.step p222; replace ch118 := ch118.trans p222; replace ch157 := ch157.trans p222; clear p222 hs153
 refine Rg_op rfl (op_geq rfl rfl ?_)
 refine Rg_nil ?_
 refine Wp_cond rfl (fun hc223 => ?_) (fun hc223 => ?_)
 replace hm := bif_t hm hc223
 refine Wp_exit ?_
 have hs224 := hs213.drop 0
 replace Fa := Fa.step (hs213.dropS 0)
 replace Fb := Fb.step (hs213.dropS 0)
 replace Fc := Fc.step (hs213.dropS 0)
 replace Fd := Fd.step (hs213.dropS 0)
 replace f83 := f83.step (hs213.dropS 0)
 replace F_y93 := F_y93.step (hs213.dropS 0)
 replace Ff := Ff.step (hs213.dropS 0)
 replace Fg := Fg.step (hs213.dropS 0)
 replace f142 := f142.step (hs213.dropS 0)
 replace f218 := f218.step (hs213.dropS 0)
 replace ch118 := ch118.trans (hs213.dropS 0)
 replace ch157 := ch157.trans (hs213.dropS 0); clear hs213
 exact hN129 (v_3, v_4, Af, Cf) _ _ hs224 ch118 Ff (jnE2 hsf117 hm)
 replace hm := bif_f hm hc223
 refine Wp_skip ?_
 clear f218
 refine Wp_region ?_
 refine Rg_op rfl (op_addw rfl rfl ?_)
 refine Rg_op rfl (op_move (v := (Value.int .i64 (IntKind.wrap .i64 (v_5 + 1)))) rfl ?_)
 refine Rg_nil ?_
 exact hK150 _ _ ⟨(IntKind.wrap .i64 (v_5 + 1)), _, rfl, ⟨(by repeat (first | with_reducible exact Out.refl _ _ | refine Out.upd ?_ rfl | refine Out.updL ?_ rfl | refine Out.mix' ?_ rfl | exact Out.refl _ _)), rfl, rfl, trivial⟩, ch157, hs213, (inK_wrap .i64 _), jnE1 hsf149 hm⟩
 replace hm := bif_f hm hc158
 refine Wp_exit (Wp_seq ?_)
 clear F_y93 f142
 refine Wp_region ?_
 refine Rg_op rfl (op_move (v := (Value.slice Ag xi107.length Cg)) rfl ?_)
 refine Rg_op_ (op_store (cs := [(Value.slice Af v_4.length Cf)]) (vs := [(Value.slice Ag xi107.length Cg)]) (cs' := [(Value.slice Ag xi107.length Cg)]) (bs' := [(k139, o140), (some b26, Obj.cells [(Value.slice Ae v_2.length Ce)].toArray 22), (some b21, Obj.cells [(Value.bool v_3)].toArray 4), (some b16, Obj.cells [(Value.slice Ag xi107.length Cg)].toArray 22), (some b11, Obj.cells [(Value.slice Ad group.length Cd)].toArray 22), (some b6, Obj.cells [(Value.slice Ac than.length Cc)].toArray 22), (some b1, Obj.cells [(Value.int .i64 r_.slots), (Value.slice Aa r_.owners.length Ca), (Value.slice Ab r_.costs.length Cb)].toArray 25)]) (i := 3) ty22 hs153 rfl rfl rfl rfl rfl (le_lit rfl) rfl rfl rfl ?_)
 intro w225 p226 hs227
 replace Fa := Fa.step p226; replace Fb := Fb.step p226; replace Fc := Fc.step p226; replace Fd := Fd.step p226; replace f83 := f83.step p226; replace Ff := Ff.step p226; replace Fg := Fg.step p226; replace ch118 := ch118.trans p226; replace ch157 := ch157.trans p226; clear p226 hs153
 refine Rg_op_ (op_store (cs := [(Value.bool v_3)]) (vs := [(Value.bool true)]) (cs' := [(Value.bool true)]) (bs' := [(k139, o140), (some b26, Obj.cells [(Value.slice Ae v_2.length Ce)].toArray 22), (some b21, Obj.cells [(Value.bool true)].toArray 4), (some b16, Obj.cells [(Value.slice Ag xi107.length Cg)].toArray 22), (some b11, Obj.cells [(Value.slice Ad group.length Cd)].toArray 22), (some b6, Obj.cells [(Value.slice Ac than.length Cc)].toArray 22), (some b1, Obj.cells [(Value.int .i64 r_.slots), (Value.slice Aa r_.owners.length Ca), (Value.slice Ab r_.costs.length Cb)].toArray 25)]) (i := 2) ty4 hs227 rfl rfl rfl rfl rfl (le_lit rfl) rfl rfl rfl ?_)
 intro w228 p229 hs230
 replace Fa := Fa.step p229; replace Fb := Fb.step p229; replace Fc := Fc.step p229; replace Fd := Fd.step p229; replace f83 := f83.step p229; replace Ff := Ff.step p229; replace Fg := Fg.step p229; replace ch118 := ch118.trans p229; replace ch157 := ch157.trans p229; clear p229 hs227
 refine Rg_nil ?_
 refine Wp_ret ?_
 have hs231 := hs230.drop 0
 replace Fa := Fa.step (hs230.dropS 0)
 replace Fb := Fb.step (hs230.dropS 0)
 replace Fc := Fc.step (hs230.dropS 0)
 replace Fd := Fd.step (hs230.dropS 0)
 replace f83 := f83.step (hs230.dropS 0)
 replace Ff := Ff.step (hs230.dropS 0)
 replace Fg := Fg.step (hs230.dropS 0)
 replace ch118 := ch118.trans (hs230.dropS 0)
 replace ch157 := ch157.trans (hs230.dropS 0); clear hs230
 exact hX130 none (true, xi107, Ag, Cg) _ _ (by simp) hs231 ch118 Fg hm
 rintro D232 ⟨v_3, v_4, Af, Cf⟩ w233 hs234 hst235 Ff hm
 replace hs234 : St ⟨w, [], (D232 :: [])⟩ (D232 :: O) w233 [(some b26, Obj.cells [(Value.slice Ae v_2.length Ce)].toArray 22), (some b21, Obj.cells [(Value.bool v_3)].toArray 4), (some b16, Obj.cells [(Value.slice Af v_4.length Cf)].toArray 22), (some b11, Obj.cells [(Value.slice Ad group.length Cd)].toArray 22), (some b6, Obj.cells [(Value.slice Ac than.length Cc)].toArray 22), (some b1, Obj.cells [(Value.int .i64 r_.slots), (Value.slice Aa r_.owners.length Ca), (Value.slice Ab r_.costs.length Cb)].toArray 25)] := hs234
 replace hst235 : Step (ks [(some b26, Obj.cells [(Value.slice Ae v_2.length Ce)].toArray 22), (some b21, Obj.cells [(Value.bool false)].toArray 4), (some b16, Obj.cells [(Value.slice none 0 0)].toArray 22), (some b11, Obj.cells [(Value.slice Ad group.length Cd)].toArray 22), (some b6, Obj.cells [(Value.slice Ac than.length Cc)].toArray 22), (some b1, Obj.cells [(Value.int .i64 r_.slots), (Value.slice Aa r_.owners.length Ca), (Value.slice Ab r_.costs.length Cb)].toArray 25)] O) w88 (ks [(some b26, Obj.cells [(Value.slice Ae v_2.length Ce)].toArray 22), (some b21, Obj.cells [(Value.bool v_3)].toArray 4), (some b16, Obj.cells [(Value.slice Af v_4.length Cf)].toArray 22), (some b11, Obj.cells [(Value.slice Ad group.length Cd)].toArray 22), (some b6, Obj.cells [(Value.slice Ac than.length Cc)].toArray 22), (some b1, Obj.cells [(Value.int .i64 r_.slots), (Value.slice Aa r_.owners.length Ca), (Value.slice Ab r_.costs.length Cb)].toArray 25)] (D232 :: O)) w233 := hst235
 replace Ff : SlR (rInt .i64) w233 (ks [(some b26, Obj.cells [(Value.slice Ae v_2.length Ce)].toArray 22), (some b21, Obj.cells [(Value.bool v_3)].toArray 4), (some b16, Obj.cells [(Value.slice Af v_4.length Cf)].toArray 22), (some b11, Obj.cells [(Value.slice Ad group.length Cd)].toArray 22), (some b6, Obj.cells [(Value.slice Ac than.length Cc)].toArray 22), (some b1, Obj.cells [(Value.int .i64 r_.slots), (Value.slice Aa r_.owners.length Ca), (Value.slice Ab r_.costs.length Cb)].toArray 25)] (D232 :: O)) Af Cf v_4 := Ff
 replace hm := rng2_z (show rng2 _ _ [] v_3 v_4 = some _ from hm)
 replace hm := jnE2 hk97 (show k96 v_3 v_4 = some _ from hm)
 replace Fa := Fa.step hst235; replace Fb := Fb.step hst235; replace Fc := Fc.step hst235; replace Fd := Fd.step hst235; replace f83 := f83.step hst235; replace F_y93 := F_y93.step hst235; replace ch47 := ch47.trans hst235; clear hst235 hs91
 refine Wp_seq ?_
 obtain ⟨hs237, p238⟩ := hs234.sub (bs' := [(some b21, Obj.cells [(Value.bool v_3)].toArray 4), (some b16, Obj.cells [(Value.slice Af v_4.length Cf)].toArray 22)]) (.cons _ (.cons_cons _ (.cons_cons _ (.cons _ (.cons _ (.cons _ List.Sublist.slnil))))))
 clear Fa Fb Fc Fd f83 F_y93
 replace Ff := Ff.step p238; replace ch47 := ch47.trans p238; clear p238 hs234
 refine Wp_region ?_
 refine Rg_op_ (op_store (cs := [(Value.slice Af v_4.length Cf)]) (vs := [(Value.slice none 0 0)]) (cs' := [(Value.slice none 0 0)]) (bs' := [(some b21, Obj.cells [(Value.bool v_3)].toArray 4), (some b16, Obj.cells [(Value.slice none 0 0)].toArray 22)]) (i := 1) ty22 hs237 rfl rfl rfl rfl rfl (le_lit rfl) rfl rfl rfl ?_)
 intro w239 p240 hs241
 replace Ff := Ff.step p240; replace ch47 := ch47.trans p240; clear p240 hs237
 refine Rg_op_ (op_store (cs := [(Value.bool v_3)]) (vs := [(Value.bool false)]) (cs' := [(Value.bool false)]) (bs' := [(some b21, Obj.cells [(Value.bool false)].toArray 4), (some b16, Obj.cells [(Value.slice none 0 0)].toArray 22)]) (i := 0) ty4 hs241 rfl rfl rfl rfl rfl (le_lit rfl) rfl rfl rfl ?_)
 intro w242 p243 hs244
 replace Ff := Ff.step p243; replace ch47 := ch47.trans p243; clear p243 hs241
 refine Rg_nil ?_
 refine Wp_ret ?_
 obtain ⟨w245, hcl246, hs247, p248⟩ := St.close hs244
 replace Ff := Ff.step p248; replace ch47 := ch47.trans p248; clear p248 hs244
 have hz := (step_all hs247).trans (Step.sub (O' := O) (fun k hk => by simp [hk]))
 replace Ff := Ff.step hz
 refine ⟨_, hcl246, [(Value.slice none 0 0), (Value.bool false)], ⟨res1 (cs := [(Value.slice none 0 0)]) ty22 (i := 1) hs247 rfl rfl rfl, res1 (cs := [(Value.bool false)]) ty4 (i := 0) hs247 rfl rfl rfl, trivial⟩, hs247.ext, ?_⟩
 exact Vr.eq (a := (vT2 (vC (rSl (rInt .i64))) vB)) (x := (([] : List Int), false)) (mkT2 (mkC (mk_sl SlR.nil_)) rfl) (Option.some.inj hm)
 rintro e254 D249 ⟨v_3, v_4, Af, Cf⟩ w250 he253 hs251 hst252 Ff hm
 simp only [List.mem_cons, List.not_mem_nil, or_false] at he253
 subst he253
 replace hs251 : St ⟨w, [], (D249 :: [])⟩ (D249 :: O) w250 [(some b26, Obj.cells [(Value.slice Ae v_2.length Ce)].toArray 22), (some b21, Obj.cells [(Value.bool v_3)].toArray 4), (some b16, Obj.cells [(Value.slice Af v_4.length Cf)].toArray 22), (some b11, Obj.cells [(Value.slice Ad group.length Cd)].toArray 22), (some b6, Obj.cells [(Value.slice Ac than.length Cc)].toArray 22), (some b1, Obj.cells [(Value.int .i64 r_.slots), (Value.slice Aa r_.owners.length Ca), (Value.slice Ab r_.costs.length Cb)].toArray 25)] := hs251
 replace hst252 : Step (ks [(some b26, Obj.cells [(Value.slice Ae v_2.length Ce)].toArray 22), (some b21, Obj.cells [(Value.bool false)].toArray 4), (some b16, Obj.cells [(Value.slice none 0 0)].toArray 22), (some b11, Obj.cells [(Value.slice Ad group.length Cd)].toArray 22), (some b6, Obj.cells [(Value.slice Ac than.length Cc)].toArray 22), (some b1, Obj.cells [(Value.int .i64 r_.slots), (Value.slice Aa r_.owners.length Ca), (Value.slice Ab r_.costs.length Cb)].toArray 25)] O) w88 (ks [(some b26, Obj.cells [(Value.slice Ae v_2.length Ce)].toArray 22), (some b21, Obj.cells [(Value.bool v_3)].toArray 4), (some b16, Obj.cells [(Value.slice Af v_4.length Cf)].toArray 22), (some b11, Obj.cells [(Value.slice Ad group.length Cd)].toArray 22), (some b6, Obj.cells [(Value.slice Ac than.length Cc)].toArray 22), (some b1, Obj.cells [(Value.int .i64 r_.slots), (Value.slice Aa r_.owners.length Ca), (Value.slice Ab r_.costs.length Cb)].toArray 25)] (D249 :: O)) w250 := hst252
 replace Ff : SlR (rInt .i64) w250 (ks [(some b26, Obj.cells [(Value.slice Ae v_2.length Ce)].toArray 22), (some b21, Obj.cells [(Value.bool v_3)].toArray 4), (some b16, Obj.cells [(Value.slice Af v_4.length Cf)].toArray 22), (some b11, Obj.cells [(Value.slice Ad group.length Cd)].toArray 22), (some b6, Obj.cells [(Value.slice Ac than.length Cc)].toArray 22), (some b1, Obj.cells [(Value.int .i64 r_.slots), (Value.slice Aa r_.owners.length Ca), (Value.slice Ab r_.costs.length Cb)].toArray 25)] (D249 :: O)) Af Cf v_4 := Ff
 replace hm := jnE2 hk99 (show k98 v_3 v_4 = some _ from hm)
 replace Fa := Fa.step hst252; replace Fb := Fb.step hst252; replace Fc := Fc.step hst252; replace Fd := Fd.step hst252; replace f83 := f83.step hst252; replace F_y93 := F_y93.step hst252; replace ch47 := ch47.trans hst252; clear hst252 hs91
 obtain ⟨w255, hcl256, hs257, p258⟩ := St.close hs251
 replace Fa := Fa.step p258; replace Fb := Fb.step p258; replace Fc := Fc.step p258; replace Fd := Fd.step p258; replace f83 := f83.step p258; replace F_y93 := F_y93.step p258; replace Ff := Ff.step p258; replace ch47 := ch47.trans p258; clear p258 hs251
 have hz := (step_all hs257).trans (Step.sub (O' := O) (fun k hk => by simp [hk]))
 replace Fa := Fa.step hz; replace Fb := Fb.step hz; replace Fc := Fc.step hz; replace Fd := Fd.step hz; replace f83 := f83.step hz; replace F_y93 := F_y93.step hz; replace Ff := Ff.step hz
 refine ⟨_, hcl256, [(Value.slice Af v_4.length Cf), (Value.bool v_3)], ⟨res1 (cs := [(Value.slice Af v_4.length Cf)]) ty22 (i := 2) hs257 rfl rfl rfl, res1 (cs := [(Value.bool v_3)]) ty4 (i := 1) hs257 rfl rfl rfl, trivial⟩, hs257.ext, ?_⟩
 exact Vr.eq (a := (vT2 (vC (rSl (rInt .i64))) vB)) (x := (v_4, v_3)) (mkT2 (mkC (mk_sl Ff)) rfl) (Option.some.inj hm)

def m23_coalition_Stable_B1 (r_ : XRound) (costs_1 : (List Int)) (v_2 : Int) (k96 : Option (Bool × Int)) (sf109 : (List Int) → Int → Option (Bool × Int)) (group_1 : List Int) (v_3 : Int) : Option (Bool × Int) :=
 bif (decide (v_3 < 8)) then
  ck ((0 : Int) ≤ v_3) <|
  bif (decide ((Go.bits .and .i64 (v_2 / 2 ^ min v_3.toNat (IntKind.bits .i64)) 1) = 0)) then
   sf109 group_1 (IntKind.wrap .i64 (v_3 + 1))
  else
   (m48_slices_Containsint_int_ r_.owners v_3).bind fun contains_1 =>
   bif (!contains_1) then
    k96
   else
    ck ((group_1.length + [v_3].length) * 8 ≤ 140737488355328) <|
    sf109 (group_1 ++ [v_3]) (IntKind.wrap .i64 (v_3 + 1))
 else
  bif (decide ((group_1.length : Int) = 0)) then
   k96
  else
   (m49_coalition_blocks r_ costs_1 group_1).bind fun blocks_1 =>
   bif blocks_1.2 then
    some (false, 0)
   else
    k96

def m23_coalition_Stable_B0 (r_ : XRound) (costs_1 : (List Int)) (sf84 : Int → Option (Bool × Int)) (v_2 : Int) : Option (Bool × Int) :=
 bif (decide (v_2 < 256)) then
  jn (  sf84 (IntKind.wrap .i64 (v_2 + 1)))
  (fun k96 =>
   loop2 (m23_coalition_Stable_B1 r_ costs_1 v_2 k96) (((8 : Int) - 0).toNat + 1) ([] : List Int) 0)
 else
  some (true, 0)

def m23_coalition_Stable (r_ : XRound) (slots : List Int) : Option (Bool × Int) :=
 (m27_coalition_Worse r_ slots).bind fun worse_1 =>
 jn (fun (v_1 : Bool) =>
  bif v_1 then
   some (false, worse_1.2)
  else
   (m47_coalition_own r_).bind fun own_1 =>
   (m46_coalition_costs r_ own_1 slots).bind fun costs_1 =>
   loop1 (m23_coalition_Stable_B0 r_ costs_1) (((256 : Int) - 0).toNat + 1) 0)
 (fun k21 =>
  bif (decide (worse_1.2 ≠ 0)) then
   k21 true
  else
   k21 (decide (0 < (worse_1.1.length : Int))))

theorem c23_coalition_Stable {w : World} {O : List Nat} {r_ : XRound} {slots : List Int} {Aa : Option Addr} {Ca : Nat} {Ab : Option Addr} {Cb : Nat} {Ac : Option Addr} {Cc : Nat} (hO : ∀ k ∈ O, k < w.heap.size) (Ra : InK .i64 r_.slots) (Fa : SlR (rInt .i64) w O Aa Ca r_.owners) (Fb : SlR (rSl (rInt .i64)) w O Ab Cb r_.costs) (Fc : SlR (rInt .i64) w O Ac Cc slots) {x : Bool × Int} (hm : m23_coalition_Stable r_ slots = some x) :
 Ok Try.prog 23 [(Value.agg [(Value.int .i64 r_.slots), (Value.slice Aa r_.owners.length Ca), (Value.slice Ab r_.costs.length Cb)].toArray), (Value.slice Ac slots.length Cc)] w O (vT2 vB (vI .i64)) x := by
 unfold m23_coalition_Stable at hm
 refine Fn_of_Wp (n := 65) (xs := [.tmp 4, .tmp 5]) Try.func23 rfl Try.ntmps23 Try.results23 rfl ?_
 have hs := St.start hO
 refine Wp_seq (Wp_region ?_)
 refine Rg_op rfl (op_box (cs := [(Value.int .i64 r_.slots), (Value.slice Aa r_.owners.length Ca), (Value.slice Ab r_.costs.length Cb)]) hs rfl rfl ?_)
 intro b1 w2 _ p3 hs4
 replace Fa := Fa.step p3; replace Fb := Fb.step p3; replace Fc := Fc.step p3; clear p3
 refine Rg_op rfl (op_assign (v := (Value.bool false)) rfl ?_)
 refine Rg_op rfl (op_assign (v := (Value.int .i64 0)) rfl ?_)
 refine Rg_nil ?_
 refine Wp_scope (Wp_seq (Wp_region ?_))
 refine Rg_op rfl (op_loadA (cs := [(Value.int .i64 r_.slots), (Value.slice Aa r_.owners.length Ca), (Value.slice Ab r_.costs.length Cb)]) (vs := [(Value.int .i64 r_.slots), (Value.slice Aa r_.owners.length Ca), (Value.slice Ab r_.costs.length Cb)]) (i := 0) ty25 hs4 rfl rfl rfl rfl ?_)
 refine Rg_op rfl (op_move (v := (Value.slice Ac slots.length Cc)) rfl ?_)
 replace hm := bd hm; obtain ⟨worse_1, hv6, hm⟩ := hm
 refine Rg_op rfl (op_call Try.call27 (c27_coalition_Worse (r_ := r_) (slots := slots) hs4.ltw Ra Fa Fb Fc hv6) rfl ?_)
 rintro v7 w8 ⟨hx9, h10⟩
 have hs11 := hs4.call hx9
 have p12 := Step.ext (O := ks [(some b1, Obj.cells [(Value.int .i64 r_.slots), (Value.slice Aa r_.owners.length Ca), (Value.slice Ab r_.costs.length Cb)].toArray 25)] O) hx9
 clear hx9
 replace Fa := Fa.step p12; replace Fb := Fb.step p12; replace Fc := Fc.step p12; clear p12 hs4
 obtain ⟨v13, v14, rfl, h15, h16⟩ := h10
 obtain ⟨Ad, Cd, rfl, Fd⟩ := un_sl h15
 obtain ⟨rfl, Rb⟩ := h16
 refine Rg_op rfl (op_move (v := (Value.tuple [(Value.slice Ad worse_1.1.length Cd), (Value.int .i64 worse_1.2)].toArray)) rfl ?_)
 refine Rg_op rfl (op_extract (v := (Value.slice Ad worse_1.1.length Cd)) rfl rfl ?_)
 refine Rg_op rfl (op_extract (v := (Value.int .i64 worse_1.2)) rfl rfl ?_)
 refine Rg_op rfl (op_assign (v := (Value.slice Ad worse_1.1.length Cd)) rfl ?_)
 refine Rg_op rfl (op_assign (v := (Value.int .i64 worse_1.2)) rfl ?_)
 refine Rg_nil (Wp_seq ?_)
 refine Wp_reset [] [(1, (Value.slice Ac slots.length Cc)), (2, (Value.pointer (some ⟨b1, 0, none⟩))), (5, (Value.int .i64 worse_1.2)), (6, (Value.slice Ad worse_1.1.length Cd))] rfl ⟨rfl, rfl, rfl, rfl, trivial⟩ fun ξ19 => ?_
 replace hm := jn_elim hm; obtain ⟨k21, hk22, hm⟩ := hm
 refine Wp_seqJ [19, 20, 21, 22, 23, 24, 25] (fun fr w' => ∃ (v_1 : Bool) (Ebs : Ents), Ebs = [(some b1, Obj.cells [(Value.int .i64 r_.slots), (Value.slice Aa r_.owners.length Ca), (Value.slice Ab r_.costs.length Cb)].toArray 25)] ∧ fr [] [(25, (Value.bool v_1))] ∧ Step (ks [(some b1, Obj.cells [(Value.int .i64 r_.slots), (Value.slice Aa r_.owners.length Ca), (Value.slice Ab r_.costs.length Cb)].toArray 25)] O) w8 (ks Ebs O) w' ∧ St ⟨w, [], []⟩ O w' Ebs ∧ k21 v_1 = some x) ?_ ?_
 rintro ρ28 w24 ⟨v_1, Ebs, hEbs, hfr27, hst26, hs25, hm⟩
 replace hm := jnE1 hk22 hm
 subst hEbs; rw [hfr27.eq]; clear hfr27
 replace Fa := Fa.step hst26; replace Fb := Fb.step hst26; replace Fc := Fc.step hst26; replace Fd := Fd.step hst26; clear hst26 hs11
 refine Wp_cond rfl (fun hc29 => ?_) (fun hc29 => ?_)
 replace hm := bif_t hm hc29
 refine Wp_seq ?_
 obtain ⟨hs30, p31⟩ := hs25.sub (bs' := []) (.cons _ List.Sublist.slnil)
 clear Fa Fb Fc Fd
 clear p31 hs25
 refine Wp_region ?_
 refine Rg_op rfl (op_move (v := (Value.int .i64 worse_1.2)) rfl ?_)
 refine Rg_op rfl (op_assign (v := (Value.bool false)) rfl ?_)
 refine Rg_op rfl (op_assign (v := (Value.int .i64 worse_1.2)) rfl ?_)
 refine Rg_nil ?_
 refine Wp_ret ?_
 have hz := step_all hs30
 refine ⟨_, (show Closes [] _ _ from rfl), [(Value.bool false), (Value.int .i64 worse_1.2)], ⟨rfl, rfl, trivial⟩, hs30.ext, ?_⟩
 exact Vr.eq (a := (vT2 vB (vI .i64))) (x := (false, worse_1.2)) (mkT2 rfl ⟨rfl, Rb⟩) (Option.some.inj hm)
 replace hm := bif_f hm hc29
 refine Wp_skip (Wp_seq ?_)
 clear Fd
 refine Wp_drawR (g0 := []) (m := 4) (fl := []) (TS_inv hs25) rfl (.inl rfl) rfl (by decide +kernel) ?_  -- 4
 refine Dw_eq (Value.agg [(Value.int .i64 r_.slots), (Value.slice Aa r_.owners.length Ca), (Value.slice Ab r_.costs.length Cb)].toArray) (fun ρ32 w33 g hle hi ht => ?_) ?_
 obtain ⟨-, hst, -⟩ := hle
 have hsn := (Step.nx hi).1
 refine StepOp_plain (op_loadA (cs := [(Value.int .i64 r_.slots), (Value.slice Aa r_.owners.length Ca), (Value.slice Ab r_.costs.length Cb)]) (vs := [(Value.int .i64 r_.slots), (Value.slice Aa r_.owners.length Ca), (Value.slice Ab r_.costs.length Cb)]) (i := 0) ty25 hsn (ht 2 rfl) rfl rfl rfl ?_)
 exact Goes.same hi rfl
 refine Dw_eq (Value.agg [(Value.int .i64 r_.slots), (Value.slice Aa r_.owners.length Ca), (Value.slice Ab r_.costs.length Cb)].toArray) (fun ρ35 w36 g hle hi ht => ?_) ?_
 obtain ⟨-, hst, -⟩ := hle
 have hsn := (Step.nx hi).1
 refine StepOp_plain (op_loadA (cs := [(Value.int .i64 r_.slots), (Value.slice Aa r_.owners.length Ca), (Value.slice Ab r_.costs.length Cb)]) (vs := [(Value.int .i64 r_.slots), (Value.slice Aa r_.owners.length Ca), (Value.slice Ab r_.costs.length Cb)]) (i := 0) ty25 hsn (ht 2 rfl) rfl rfl rfl ?_)
 exact Goes.same hi rfl
 replace hm := bd hm; obtain ⟨own_1, hv41, hm⟩ := hm
 refine Dw_op (VD O [(some b1, Obj.cells [(Value.int .i64 r_.slots), (Value.slice Aa r_.owners.length Ca), (Value.slice Ab r_.costs.length Cb)].toArray 25)] (vC (rSl (rInt .i64))) own_1) (VD.stab _ _) (fun ρ38 w39 g hle hi ht => ?_) ?_
 obtain ⟨-, hst, -⟩ := hle
 replace Fa := Fa.step hst; replace Fb := Fb.step hst
 refine StepOp_plain (op_call Try.call47 (c47_coalition_own (O := ks (ents g ++ [(some b1, Obj.cells [(Value.int .i64 r_.slots), (Value.slice Aa r_.owners.length Ca), (Value.slice Ab r_.costs.length Cb)].toArray 25)]) O) (r_ := r_) hi.ltw Ra Fa Fb hv41) (by simp only [List.map, Array.toList, (show ev _ (.tmp 28) = _ from (ht 28 rfl))] <;> rfl) ?_)
 rintro v42 w43 ⟨hx44, h45⟩
 exact Goes.call hi hx44 h45
 refine Dw_eq (Value.slice Ac slots.length Cc) (fun ρ47 w48 g hle hi ht => ?_) ?_
 obtain ⟨-, hst, -⟩ := hle
 refine StepOp_plain (op_move (v := (Value.slice Ac slots.length Cc)) (ht 1 rfl) ?_)
 exact Goes.same hi rfl
 refine Dw_nil fun w54 g55 hl56 hi57 => ?_
 obtain ⟨-, hst58, -⟩ := hl56
 obtain ⟨hs60, p59⟩ := Step.nx hi57
 rintro _ rfl
 rintro v61 h62
 replace h62 : Vr.vd (vC (rSl (rInt .i64))) _ _ _ _ := h62
 obtain ⟨Ae, Ce, rfl, Fe⟩ := un_sl h62
 rintro _ rfl
 rintro _ rfl
 have p64 : Step (ks [(some b1, Obj.cells [(Value.int .i64 r_.slots), (Value.slice Aa r_.owners.length Ca), (Value.slice Ab r_.costs.length Cb)].toArray 25)] O) w24 (ks [(some b1, Obj.cells [(Value.int .i64 r_.slots), (Value.slice Aa r_.owners.length Ca), (Value.slice Ab r_.costs.length Cb)].toArray 25)] O) w54 := hst58.trans p59
 replace Fe := Fe.step p59; replace Fa := Fa.step p64; replace Fb := Fb.step p64; replace Fc := Fc.step p64; clear p64 hs25
 replace hm := bd hm; obtain ⟨costs_1, hv65, hm⟩ := hm
 refine Rg_op rfl (op_call Try.call46 (g46_coalition_costs (r_ := r_) (flights := own_1) (slots := slots) hs60.ltw Ra Fa Fb Fe Fc hv65) rfl ?_)
 rintro _ w67 ⟨hx68, a71, c72, k73, o74, rfl, hk75, f76⟩
 obtain ⟨hs70, p77⟩ := hs60.callG (o := o74) hx68 hk75
 rw [← ks_cons (o := o74)] at f76
 replace Fa := Fa.step p77; replace Fb := Fb.step p77; replace Fc := Fc.step p77; replace Fe := Fe.step p77; clear p77 hs60
 refine Rg_op rfl (op_assign (v := (Value.slice a71 costs_1.length c72)) rfl ?_)
 refine Rg_nil (Wp_seq ?_)
 refine Wp_label (Wp_seq (Wp_seq ?_))
 clear Fc Fe
 refine Wp_region ?_
 refine Rg_op rfl (op_move (v := (Value.int .i64 0)) rfl ?_)
 refine Rg_nil (Wp_block ?_)
 obtain ⟨hs80, p81, f79⟩ := Gs.publish (i := 0) hs70 rfl f76
 replace Fa := Fa.step p81; replace Fb := Fb.step p81; clear p81 hs70
 refine Wp_reset [] [(2, (Value.pointer (some ⟨b1, 0, none⟩))), (7, (Value.slice a71 costs_1.length c72)), (32, (Value.int .i64 0))] rfl ⟨rfl, rfl, rfl, trivial⟩ fun ξ83 => ?_
 refine Wp_loopM [4, 5, 8, 9, 10, 11, 12, 32, 33, 34, 35, 36, 37, 38, 39, 40, 41, 42, 43, 44, 45, 46, 47, 48, 49, 50, 51, 52, 53, 54, 55, 56, 57, 58, 59, 60, 61, 62, 63, 64] (fun m fr w' => ∃ (v_2 : Int) (Ebs : Ents), Ebs = [(some b1, Obj.cells [(Value.int .i64 r_.slots), (Value.slice Aa r_.owners.length Ca), (Value.slice Ab r_.costs.length Cb)].toArray 25)] ∧ fr [] [(32, (Value.int .i64 v_2))] ∧ Step (ks [(some b1, Obj.cells [(Value.int .i64 r_.slots), (Value.slice Aa r_.owners.length Ca), (Value.slice Ab r_.costs.length Cb)].toArray 25)] O) w67 (ks Ebs O) w' ∧ St ⟨w, [], []⟩ O w' Ebs ∧ InK .i64 v_2 ∧ loop1 (m23_coalition_Stable_B0 r_ costs_1) m v_2 = some x) (((256 : Int) - 0).toNat + 1) ⟨0, _, rfl, ⟨Out.refl _ _, rfl, rfl, trivial⟩, Step.refl _ _, hs80, (show InK .i64 0 from by decide), hm⟩ ?_ ?_
 rintro _ _ ⟨_, _, _, _, _, _, _, hm⟩; exact loop1_z hm
 rintro m87 K86 hK86 ρ92 w88 ⟨v_2, Ebs, hEbs, hfr91, hst90, hs89, Rc, hm⟩
 obtain ⟨sf84, hsf85, hm⟩ := loop1_s hm; unfold m23_coalition_Stable_B0 at hm
 subst hEbs; rw [hfr91.eq]; clear hfr91
 replace Fa := Fa.step hst90; replace Fb := Fb.step hst90; replace f79 := f79.step hst90
 have ch93 := hst90
 refine Wp_seq (Wp_region ?_)
 refine Rg_op rfl (op_lss rfl rfl ?_)
 refine Rg_nil (Wp_seq ?_)
 refine Wp_cond rfl (fun hc94 => ?_) (fun hc94 => ?_)
 replace hm := bif_t hm hc94
 refine Wp_skip ?_
 refine Wp_reset2 [4, 5, 8, 9, 10, 11, 12, 32, 33, 34, 35, 36, 37, 38, 39, 40, 41, 42, 43, 44, 45, 46, 47, 48, 49, 50, 51, 52, 53, 54, 55, 56, 57, 58, 59, 60, 61, 62, 63, 64] [] (updL ⟨ξ83, []⟩ [(2, (Value.pointer (some ⟨b1, 0, none⟩))), (7, (Value.slice a71 costs_1.length c72)), (32, (Value.int .i64 0))]) [(32, (Value.int .i64 v_2))] (by repeat (first | with_reducible exact Out.refl _ _ | refine Out.upd ?_ rfl | refine Out.updL ?_ rfl | refine Out.mix' ?_ rfl | exact Out.refl _ _)) rfl ⟨rfl, trivial⟩ fun ξ95 => ?_
 replace hm := jn_elim hm; obtain ⟨k96, hk97, hm⟩ := hm
 refine Wp_seqJ [4, 5, 8, 9, 10, 11, 12, 34, 35, 36, 37, 38, 39, 40, 41, 42, 43, 44, 45, 46, 47, 48, 49, 50, 51, 52, 53, 54, 55, 56, 57, 58, 59, 60, 61, 62, 63] (fun fr w' => ∃ (Ebs : Ents), Ebs = [(some b1, Obj.cells [(Value.int .i64 r_.slots), (Value.slice Aa r_.owners.length Ca), (Value.slice Ab r_.costs.length Cb)].toArray 25)] ∧ fr [] [] ∧ Step (ks [(some b1, Obj.cells [(Value.int .i64 r_.slots), (Value.slice Aa r_.owners.length Ca), (Value.slice Ab r_.costs.length Cb)].toArray 25)] O) w88 (ks Ebs O) w' ∧ St ⟨w, [], []⟩ O w' Ebs ∧ k96 = some x) ?_ ?_
 rintro ρ103 w99 ⟨Ebs, hEbs, hfr102, hst101, hs100, hm⟩
 replace hm := jnE0 hk97 hm
 subst hEbs; rw [hfr102.eq]; clear hfr102
 replace Fa := Fa.step hst101; replace Fb := Fb.step hst101; replace f79 := f79.step hst101; replace ch93 := ch93.trans hst101; clear hst101 hs89
 refine Wp_region ?_
 refine Rg_op rfl (op_addw rfl rfl ?_)
 refine Rg_op rfl (op_move (v := (Value.int .i64 (IntKind.wrap .i64 (v_2 + 1)))) rfl ?_)
 refine Rg_nil ?_
 exact hK86 _ _ ⟨(IntKind.wrap .i64 (v_2 + 1)), _, rfl, ⟨(by repeat (first | with_reducible exact Out.refl _ _ | refine Out.upd ?_ rfl | refine Out.updL ?_ rfl | refine Out.mix' ?_ rfl | exact Out.refl _ _)), rfl, rfl, trivial⟩, ch93, hs100, (inK_wrap .i64 _), jnE1 hsf85 hm⟩
 intro K98 hK98
 have ch104 := Step.refl (ks [(some b1, Obj.cells [(Value.int .i64 r_.slots), (Value.slice Aa r_.owners.length Ca), (Value.slice Ab r_.costs.length Cb)].toArray 25)] O) w88
 refine Wp_block (Wp_seq (Wp_region ?_))
 refine Rg_op rfl (op_move (v := (Value.int .i64 v_2)) rfl ?_)
 refine Rg_op rfl (op_assign (v := (Value.int .i64 v_2)) rfl ?_)
 refine Rg_nil (Wp_seq (Wp_region ?_))
 refine Rg_op rfl (op_assign (v := (Value.slice none 0 0)) rfl ?_)
 refine Rg_nil (Wp_seq (Wp_seq (Wp_region ?_)))
 refine Rg_op rfl (op_move (v := (Value.int .i64 0)) rfl ?_)
 refine Rg_nil (Wp_block ?_)
 refine Wp_reset2 [4, 5, 8, 9, 10, 11, 12, 34, 35, 36, 37, 38, 39, 40, 41, 42, 43, 44, 45, 46, 47, 48, 49, 50, 51, 52, 53, 54, 55, 56, 57, 58, 59, 60, 61, 62, 63] [] (updL (mix [4, 5, 8, 9, 10, 11, 12, 32, 33, 34, 35, 36, 37, 38, 39, 40, 41, 42, 43, 44, 45, 46, 47, 48, 49, 50, 51, 52, 53, 54, 55, 56, 57, 58, 59, 60, 61, 62, 63, 64] [] ξ95 (updL ⟨ξ83, []⟩ [(2, (Value.pointer (some ⟨b1, 0, none⟩))), (7, (Value.slice a71 costs_1.length c72)), (32, (Value.int .i64 0))])) [(32, (Value.int .i64 v_2))]) [(8, (Value.int .i64 v_2)), (9, (Value.slice none 0 0)), (35, (Value.int .i64 0))] (by repeat (first | with_reducible exact Out.refl _ _ | refine Out.upd ?_ rfl | refine Out.updL ?_ rfl | refine Out.mix' ?_ rfl | exact Out.refl _ _)) rfl ⟨rfl, rfl, rfl, trivial⟩ fun ξ108 => ?_
 have hs113 := hs89.ghost (Obj.cells #[] 3)
 refine Wp_loopM [9, 10, 35, 36, 37, 38, 39, 40, 41, 42, 43, 44, 45, 46, 47, 48, 49, 50, 51, 52] (fun m fr w' => ∃ (group_1 : List Int) (v_3 : Int) (Af : Option Addr) (Cf : Nat) (k_g106 : Option Nat) (o_g106 : Obj) (Ebs : Ents), Ebs = [(k_g106, o_g106), (some b1, Obj.cells [(Value.int .i64 r_.slots), (Value.slice Aa r_.owners.length Ca), (Value.slice Ab r_.costs.length Cb)].toArray 25)] ∧ fr [] [(9, (Value.slice Af group_1.length Cf)), (35, (Value.int .i64 v_3))] ∧ Step (ks [(none, (Obj.cells #[] 3)), (some b1, Obj.cells [(Value.int .i64 r_.slots), (Value.slice Aa r_.owners.length Ca), (Value.slice Ab r_.costs.length Cb)].toArray 25)] O) w88 (ks Ebs O) w' ∧ St ⟨w, [], []⟩ O w' Ebs ∧ Gs (rInt .i64) 3 w' (ks Ebs O) Af Cf group_1 k_g106 o_g106 ∧ InK .i64 v_3 ∧ loop2 (m23_coalition_Stable_B1 r_ costs_1 v_2 k96) m group_1 v_3 = some x) (((8 : Int) - 0).toNat + 1) ⟨([] : List Int), 0, none, 0, none, (Obj.cells #[] 3), _, rfl, ⟨Out.refl _ _, rfl, rfl, rfl, trivial⟩, Step.refl _ _, hs113, Gs.nil_, (show InK .i64 0 from by decide), hm⟩ ?_ ?_
 rintro _ _ ⟨_, _, _, _, _, _, _, _, _, _, _, _, _, hm⟩; exact loop2_z hm
 rintro m112 K111 hK111 ρ119 w115 ⟨group_1, v_3, Af, Cf, k_g106, o_g106, Ebs, hEbs, hfr118, hst117, hs116, Ff, Rd, hm⟩
 obtain ⟨sf109, hsf110, hm⟩ := loop2_s hm; unfold m23_coalition_Stable_B1 at hm
 subst hEbs; rw [hfr118.eq]; clear hfr118
 replace Fa := Fa.step hst117; replace Fb := Fb.step hst117; replace f79 := f79.step hst117; replace ch93 := ch93.trans hst117; replace ch104 := ch104.trans hst117
 have ch120 := hst117
 refine Wp_seq (Wp_region ?_)
 refine Rg_op rfl (op_lss rfl rfl ?_)
 refine Rg_nil (Wp_seq ?_)
 refine Wp_cond rfl (fun hc121 => ?_) (fun hc121 => ?_)
 replace hm := bif_t hm hc121
 refine Wp_skip (Wp_seq (Wp_block (Wp_seq (Wp_region ?_))))
 refine Rg_op rfl (op_move (v := (Value.int .i64 v_3)) rfl ?_)
 refine Rg_op rfl (op_assign (v := (Value.int .i64 v_3)) rfl ?_)
 refine Rg_nil (Wp_seq (Wp_seq (Wp_region ?_)))
 refine Rg_op rfl (op_move (v := (Value.int .i64 v_2)) rfl ?_)
 refine Rg_op rfl (op_move (v := (Value.int .i64 v_3)) rfl ?_)
 replace hm := ck_some hm; obtain ⟨hc122, hm⟩ := hm
 refine Rg_op rfl (op_shr rfl rfl hc122 ?_)
 refine Rg_op rfl (op_and rfl rfl ?_)
 refine Rg_op rfl (op_eql rfl rfl ?_)
 refine Rg_nil ?_
 refine Wp_cond rfl (fun hc123 => ?_) (fun hc123 => ?_)
 replace hm := bif_t hm hc123
 refine Wp_exit (Wp_region ?_)
 refine Rg_op rfl (op_addw rfl rfl ?_)
 refine Rg_op rfl (op_move (v := (Value.int .i64 (IntKind.wrap .i64 (v_3 + 1)))) rfl ?_)
 refine Rg_nil ?_
 exact hK111 _ _ ⟨group_1, (IntKind.wrap .i64 (v_3 + 1)), Af, Cf, k_g106, o_g106, _, rfl, ⟨(by repeat (first | with_reducible exact Out.refl _ _ | refine Out.upd ?_ rfl | refine Out.updL ?_ rfl | refine Out.mix' ?_ rfl | exact Out.refl _ _)), rfl, rfl, rfl, trivial⟩, ch120, hs116, Ff, (inK_wrap .i64 _), jnE2 hsf110 hm⟩
 replace hm := bif_f hm hc123
 refine Wp_skip (Wp_seq (Wp_seq (Wp_region ?_)))
 refine Rg_op rfl (op_fieldAddr ty25 rfl ty22 (by decide) rfl (rfl : _ = (⟨_, 1, none⟩ : Addr)) ?_)
 refine Rg_op rfl (op_load (cs := [(Value.int .i64 r_.slots), (Value.slice Aa r_.owners.length Ca), (Value.slice Ab r_.costs.length Cb)]) (i := 1) ty22 hs116 rfl rfl rfl ?_)
 refine Rg_op rfl (op_move (v := (Value.int .i64 v_3)) rfl ?_)
 replace hm := bd hm; obtain ⟨contains_1, hv124, hm⟩ := hm
 refine Rg_op rfl (op_call Try.call48 (c48_slices_Containsint_int_ (s := r_.owners) (v := v_3) hs116.ltw Fa Rd hv124) rfl ?_)
 rintro v125 w126 ⟨hx127, h128⟩
 have hs129 := hs116.call hx127
 have p130 := Step.ext (O := ks [(k_g106, o_g106), (some b1, Obj.cells [(Value.int .i64 r_.slots), (Value.slice Aa r_.owners.length Ca), (Value.slice Ab r_.costs.length Cb)].toArray 25)] O) hx127
 clear hx127
 replace Fa := Fa.step p130; replace Fb := Fb.step p130; replace f79 := f79.step p130; replace Ff := Ff.step p130; replace ch93 := ch93.trans p130; replace ch104 := ch104.trans p130; replace ch120 := ch120.trans p130; clear p130 hs116
 obtain rfl := h128
 refine Rg_op rfl (op_not rfl ?_)
 refine Rg_nil ?_
 refine Wp_cond rfl (fun hc132 => ?_) (fun hc132 => ?_)
 replace hm := bif_t hm hc132
 refine Wp_exit ?_
 have hs133 := hs129.drop 0
 replace Fa := Fa.step (hs129.dropS 0)
 replace Fb := Fb.step (hs129.dropS 0)
 replace f79 := f79.step (hs129.dropS 0)
 replace Ff := Ff.step (hs129.dropS 0)
 replace ch93 := ch93.trans (hs129.dropS 0)
 replace ch104 := ch104.trans (hs129.dropS 0)
 replace ch120 := ch120.trans (hs129.dropS 0); clear hs129
 exact hK98 _ _ ⟨_, rfl, ⟨(by repeat (first | with_reducible exact Out.refl _ _ | refine Out.upd ?_ rfl | refine Out.updL ?_ rfl | refine Out.mix' ?_ rfl | exact Out.refl _ _)), rfl, trivial⟩, ch104, hs133, hm⟩
 replace hm := bif_f hm hc132
 refine Wp_skip (Wp_region ?_)
 refine Rg_op rfl (op_move (v := (Value.slice Af group_1.length Cf)) rfl ?_)
 refine Rg_op rfl (op_move (v := (Value.int .i64 v_3)) rfl ?_)
 refine Rg_op rfl (op_buildSlice (cs := [(Value.int .i64 v_3)]) (parts := [(0, .tmp 49)]) ty22 ty3 hs129 (by decide) rfl ?_)
 intro b134 w135 hx138 p136 hs137
 replace Fa := Fa.step p136; replace Fb := Fb.step p136; replace f79 := f79.step p136; replace Ff := Ff.step p136; replace ch93 := ch93.trans p136; replace ch104 := ch104.trans p136; replace ch120 := ch120.trans p136; clear p136 hs129
 replace hm := ck_some hm; obtain ⟨hc140, hm⟩ := hm
 refine Rg_op rfl (op_append (q := (rInt .i64)) (i := 1) (xs := group_1) (ys := [v_3]) (news := [(Value.int .i64 v_3)]) ty22 ty3 rfl (by decide) hs137 rfl rfl Ff rfl (Src.owned' (len := 1) (hs137.get (i := 0) rfl) rfl) (show Els (rInt .i64) _ _ [(Value.int .i64 v_3)] [v_3] from ⟨_, _, rfl, (mk_int Rd), Els.nil⟩) hc140 (by have := hc140; simp only [maxLen]; omega) ?_)
 intro a144 c145 k146 o147 w141 p142 hs143 f148
 replace Fa := Fa.step p142; replace Fb := Fb.step p142; replace f79 := f79.step p142; replace ch93 := ch93.trans p142; replace ch104 := ch104.trans p142; replace ch120 := ch120.trans p142; clear p142 hs137
 have hs149 := hs143.drop 0
 replace Fa := Fa.step (hs143.dropS 0)
 replace Fb := Fb.step (hs143.dropS 0)
 replace f79 := f79.step (hs143.dropS 0)
 replace f148 := f148.step (hs143.dropS 0)
 replace ch93 := ch93.trans (hs143.dropS 0)
 replace ch104 := ch104.trans (hs143.dropS 0)
 replace ch120 := ch120.trans (hs143.dropS 0); clear hs143
 refine Rg_op rfl (op_assign (v := (Value.slice a144 (group_1 ++ [v_3]).length c145)) rfl ?_)
 refine Rg_nil (Wp_region ?_)
 refine Rg_op rfl (op_addw rfl rfl ?_)
 refine Rg_op rfl (op_move (v := (Value.int .i64 (IntKind.wrap .i64 (v_3 + 1)))) rfl ?_)
 refine Rg_nil ?_
 exact hK111 _ _ ⟨(group_1 ++ [v_3]), (IntKind.wrap .i64 (v_3 + 1)), a144, c145, k146, o147, _, rfl, ⟨(by repeat (first | with_reducible exact Out.refl _ _ | refine Out.upd ?_ rfl | refine Out.updL ?_ rfl | refine Out.mix' ?_ rfl | exact Out.refl _ _)), rfl, rfl, rfl, trivial⟩, ch120, hs149, f148, (inK_wrap .i64 _), jnE2 hsf110 hm⟩
 replace hm := bif_f hm hc121
 refine Wp_exit (Wp_seq (Wp_seq (Wp_region ?_)))
 refine Rg_op rfl (op_move (v := (Value.slice Af group_1.length Cf)) rfl ?_)
 refine Rg_op rfl (op_len Try.underlying22 rfl ?_)
 have rl150 := inK_lenG Ff
 refine Rg_op rfl (op_eql rfl rfl ?_)
 refine Rg_nil ?_
 refine Wp_cond rfl (fun hc151 => ?_) (fun hc151 => ?_)
 replace hm := bif_t hm hc151
 refine Wp_exit ?_
 have hs152 := hs116.drop 0
 replace Fa := Fa.step (hs116.dropS 0)
 replace Fb := Fb.step (hs116.dropS 0)
 replace f79 := f79.step (hs116.dropS 0)
 replace Ff := Ff.step (hs116.dropS 0)
 replace ch93 := ch93.trans (hs116.dropS 0)
 replace ch104 := ch104.trans (hs116.dropS 0)
 replace ch120 := ch120.trans (hs116.dropS 0); clear hs116
 exact hK98 _ _ ⟨_, rfl, ⟨(by repeat (first | with_reducible exact Out.refl _ _ | refine Out.upd ?_ rfl | refine Out.updL ?_ rfl | refine Out.mix' ?_ rfl | exact Out.refl _ _)), rfl, trivial⟩, ch104, hs152, hm⟩
 replace hm := bif_f hm hc151
 refine Wp_skip (Wp_seq (Wp_region ?_))
 refine Rg_op rfl (op_loadA (cs := [(Value.int .i64 r_.slots), (Value.slice Aa r_.owners.length Ca), (Value.slice Ab r_.costs.length Cb)]) (vs := [(Value.int .i64 r_.slots), (Value.slice Aa r_.owners.length Ca), (Value.slice Ab r_.costs.length Cb)]) (i := 1) ty25 hs116 rfl rfl rfl rfl ?_)
 refine Rg_op rfl (op_move (v := (Value.slice a71 costs_1.length c72)) rfl ?_)
 refine Rg_op rfl (op_move (v := (Value.slice Af group_1.length Cf)) rfl ?_)
 obtain ⟨hs154, p155, f153⟩ := Gs.publish (i := 0) hs116 rfl Ff
 replace Fa := Fa.step p155; replace Fb := Fb.step p155; replace f79 := f79.step p155; replace ch93 := ch93.trans p155; replace ch104 := ch104.trans p155; replace ch120 := ch120.trans p155; clear p155 hs116
 replace hm := bd hm; obtain ⟨blocks_1, hv156, hm⟩ := hm
 refine Rg_op rfl (op_call Try.call49 (c49_coalition_blocks (r_ := r_) (than := costs_1) (group := group_1) hs154.ltw Ra Fa Fb f79 f153 hv156) rfl ?_)
 rintro v157 w158 ⟨hx159, h160⟩
 have hs161 := hs154.call hx159
 have p162 := Step.ext (O := ks [(some b1, Obj.cells [(Value.int .i64 r_.slots), (Value.slice Aa r_.owners.length Ca), (Value.slice Ab r_.costs.length Cb)].toArray 25)] O) hx159
 clear hx159
 replace Fa := Fa.step p162; replace Fb := Fb.step p162; replace f79 := f79.step p162; replace f153 := f153.step p162; replace ch93 := ch93.trans p162; replace ch104 := ch104.trans p162; replace ch120 := ch120.trans p162; clear p162 hs154
 obtain ⟨v163, v164, rfl, h165, h166⟩ := h160
 obtain ⟨Ag, Cg, rfl, Fg⟩ := un_sl h165
 obtain rfl := h166
 refine Rg_op rfl (op_move (v := (Value.tuple [(Value.slice Ag blocks_1.1.length Cg), (Value.bool blocks_1.2)].toArray)) rfl ?_)
 refine Rg_op rfl (op_extract (v := (Value.slice Ag blocks_1.1.length Cg)) rfl rfl ?_)
 refine Rg_op rfl (op_extract (v := (Value.bool blocks_1.2)) rfl rfl ?_)
 refine Rg_op rfl (op_assign (v := (Value.slice Ag blocks_1.1.length Cg)) rfl ?_)
 refine Rg_op rfl (op_assign (v := (Value.bool blocks_1.2)) rfl ?_)
 refine Rg_nil (Wp_seq ?_)
 clear f153 Fg
 refine Wp_region ?_
 refine Rg_op rfl (op_move (v := (Value.bool blocks_1.2)) rfl ?_)
 refine Rg_nil ?_
 refine Wp_cond rfl (fun hc169 => ?_) (fun hc169 => ?_)
 replace hm := bif_t hm hc169
 refine Wp_seq ?_
 clear f79
 refine Wp_region ?_
 refine Rg_op rfl (op_assign (v := (Value.bool false)) rfl ?_)
 refine Rg_op rfl (op_assign (v := (Value.int .i64 0)) rfl ?_)
 refine Rg_nil ?_
 refine Wp_ret ?_
 have hz := step_all hs161
 replace Fa := Fa.step hz; replace Fb := Fb.step hz
 refine ⟨_, (show Closes [] _ _ from rfl), [(Value.bool false), (Value.int .i64 0)], ⟨rfl, rfl, trivial⟩, hs161.ext, ?_⟩
 exact Vr.eq (a := (vT2 vB (vI .i64))) (x := (false, 0)) (mkT2 rfl ⟨rfl, (show InK .i64 0 from by decide)⟩) (Option.some.inj hm)
 replace hm := bif_f hm hc169
 refine Wp_skip ?_
 exact hK98 _ _ ⟨_, rfl, ⟨(by repeat (first | with_reducible exact Out.refl _ _ | refine Out.upd ?_ rfl | refine Out.updL ?_ rfl | refine Out.mix' ?_ rfl | exact Out.refl _ _)), rfl, trivial⟩, ch104, hs161, hm⟩
 replace hm := bif_f hm hc94
 refine Wp_exit (Wp_seq ?_)
 obtain ⟨hs170, p171⟩ := hs89.sub (bs' := []) (.cons _ List.Sublist.slnil)
 clear Fa Fb f79
 replace ch93 := ch93.trans p171; clear p171 hs89
 refine Wp_region ?_
 refine Rg_op rfl (op_assign (v := (Value.bool true)) rfl ?_)
 refine Rg_op rfl (op_assign (v := (Value.int .i64 0)) rfl ?_)
 refine Rg_nil ?_
 refine Wp_ret ?_
 have hz := step_all hs170
 refine ⟨_, (show Closes [] _ _ from rfl), [(Value.bool true), (Value.int .i64 0)], ⟨rfl, rfl, trivial⟩, hs170.ext, ?_⟩
 exact Vr.eq (a := (vT2 vB (vI .i64))) (x := (true, 0)) (mkT2 rfl ⟨rfl, (show InK .i64 0 from by decide)⟩) (Option.some.inj hm)
 intro K23 hK23
 have ch172 := Step.refl (ks [(some b1, Obj.cells [(Value.int .i64 r_.slots), (Value.slice Aa r_.owners.length Ca), (Value.slice Ab r_.costs.length Cb)].toArray 25)] O) w8
 refine Wp_region ?_
 refine Rg_op rfl (op_move (v := (Value.int .i64 worse_1.2)) rfl ?_)
 refine Rg_op rfl (op_neq rfl rfl ?_)
 refine Rg_op rfl (op_move (v := (Value.bool (decide (worse_1.2 ≠ 0)))) rfl ?_)
 refine Rg_case (fun hg173 => ?_) (fun hg173 => ?_)
 replace hm := bif_t hm hg173
 iterate 3 refine Rg_opx rfl (asB_ne rfl rfl) rfl ?_
 refine Rg_op rfl (op_pick_t (v := (Value.bool true)) rfl rfl ?_)
 refine Rg_nil ?_
 exact hK23 _ _ ⟨true, _, rfl, ⟨(by repeat (first | with_reducible exact Out.refl _ _ | refine Out.upd ?_ rfl | refine Out.updL ?_ rfl | refine Out.mix' ?_ rfl | exact Out.refl _ _)), rfl, rfl, trivial⟩, ch172, hs11, hm⟩
 replace hm := bif_f hm hg173
 refine Rg_opg rfl rfl rfl (op_move (v := (Value.slice Ad worse_1.1.length Cd)) rfl ?_)
 refine Rg_opg rfl rfl rfl (op_len Try.underlying22 rfl ?_)
 have rl174 := inK_len Fd
 refine Rg_opg rfl rfl rfl (op_gtr rfl rfl ?_)
 refine Rg_op rfl (op_pick_f (v := (Value.bool (decide (0 < (worse_1.1.length : Int))))) rfl rfl ?_)
 refine Rg_nil ?_
 exact hK23 _ _ ⟨(decide (0 < (worse_1.1.length : Int))), _, rfl, ⟨(by repeat (first | with_reducible exact Out.refl _ _ | refine Out.upd ?_ rfl | refine Out.updL ?_ rfl | refine Out.mix' ?_ rfl | exact Out.refl _ _)), rfl, rfl, trivial⟩, ch172, hs11, hm⟩

def m62_slices_Clipint_int_ (s : List Int) : Option (List Int) :=
 ck ((0 : Int) ≤ (s.length : Int) ∧ (s.length : Int) ≤ (s.length : Int)) <|
 some ((s.drop 0).take (s.length - 0))

theorem c62_slices_Clipint_int_ {w : World} {O : List Nat} {s : List Int} {Aa : Option Addr} {Ca : Nat} (hO : ∀ k ∈ O, k < w.heap.size) (Fa : SlR (rInt .i64) w O Aa Ca s) {x : (List Int)} (hm : m62_slices_Clipint_int_ s = some x) :
 Ok Try.prog 62 [(Value.slice Aa s.length Ca)] w O (vCl (rInt .i64)) x := by
 unfold m62_slices_Clipint_int_ at hm
 refine Fn_of_Wp (n := 9) (xs := [.tmp 2]) Try.func62 rfl Try.ntmps62 Try.results62 rfl ?_
 have hs := St.start hO
 refine Wp_seq (Wp_region ?_)
 refine Rg_op rfl (op_assign (v := (Value.slice none 0 0)) rfl ?_)
 refine Rg_nil (Wp_seq (Wp_region ?_))
 refine Rg_op rfl (op_move (v := (Value.slice Aa s.length Ca)) rfl ?_)
 refine Rg_op rfl (op_move (v := (Value.slice Aa s.length Ca)) rfl ?_)
 refine Rg_op rfl (op_len Try.underlying22 rfl ?_)
 have rl1 := inK_len Fa
 refine Rg_op rfl (op_move (v := (Value.slice Aa s.length Ca)) rfl ?_)
 refine Rg_op rfl (op_len Try.underlying22 rfl ?_)
 have rl2 := inK_len Fa
 replace hm := ck_some hm; obtain ⟨hc3, hm⟩ := hm
 refine Rg_op rfl (op_slice (q := (rInt .i64)) (l := 0) (h := s.length) (m := s.length) ty22 ty3 rfl Fa rfl rfl (bndI rfl (by omega)) (bndI rfl (by omega)) (by decide) (by omega) (by omega) (by have h_ : s.length ≤ Ca := Fa.le; omega) (by have h_ : s.length ≤ Ca := Fa.le; omega) ?_)
 intro a4 f5
 refine Rg_op rfl (op_assign (v := (Value.slice a4 ((s.drop 0).take (s.length - 0)).length (s.length - 0))) rfl ?_)
 refine Rg_nil ?_
 refine Wp_ret ?_
 have hz := step_all hs
 replace Fa := Fa.step hz; replace f5 := f5.step hz
 refine ⟨_, (show Closes [] _ _ from rfl), [(Value.slice a4 ((s.drop 0).take (s.length - 0)).length (s.length - 0))], ⟨rfl, trivial⟩, hs.ext, ?_⟩
 exact Vr.eq (a := (vCl (rInt .i64))) (x := ((s.drop 0).take (s.length - 0))) (mkCl f5 (by simp)) (Option.some.inj hm)

def m61_clearing_assignments_1_1_B0 (slots : List Int) (fv0_ : XRound) (fv3_ : (List Int) × (List (Int × Bool)) → Option (List (List Int) × (List (Int × Bool)))) (sf41 : Int → (List (Int × Bool)) → Option (List (List Int) × (List (Int × Bool)))) (v_1 : Int) (map_1 : List (Int × Bool)) : Option (List (List Int) × (List (Int × Bool))) :=
 bif (decide (v_1 < fv0_.slots)) then
  jn (fun (v_2 : Bool) =>
   bif v_2 then
    sf41 (IntKind.wrap .i64 (v_1 + 1)) map_1
   else
    (m62_slices_Clipint_int_ slots).bind fun clip_1 =>
    ck ((clip_1.length + [v_1].length) * 8 ≤ 140737488355328) <|
    ck (0 < [v_1].length) <|
    aplM (fv3_ ((clip_1 ++ [v_1]), (mput map_1 v_1 true))) (fun (map_2 : List (Int × Bool)) =>
     sf41 (IntKind.wrap .i64 (v_1 + 1)) (mput map_2 v_1 false)))
  (fun k61 =>
   bif ((mget map_1 v_1).getD false) then
    k61 true
   else
    ck ((0 : Int) ≤ (slots.length : Int) ∧ (slots.length : Int) < (fv0_.costs.length : Int)) <|
    ck ((0 : Int) ≤ v_1 ∧ v_1 < ((fv0_.costs.getD slots.length default).length : Int)) <|
    k61 (decide (((fv0_.costs.getD slots.length default).getD v_1.toNat default) < 0)))
 else
  some (([] : List (List Int)), map_1)

def m61_clearing_assignments_1_1 (slots : List Int) (fv0_ : XRound) (fv2_ : List (Int × Bool)) (fv3_ : (List Int) × (List (Int × Bool)) → Option (List (List Int) × (List (Int × Bool)))) : Option (List (List Int) × (List (Int × Bool))) :=
 bif (decide ((slots.length : Int) = (fv0_.owners.length : Int))) then
  ylM slots (
  some (([] : List (List Int)), fv2_))
 else
  loop2 (m61_clearing_assignments_1_1_B0 slots fv0_ fv3_) ((fv0_.slots - 0).toNat + 1) 0 fv2_

theorem c61_clearing_assignments_1_1 {w1 : World} {O1 : List Nat} {l : Nat} {slots : List Int} {fv0_ : XRound} {fv2_ : List (Int × Bool)} {fv3_ : (List Int) × (List (Int × Bool)) → Option (List (List Int) × (List (Int × Bool)))} {Aa : Option Addr} {Ca : Nat} {p_fv0_ : Addr} {p_fv1_ : Addr} {p_fv2_ : Addr} {bm_fv2_ : Nat} {om_fv2_ : Obj} {p_fv3_ : Addr} (hO1 : ∀ k ∈ O1, k < w1.heap.size) (Fa : SlR (rInt .i64) w1 (bm_fv2_ :: O1) Aa Ca slots) (Fb : PtR rXRound w1 (bm_fv2_ :: O1) p_fv0_ fv0_) (Fc : PtR (rVal (Value.func (.yield l) #[] #[]) rfl) w1 (bm_fv2_ :: O1) p_fv1_ ()) (hbl : bm_fv2_ ∉ O1) (hob : w1.heap[bm_fv2_]? = some om_fv2_) (Fd : PtR (rVal (Value.map (some bm_fv2_)) rfl) w1 (bm_fv2_ :: O1) p_fv2_ ()) (hM_fv2_ : Mo .i64 mvB om_fv2_ fv2_) (Fe : PtR (rSbM Try.prog (enc1 (vC (rSl (rInt .i64)))) l .i64 mvB bm_fv2_ (vC (rSl (rInt .i64)))) w1 (bm_fv2_ :: O1) p_fv3_ fv3_) {J Jx : JP (List Int)} (hJ : Abides J) (hJx : Abides Jx) {L : List (List Int)} {mz : List (Int × Bool)} (hm : m61_clearing_assignments_1_1 slots fv0_ fv2_ fv3_ = some (L, mz)) (hY : YieldsTo Try.prog (enc1 (vC (rSl (rInt .i64)))) L l J Jx) (h0 : J [] w1 O1 [bm_fv2_]) :
 Fn Try.prog 61 [(Value.slice Aa slots.length Ca), (Value.pointer (some p_fv0_)), (Value.pointer (some p_fv1_)), (Value.pointer (some p_fv2_)), (Value.pointer (some p_fv3_))] w1 fun u w2 => ∃ O2 o2 m2, bm_fv2_ ∉ O2 ∧ w2.heap[bm_fv2_]? = some o2 ∧ Mo .i64 mvB o2 m2 ∧ ((u = .bool true ∧ m2 = mz ∧ J L w2 O2 [bm_fv2_]) ∨ (u = .bool false ∧ ∃ pre, Jx pre w2 O2 [bm_fv2_])) := by
 unfold m61_clearing_assignments_1_1 at hm
 obtain ⟨x, hm, hL⟩ : ∃ x, _ = some (x, mz) ∧ L = [] ++ x := ⟨L, hm, rfl⟩
 refine Fn_of_Wp (n := 52) (xs := [.tmp 6]) Try.func61 rfl Try.ntmps61 Try.results61 rfl ?_
 have hs := St.startW hO1 hbl hob
 have hI := Itr.startM h0 hbl
 replace Fa : SlR (rInt .i64) w1 (ks [(some bm_fv2_, om_fv2_)] O1) Aa Ca slots := Fa
 replace Fb : PtR rXRound w1 (ks [(some bm_fv2_, om_fv2_)] O1) p_fv0_ fv0_ := Fb
 replace Fc : PtR (rVal (Value.func (.yield l) #[] #[]) rfl) w1 (ks [(some bm_fv2_, om_fv2_)] O1) p_fv1_ () := Fc
 replace Fd : PtR (rVal (Value.map (some bm_fv2_)) rfl) w1 (ks [(some bm_fv2_, om_fv2_)] O1) p_fv2_ () := Fd
 replace Fe : PtR (rSbM Try.prog (enc1 (vC (rSl (rInt .i64)))) l .i64 mvB bm_fv2_ (vC (rSl (rInt .i64)))) w1 (ks [(some bm_fv2_, om_fv2_)] O1) p_fv3_ fv3_ := Fe
 refine Wp_seq (Wp_region ?_)
 refine Rg_op rfl (op_assign (v := (Value.bool false)) rfl ?_)
 refine Rg_nil (Wp_seq (Wp_seq (Wp_region ?_)))
 refine Rg_op rfl (op_move (v := (Value.slice Aa slots.length Ca)) rfl ?_)
 refine Rg_op rfl (op_len Try.underlying22 rfl ?_)
 have rl1 := inK_len Fa
 refine Rg_op rfl (op_fieldAddr ty25 rfl ty22 (by decide) rfl rfl ?_)
 have f2 := Fb.via.snd.fst
 refine Rg_op rfl (op_loadP ty22 rfl f2 rfl ?_)
 intro v3 h4
 obtain ⟨Ab, Cb, rfl, Ff⟩ := un_sl h4
 refine Rg_op rfl (op_len Try.underlying22 rfl ?_)
 have rl6 := inK_len Ff
 refine Rg_op rfl (op_eql rfl rfl ?_)
 refine Rg_nil ?_
 refine Wp_cond rfl (fun hc7 => ?_) (fun hc7 => ?_)
 replace hm := bif_t hm hc7
 refine Wp_seq ?_
 clear Fb Fd Fe f2 Ff
 refine Wp_region ?_
 refine Rg_op rfl (op_loadP ty71 rfl Fc rfl ?_)
 intro v8 h9
 obtain rfl := un_val h9
 refine Rg_op rfl (op_move (v := (Value.slice Aa slots.length Ca)) rfl ?_)
 replace hm := ylM_elim hm; obtain ⟨xr10, hm, hL11⟩ := hm
 rw [hL11] at hL
 refine Rg_op rfl (op_yieldS (pre := ([] : List _)) (a := slots) rfl rfl hY hJ hI hs ⟨xr10, by rw [hL]; simp⟩ (show (enc1 (vC (rSl (rInt .i64)))) _ _ _ _ from ⟨_, rfl, (mkC (mk_sl Fa))⟩) ?_ ?_)
 intro w12 O13 hs14 p15 hI16
 replace Fa := Fa.step p15; replace Fc := Fc.step p15; clear p15
 have hL17 : L = (([] : List _) ++ [slots]) ++ xr10 := by rw [hL]; simp
 refine Rg_op rfl (op_assign (v := (Value.bool true)) rfl ?_)
 refine Rg_nil ?_
 refine Wp_ret ?_
 have h18 := hI16.finM hJ hs14
 obtain ⟨hx19, hx20⟩ := Prod.mk.inj (Option.some.inj hm)
 rw [← hx19, List.append_nil] at hL17; rw [← hL17] at h18
 exact ⟨_, (show Closes [] _ _ from rfl), [Value.bool true], ⟨rfl, trivial⟩, _, _, _, h18.2.1, h18.2.2, hM_fv2_, .inl ⟨rfl, hx20, h18.1⟩⟩
 intro w21 O22 hs23 p24 hI25
 replace Fa := Fa.step p24; replace Fc := Fc.step p24; clear p24
 refine Rg_op rfl (op_assign (v := (Value.bool false)) rfl ?_)
 refine Rg_nil ?_
 refine Wp_ret ?_
 have h26 := hI25.finM hJx hs23
 exact ⟨_, (show Closes [] _ _ from rfl), [Value.bool false], ⟨rfl, trivial⟩, _, _, _, h26.2.1, h26.2.2, hM_fv2_, .inr ⟨rfl, _, h26.1⟩⟩
 replace hm := bif_f hm hc7
 refine Wp_skip (Wp_seq (Wp_seq ?_))
 clear Fc f2 Ff
 refine Wp_region ?_
 refine Rg_op rfl (op_fieldAddr ty25 rfl ty3 (by decide) rfl rfl ?_)
 have f27 := Fb.via.fst
 refine Rg_op rfl (op_loadP ty3 rfl f27 rfl ?_)
 intro v28 h29
 obtain ⟨rfl, Ra⟩ := un_int h29
 refine Rg_op rfl (op_move (v := (Value.int .i64 0)) rfl ?_)
 refine Rg_nil (Wp_block ?_)
 refine Wp_reset [] [(0, (Value.slice Aa slots.length Ca)), (1, (Value.pointer (some p_fv0_))), (3, (Value.pointer (some p_fv2_))), (4, (Value.pointer (some p_fv3_))), (19, (Value.int .i64 fv0_.slots)), (20, (Value.int .i64 0))] rfl ⟨rfl, rfl, rfl, rfl, rfl, rfl, trivial⟩ fun ξ40 => ?_
 refine Wp_loopM [6, 7, 8, 20, 21, 22, 23, 24, 25, 26, 27, 28, 29, 30, 31, 32, 33, 34, 35, 36, 37, 38, 39, 40, 41, 42, 43, 44, 45, 46, 47, 48, 49, 50, 51] (fun m fr w' => ∃ (v_1 : Int) (map_1 : List (Int × Bool)) (o_g32 : Obj) (xr33 pre34 : List (List Int)) (wz35 : World) (Kz36 Oz37 : List Nat) (Ebs : Ents), Ebs = [(some bm_fv2_, o_g32)] ∧ fr [] [(20, (Value.int .i64 v_1))] ∧ Step (ks [(some bm_fv2_, om_fv2_)] O1) w1 (ks Ebs Oz37) w' ∧ St ⟨wz35, Kz36, []⟩ Oz37 w' Ebs ∧ InK .i64 v_1 ∧ Mo .i64 mvB o_g32 map_1 ∧ Itr J pre34 ⟨wz35, Kz36, []⟩ Oz37 ∧ L = pre34 ++ xr33 ∧ loop2 (m61_clearing_assignments_1_1_B0 slots fv0_ fv3_) m v_1 map_1 = some (xr33, mz)) ((fv0_.slots - 0).toNat + 1) ⟨0, fv2_, om_fv2_, x, ([] : List _), w1, [bm_fv2_], O1, _, rfl, ⟨Out.refl _ _, rfl, rfl, trivial⟩, Step.refl _ _, hs, (show InK .i64 0 from by decide), hM_fv2_, hI, hL, hm⟩ ?_ ?_
 rintro _ _ ⟨_, _, _, _, _, _, _, _, _, _, _, _, _, _, _, _, _, hm⟩; exact loop2_z hm
 rintro m44 K43 hK43 ρ49 w45 ⟨v_1, map_1, o_g32, xr33, pre34, wz35, Kz36, Oz37, Ebs, hEbs, hfr48, hst47, hs46, Rb, M_g32, hI38, hL39, hm⟩
 obtain ⟨sf41, hsf42, hm⟩ := loop2_s hm; unfold m61_clearing_assignments_1_1_B0 at hm
 subst hEbs; rw [hfr48.eq]; clear hfr48
 replace Fa := Fa.step hst47; replace Fb := Fb.step hst47; replace Fd := Fd.step hst47; replace Fe := Fe.step hst47; replace f27 := f27.step hst47
 have ch50 := hst47
 refine Wp_seq ?_
 clear f27
 refine Wp_region ?_
 refine Rg_op rfl (op_lss rfl rfl ?_)
 refine Rg_nil (Wp_seq ?_)
 refine Wp_cond rfl (fun hc51 => ?_) (fun hc51 => ?_)
 replace hm := bif_t hm hc51
 refine Wp_skip (Wp_seq (Wp_block (Wp_seq (Wp_region ?_))))
 refine Rg_op rfl (op_move (v := (Value.int .i64 v_1)) rfl ?_)
 refine Rg_op rfl (op_assign (v := (Value.int .i64 v_1)) rfl ?_)
 refine Rg_nil (Wp_seq ?_)
 refine Wp_reset2 [6, 7, 8, 20, 21, 22, 23, 24, 25, 26, 27, 28, 29, 30, 31, 32, 33, 34, 35, 36, 37, 38, 39, 40, 41, 42, 43, 44, 45, 46, 47, 48, 49, 50, 51] [] (updL ⟨ξ40, []⟩ [(0, (Value.slice Aa slots.length Ca)), (1, (Value.pointer (some p_fv0_))), (3, (Value.pointer (some p_fv2_))), (4, (Value.pointer (some p_fv3_))), (19, (Value.int .i64 fv0_.slots)), (20, (Value.int .i64 0))]) [(7, (Value.int .i64 v_1)), (20, (Value.int .i64 v_1))] (by repeat (first | with_reducible exact Out.refl _ _ | refine Out.upd ?_ rfl | refine Out.updL ?_ rfl | refine Out.mix' ?_ rfl | exact Out.refl _ _)) rfl ⟨rfl, rfl, trivial⟩ fun ξ52 => ?_
 replace hm := jn_elim hm; obtain ⟨k61, hk62, hm⟩ := hm
 refine Wp_seqJ [23, 24, 25, 26, 27, 28, 29, 30, 31, 32, 33, 34, 35, 36, 37] (fun fr w' => ∃ (v_2 : Bool) (xr54 pre55 : List (List Int)) (wz56 : World) (Kz57 Oz58 : List Nat) (Ebs : Ents), Ebs = [(some bm_fv2_, o_g32)] ∧ fr [] [(37, (Value.bool v_2))] ∧ Step (ks [(some bm_fv2_, o_g32)] Oz37) w45 (ks Ebs Oz58) w' ∧ St ⟨wz56, Kz57, []⟩ Oz58 w' Ebs ∧ Itr J pre55 ⟨wz56, Kz57, []⟩ Oz58 ∧ L = pre55 ++ xr54 ∧ k61 v_2 = some (xr54, mz)) ?_ ?_
 rintro ρ68 w64 ⟨v_2, xr54, pre55, wz56, Kz57, Oz58, Ebs, hEbs, hfr67, hst66, hs65, hI59, hL60, hm⟩
 replace hm := jnE1 hk62 hm
 subst hEbs; rw [hfr67.eq]; clear hfr67
 replace Fa := Fa.step hst66; replace Fb := Fb.step hst66; replace Fd := Fd.step hst66; replace Fe := Fe.step hst66; replace ch50 := ch50.trans hst66; clear hst66 hs46
 refine Wp_cond rfl (fun hc69 => ?_) (fun hc69 => ?_)
 replace hm := bif_t hm hc69
 refine Wp_exit (Wp_region ?_)
 refine Rg_op rfl (op_addw rfl rfl ?_)
 refine Rg_op rfl (op_move (v := (Value.int .i64 (IntKind.wrap .i64 (v_1 + 1)))) rfl ?_)
 refine Rg_nil ?_
 exact hK43 _ _ ⟨(IntKind.wrap .i64 (v_1 + 1)), map_1, o_g32, xr54, pre55, wz56, Kz57, Oz58, _, rfl, ⟨(by repeat (first | with_reducible exact Out.refl _ _ | refine Out.upd ?_ rfl | refine Out.updL ?_ rfl | refine Out.mix' ?_ rfl | exact Out.refl _ _)), rfl, rfl, trivial⟩, ch50, hs65, (inK_wrap .i64 _), M_g32, hI59, hL60, jnE2 hsf42 hm⟩
 replace hm := bif_f hm hc69
 refine Wp_skip (Wp_seq (Wp_region ?_))
 refine Rg_op rfl (op_loadP ty39 rfl Fd rfl ?_)
 intro v70 h71
 obtain rfl := un_val h71
 refine Rg_op rfl (op_move (v := (Value.int .i64 v_1)) rfl ?_)
 refine Rg_op_ (op_mapUpdate (q := .i64) (m := mvB) (v := true) (i := 0) Try.underlying39 Try.underlying3 hs65 rfl M_g32 rfl rfl rfl rfl Rb trivial ?_)
 intro o72 w73 p74 hs75 M76
 replace Fa := Fa.step p74; replace Fb := Fb.step p74; replace Fd := Fd.step p74; replace Fe := Fe.step p74; replace ch50 := ch50.trans p74; clear p74 hs65
 refine Rg_nil (Wp_seq ?_)
 refine Wp_drawR (g0 := []) (m := 6) (fl := []) (TS_inv hs75) rfl (.inl rfl) rfl (by decide +kernel) ?_  -- 8
 refine Dw_op (VD Oz58 [(some bm_fv2_, o72)] (vSbM Try.prog (enc1 (vC (rSl (rInt .i64)))) l .i64 mvB bm_fv2_ (vC (rSl (rInt .i64)))) fv3_) (VD.stab _ _) (fun ρ77 w78 g hle hi ht => ?_) ?_
 obtain ⟨-, hst, -⟩ := hle
 replace Fe := Fe.step hst
 refine StepOp_plain (op_loadP ty71 (ht 4 rfl) Fe rfl ?_)
 intro v80 h81
 have F82 := un_sbM h81; clear h81
 exact Goes.same hi (show Vr.vd (vSbM Try.prog (enc1 (vC (rSl (rInt .i64)))) l .i64 mvB bm_fv2_ (vC (rSl (rInt .i64)))) _ _ _ _ from F82)
 refine Dw_eq (Value.slice Aa slots.length Ca) (fun ρ83 w84 g hle hi ht => ?_) ?_
 obtain ⟨-, hst, -⟩ := hle
 refine StepOp_plain (op_move (v := (Value.slice Aa slots.length Ca)) (ht 0 rfl) ?_)
 exact Goes.same hi rfl
 replace hm := bd hm; obtain ⟨clip_1, hv89, hm⟩ := hm
 refine Dw_op (VD Oz58 [(some bm_fv2_, o72)] (vCl (rInt .i64)) clip_1) (VD.stab _ _) (fun ρ86 w87 g hle hi ht => ?_) ?_
 obtain ⟨-, hst, -⟩ := hle
 replace Fa := Fa.step hst
 refine StepOp_plain (op_call Try.call62 (c62_slices_Clipint_int_ (O := ks (ents g ++ [(some bm_fv2_, o72)]) Oz58) (s := slots) hi.ltw Fa hv89) (by simp only [List.map, Array.toList, (show ev _ (.tmp 41) = _ from (ht 41 rfl))] <;> rfl) ?_)
 rintro v90 w91 ⟨hx92, h93⟩
 exact Goes.call hi hx92 h93
 refine Dw_eq (Value.int .i64 v_1) (fun ρ95 w96 g hle hi ht => ?_) ?_
 obtain ⟨-, hst, -⟩ := hle
 refine StepOp_plain (op_move (v := (Value.int .i64 v_1)) (ht 7 rfl) ?_)
 exact Goes.same hi rfl
 refine Dw_op (VD Oz58 [(some bm_fv2_, o72)] (vC (rSl (rInt .i64))) [v_1]) (VD.stab _ _) (fun ρ98 w99 g hle hi ht => ?_) ?_
 obtain ⟨-, hst, -⟩ := hle
 replace Fa := Fa.step hst; replace Fb := Fb.step hst; replace Fd := Fd.step hst; replace Fe := Fe.step hst
 refine StepOp_plain (op_buildSlice (cs := [(Value.int .i64 v_1)]) (parts := [(0, .tmp 43)]) ty22 ty3 hi (by decide) (by simp only [List.map, (show ev _ (.tmp 43) = _ from (ht 43 rfl))]; rfl) ?_)
 intro b101 w102 hx105 p103 hs104
 replace Fa := Fa.step p103; replace Fb := Fb.step p103; replace Fd := Fd.step p103; replace Fe := Fe.step p103
 obtain ⟨hs107, p108, f109⟩ := St.publish (q := (rInt .i64)) (i := 0) (o := 0) (c := 1) (xs := [v_1]) hs104 rfl (show Els (rInt .i64) _ _ [(Value.int .i64 v_1)] [v_1] from ⟨_, _, rfl, (mk_int Rb), Els.nil⟩) (le_lit rfl) (le_lit rfl) (le_lit rfl)
 exact Goes.pub hi hs107 (Step.trans p103 p108) hx105 (show Vr.vd (vC (rSl (rInt .i64))) _ _ _ _ from mkC (mk_sl f109))
 replace hm := ck_some hm; obtain ⟨hc120, hm⟩ := hm
 replace hm := ck_some hm; obtain ⟨hc121, hm⟩ := hm
 refine Dw_op (VD Oz58 [(some bm_fv2_, o72)] (vC (rSl (rInt .i64))) (clip_1 ++ [v_1])) (VD.stab _ _) (fun ρ110 w111 g hle hi ht => ?_) ?_
 obtain ⟨-, hst, -⟩ := hle
 have h113 : Vr.vd (vCl (rInt .i64)) _ _ _ _ := ht 42 rfl
 obtain ⟨a115, q114, f116⟩ := h113
 have h117 : Vr.vd (vC (rSl (rInt .i64))) _ _ _ _ := ht 44 rfl
 obtain ⟨Ac, Cc, q118, Fg⟩ := un_sl h117
 obtain ⟨ns122, he123, hr124⟩ := Fg.src
 refine StepOp_plain (op_appendPX (q := (rInt .i64)) (xs := clip_1) (ys := [v_1]) (news := ns122) ty22 ty3 rfl (by decide) hi q114 f116 q118 hr124 he123 hc121 hc120 (by have := hc120; simp only [maxLen]; omega) ?_)
 intro a128 c129 w125 hx131 p126 hs127 f130; exact Goes.pub hi hs127 p126 hx131 (show Vr.vd (vC (rSl (rInt .i64))) _ _ _ _ from mkC (mk_sl f130))
 refine Dw_nil fun w136 g137 hl138 hi139 => ?_
 obtain ⟨-, hst140, -⟩ := hl138
 obtain ⟨hs142, p141⟩ := Step.nx hi139
 rintro v143 h144
 replace h144 : Vr.vd (vC (rSl (rInt .i64))) _ _ _ _ := h144
 obtain ⟨Ad, Cd, rfl, Fh⟩ := un_sl h144
 rintro v146 h147
 replace h147 : Vr.vd (vC (rSl (rInt .i64))) _ _ _ _ := h147
 obtain ⟨Ae, Ce, rfl, Fi⟩ := un_sl h147
 rintro _ rfl
 rintro v149 h150
 replace h150 : Vr.vd (vCl (rInt .i64)) _ _ _ _ := h150
 obtain ⟨a151, rfl, f152⟩ := h150
 rintro _ rfl
 rintro v153 h154
 replace h154 : Vr.vd (vSbM Try.prog (enc1 (vC (rSl (rInt .i64)))) l .i64 mvB bm_fv2_ (vC (rSl (rInt .i64)))) _ _ _ _ := h154
 have F156 := h154
 replace F156 : SubItM Try.prog (enc1 (vC (rSl (rInt .i64)))) l .i64 mvB bm_fv2_ _ _ v153 (vC (rSl (rInt .i64))) fv3_ := F156
 have p157 : Step (ks [(some bm_fv2_, o72)] Oz58) w73 (ks [(some bm_fv2_, o72)] Oz58) w136 := hst140.trans p141
 replace Fh := Fh.step p141; replace Fi := Fi.step p141; replace f152 := f152.step p141; replace F156 := F156.step p141; replace Fa := Fa.step p157; replace Fb := Fb.step p157; replace Fd := Fd.step p157; replace Fe := Fe.step p157; replace ch50 := ch50.trans p157; clear p157 hs75
 replace hm := aplM_elim hm; obtain ⟨A158, map_2, xr159, ha160, hm, hL161⟩ := hm
 rw [hL161] at hL60
 refine Rg_op rfl (op_subcallM (pre := pre55) (Lx := A158) (i := 0) (mp := (mput map_1 v_1 true)) (mz := map_2) rfl F156 rfl (show Vr.vd (vC (rSl (rInt .i64))) _ _ _ _ from (mkC (mk_sl Fh))) ha160 hY hJ hJx hI59 hs142 rfl M76 ⟨xr159, by rw [hL60]; simp⟩ ?_ ?_)
 intro w162 O163 o164 hs165 p166 hI167 M168
 replace hs165 : St ⟨w162, (List.filterMap Prod.fst [(some bm_fv2_, o164)]), []⟩ O163 w162 [(some bm_fv2_, o164)] := hs165
 replace p166 : Step (ks [(some bm_fv2_, o72)] Oz58) w136 (ks [(some bm_fv2_, o164)] O163) w162 := p166
 replace Fa := Fa.step p166; replace Fb := Fb.step p166; replace Fd := Fd.step p166; replace Fe := Fe.step p166; replace Fh := Fh.step p166; replace Fi := Fi.step p166; replace f152 := f152.step p166; replace F156 := F156.step p166; replace ch50 := ch50.trans p166; clear p166 hs142
 have hL170 : L = (pre55 ++ A158) ++ xr159 := by rw [hL60]; simp
 refine Rg_op rfl (op_assign (v := (Value.bool true)) rfl ?_)
 refine Rg_nil (Wp_seq ?_)
 clear Fh Fi f152 F156
 refine Wp_region ?_
 refine Rg_op rfl (op_loadP ty39 rfl Fd rfl ?_)
 intro v171 h172
 obtain rfl := un_val h172
 refine Rg_op rfl (op_move (v := (Value.int .i64 v_1)) rfl ?_)
 refine Rg_op_ (op_mapUpdate (q := .i64) (m := mvB) (v := false) (i := 0) Try.underlying39 Try.underlying3 hs165 rfl M168 rfl rfl rfl rfl Rb trivial ?_)
 intro o173 w174 p175 hs176 M177
 replace Fa := Fa.step p175; replace Fb := Fb.step p175; replace Fd := Fd.step p175; replace Fe := Fe.step p175; replace ch50 := ch50.trans p175; clear p175 hs165
 refine Rg_nil (Wp_seq (Wp_region ?_))
 refine Rg_op rfl (op_move (v := (Value.bool true)) rfl ?_)
 refine Rg_op rfl (op_not rfl ?_)
 refine Rg_nil ?_
 refine Wp_cond_f rfl ?_
 refine Wp_skip (Wp_region ?_)
 refine Rg_op rfl (op_addw rfl rfl ?_)
 refine Rg_op rfl (op_move (v := (Value.int .i64 (IntKind.wrap .i64 (v_1 + 1)))) rfl ?_)
 refine Rg_nil ?_
 exact hK43 _ _ ⟨(IntKind.wrap .i64 (v_1 + 1)), (mput map_2 v_1 false), o173, xr159, (pre55 ++ A158), w162, (List.filterMap Prod.fst [(some bm_fv2_, o164)]), O163, _, rfl, ⟨(by repeat (first | with_reducible exact Out.refl _ _ | refine Out.upd ?_ rfl | refine Out.updL ?_ rfl | refine Out.mix' ?_ rfl | exact Out.refl _ _)), rfl, rfl, trivial⟩, ch50, hs176, (inK_wrap .i64 _), M177, hI167, hL170, jnE2 hsf42 hm⟩
 intro w178 O179 o180 mp185 _ hs181 p182 hI183 M184
 replace hs181 : St ⟨w178, (List.filterMap Prod.fst [(some bm_fv2_, o180)]), []⟩ O179 w178 [(some bm_fv2_, o180)] := hs181
 replace p182 : Step (ks [(some bm_fv2_, o72)] Oz58) w136 (ks [(some bm_fv2_, o180)] O179) w178 := p182
 replace Fa := Fa.step p182; replace Fb := Fb.step p182; replace Fd := Fd.step p182; replace Fe := Fe.step p182; replace Fh := Fh.step p182; replace Fi := Fi.step p182; replace f152 := f152.step p182; replace F156 := F156.step p182; replace ch50 := ch50.trans p182; clear p182 hs142
 refine Rg_op rfl (op_assign (v := (Value.bool false)) rfl ?_)
 refine Rg_nil (Wp_seq ?_)
 clear Fh Fi f152 F156
 refine Wp_region ?_
 refine Rg_op rfl (op_loadP ty39 rfl Fd rfl ?_)
 intro v186 h187
 obtain rfl := un_val h187
 refine Rg_op rfl (op_move (v := (Value.int .i64 v_1)) rfl ?_)
 refine Rg_op_ (op_mapUpdate (q := .i64) (m := mvB) (v := false) (i := 0) Try.underlying39 Try.underlying3 hs181 rfl M184 rfl rfl rfl rfl Rb trivial ?_)
 intro o188 w189 p190 hs191 M192
 replace Fa := Fa.step p190; replace Fb := Fb.step p190; replace Fd := Fd.step p190; replace Fe := Fe.step p190; replace ch50 := ch50.trans p190; clear p190 hs181
 refine Rg_nil (Wp_seq (Wp_region ?_))
 refine Rg_op rfl (op_move (v := (Value.bool false)) rfl ?_)
 refine Rg_op rfl (op_not rfl ?_)
 refine Rg_nil ?_
 refine Wp_cond_t rfl ?_
 refine Wp_seq ?_
 clear Fa Fb Fd Fe
 refine Wp_region ?_
 refine Rg_op rfl (op_assign (v := (Value.bool false)) rfl ?_)
 refine Rg_nil ?_
 refine Wp_ret ?_
 have h193 := hI183.finM hJx hs191
 exact ⟨_, (show Closes [] _ _ from rfl), [Value.bool false], ⟨rfl, trivial⟩, _, _, _, h193.2.1, h193.2.2, M192, .inr ⟨rfl, _, h193.1⟩⟩
 intro K63 hK63
 have ch194 := Step.refl (ks [(some bm_fv2_, o_g32)] Oz37) w45
 refine Wp_region ?_
 refine Rg_op rfl (op_loadP ty39 rfl Fd rfl ?_)
 intro v195 h196
 obtain rfl := un_val h196
 refine Rg_op rfl (op_move (v := (Value.int .i64 v_1)) rfl ?_)
 refine Rg_op rfl (op_lookup (q := .i64) (m := mvB) (z := false) Try.underlying39 Try.underlying3 Try.zeroValue4 (hs46.get (i := 0) rfl) M_g32 rfl rfl ?_)
 refine Rg_op rfl (op_move (v := (Value.bool ((mget map_1 v_1).getD false))) rfl ?_)
 refine Rg_case (fun hg197 => ?_) (fun hg197 => ?_)
 replace hm := bif_t hm hg197
 iterate 10 refine Rg_opx rfl (asB_ne rfl rfl) rfl ?_
 refine Rg_op rfl (op_pick_t (v := (Value.bool true)) rfl rfl ?_)
 refine Rg_nil ?_
 exact hK63 _ _ ⟨true, xr33, pre34, wz35, Kz36, Oz37, _, rfl, ⟨(by repeat (first | with_reducible exact Out.refl _ _ | refine Out.upd ?_ rfl | refine Out.updL ?_ rfl | refine Out.mix' ?_ rfl | exact Out.refl _ _)), rfl, rfl, trivial⟩, ch194, hs46, hI38, hL39, hm⟩
 replace hm := bif_f hm hg197
 refine Rg_opg rfl rfl rfl (op_fieldAddr ty25 rfl ty23 (by decide) rfl rfl ?_)
 have f198 := Fb.via.snd.snd
 refine Rg_opg rfl rfl rfl (op_loadP ty23 rfl f198 rfl ?_)
 intro v199 h200
 obtain ⟨Af, Cf, rfl, Fj⟩ := un_sl h200
 refine Rg_opg rfl rfl rfl (op_move (v := (Value.slice Aa slots.length Ca)) rfl ?_)
 refine Rg_opg rfl rfl rfl (op_len Try.underlying22 rfl ?_)
 have rl202 := inK_len Fa
 replace hm := ck_some hm; obtain ⟨hc203, hm⟩ := hm
 refine Rg_opg rfl rfl rfl (op_indexAddr (q := (rSl (rInt .i64))) ty23 ty22 rfl rfl Fj rfl hc203.1 hc203.2 ?_)
 intro p204 f205
 refine Rg_opg rfl rfl rfl (op_loadP ty22 rfl f205 rfl ?_)
 intro v206 h207
 obtain ⟨Ag, Cg, rfl, Fk⟩ := un_sl h207
 refine Rg_opg rfl rfl rfl (op_move (v := (Value.int .i64 v_1)) rfl ?_)
 replace hm := ck_some hm; obtain ⟨hc209, hm⟩ := hm
 refine Rg_opg rfl rfl rfl (op_indexAddr (q := (rInt .i64)) ty22 ty3 rfl rfl Fk rfl hc209.1 hc209.2 ?_)
 intro p210 f211
 refine Rg_opg rfl rfl rfl (op_loadP ty3 rfl f211 rfl ?_)
 intro v212 h213
 obtain ⟨rfl, Rc⟩ := un_int h213
 refine Rg_opg rfl rfl rfl (op_lss rfl rfl ?_)
 refine Rg_op rfl (op_pick_f (v := (Value.bool (decide (((fv0_.costs.getD slots.length default).getD v_1.toNat default) < 0)))) rfl rfl ?_)
 refine Rg_nil ?_
 exact hK63 _ _ ⟨(decide (((fv0_.costs.getD slots.length default).getD v_1.toNat default) < 0)), xr33, pre34, wz35, Kz36, Oz37, _, rfl, ⟨(by repeat (first | with_reducible exact Out.refl _ _ | refine Out.upd ?_ rfl | refine Out.updL ?_ rfl | refine Out.mix' ?_ rfl | exact Out.refl _ _)), rfl, rfl, trivial⟩, ch194, hs46, hI38, hL39, hm⟩
 replace hm := bif_f hm hc51
 refine Wp_exit (Wp_seq ?_)
 clear Fa Fb Fd Fe
 refine Wp_region ?_
 refine Rg_op rfl (op_assign (v := (Value.bool true)) rfl ?_)
 refine Rg_nil ?_
 refine Wp_ret ?_
 have h215 := hI38.finM hJ hs46
 obtain ⟨hx216, hx217⟩ := Prod.mk.inj (Option.some.inj hm)
 rw [← hx216, List.append_nil] at hL39; rw [← hL39] at h215
 exact ⟨_, (show Closes [] _ _ from rfl), [Value.bool true], ⟨rfl, trivial⟩, _, _, _, h215.2.1, h215.2.2, M_g32, .inl ⟨rfl, hx217, h215.1⟩⟩

def m60_clearing_assignments_1 (fv0_ : XRound) : Option (List (List Int)) :=
 aplI ((fixO (fun fx37 x38 => m61_clearing_assignments_1_1 x38.1 fv0_ x38.2 fx37) 1000000) (([] : List Int), ([] : List (Int × Bool)))) (fun (map_1 : List (Int × Bool)) =>
  some ([] : List (List Int)))

theorem c60_clearing_assignments_1 {w : World} {O : List Nat} {fv0_ : XRound} {p_fv0_ : Addr} (hO : ∀ k ∈ O, k < w.heap.size) (Fa : PtR rXRound w O p_fv0_ fv0_) {L : List (List Int)} (hm : m60_clearing_assignments_1 fv0_ = some L) :
 IterF Try.prog w O 60 [(Value.pointer (some p_fv0_))] (enc1 (vC (rSl (rInt .i64)))) L := by
 unfold m60_clearing_assignments_1 at hm
 obtain ⟨x, hm, hL⟩ : ∃ x, _ = some x ∧ L = [] ++ x := ⟨L, hm, rfl⟩
 intro w1 O1 hst0 hO1 l J Jx hJ hJx hY h0
 replace Fa := Fa.step hst0
 refine Fn_of_Wp (n := 9) (xs := []) Try.func60 rfl Try.ntmps60 Try.results60 rfl ?_
 have hs := St.start hO1
 have hI := Itr.start h0
 refine Wp_seq (Wp_region ?_)
 refine Rg_op rfl (op_box (cs := [(Value.func (.yield l) #[] #[])]) hs rfl rfl ?_)
 intro b1 w2 _ p3 hs4
 replace Fa := Fa.step p3; clear p3
 refine Rg_nil (Wp_seq (Wp_region ?_))
 refine Rg_op rfl (op_makeMap hs4 ?_)
 intro b6 w7 p8 hs9
 replace Fa := Fa.step p8; clear p8 hs4
 have M10 : Mo .i64 mvB (Obj.map #[] 0) ([] : List (Int × Bool)) := Mo.nil_
 refine Rg_op rfl (op_alloc ty39 hs9 ?_)
 intro b12 w13 _ p14 hs15
 replace Fa := Fa.step p14; clear p14 hs9
 refine Rg_op_ (op_store (cs := [(Value.map none)]) (vs := [(Value.map (some b6))]) (cs' := [(Value.map (some b6))]) (bs' := [(some b12, Obj.cells [(Value.map (some b6))].toArray 39), (some b6, (Obj.map #[] 0)), (some b1, Obj.cells [(Value.func (.yield l) #[] #[])].toArray 71)]) (i := 0) ty39 hs15 rfl rfl rfl rfl rfl (le_lit rfl) rfl rfl rfl ?_)
 intro w17 p18 hs19
 replace Fa := Fa.step p18; clear p18 hs15
 refine Rg_nil (Wp_seq (Wp_region ?_))
 refine Rg_op rfl (op_alloc ty71 hs19 ?_)
 intro b20 w21 _ p22 hs23
 replace Fa := Fa.step p22; clear p22 hs19
 refine Rg_nil (Wp_seq (Wp_region ?_))
 obtain ⟨hs26, p27, f25⟩ := St.publishP (p := rVal (Value.func (.yield l) #[] #[]) rfl) (i := 3) (x := ()) hs23 rfl rfl
 replace Fa := Fa.step p27; clear p27 hs23
 obtain ⟨hs29, p30, f28⟩ := St.publishP (p := rVal (Value.map (some b6)) rfl) (i := 1) (x := ()) hs26 rfl rfl
 replace Fa := Fa.step p30; replace f25 := f25.step p30; clear p30 hs26
 refine Rg_op rfl (op_makeFunc' (a' := []) (c' := [(Value.pointer (some p_fv0_)), (Value.pointer (some (⟨b1, 0, none⟩ : Addr))), (Value.pointer (some (⟨b12, 0, none⟩ : Addr))), (Value.pointer (some ⟨b20, 0, none⟩))]) rfl rfl ?_)
 refine Rg_op_ (op_store (cs := [Value.nilFunc]) (vs := [(Value.func (.func 61) #[] #[(Value.pointer (some p_fv0_)), (Value.pointer (some (⟨b1, 0, none⟩ : Addr))), (Value.pointer (some (⟨b12, 0, none⟩ : Addr))), (Value.pointer (some ⟨b20, 0, none⟩))])]) (cs' := [(Value.func (.func 61) #[] #[(Value.pointer (some p_fv0_)), (Value.pointer (some (⟨b1, 0, none⟩ : Addr))), (Value.pointer (some (⟨b12, 0, none⟩ : Addr))), (Value.pointer (some ⟨b20, 0, none⟩))])]) (bs' := [(some b20, Obj.cells [(Value.func (.func 61) #[] #[(Value.pointer (some p_fv0_)), (Value.pointer (some (⟨b1, 0, none⟩ : Addr))), (Value.pointer (some (⟨b12, 0, none⟩ : Addr))), (Value.pointer (some ⟨b20, 0, none⟩))])].toArray 71), (some b6, (Obj.map #[] 0))]) (i := 0) ty71 hs29 rfl rfl rfl rfl rfl (le_lit rfl) rfl rfl rfl ?_)
 intro w31 p32 hs33
 replace Fa := Fa.step p32; replace f25 := f25.step p32; replace f28 := f28.step p32; clear p32 hs29
 obtain ⟨hs35, p36, f34⟩ := St.publishP (p := rVal (Value.func (.func 61) #[] #[(Value.pointer (some p_fv0_)), (Value.pointer (some (⟨b1, 0, none⟩ : Addr))), (Value.pointer (some (⟨b12, 0, none⟩ : Addr))), (Value.pointer (some ⟨b20, 0, none⟩))]) rfl) (i := 0) (x := ()) hs33 rfl rfl
 replace Fa := Fa.step p36; replace f25 := f25.step p36; replace f28 := f28.step p36; clear p36 hs33
 have F39 : ∀ n, SubItM Try.prog (enc1 (vC (rSl (rInt .i64)))) l .i64 mvB b6 w31 (ks [(some b6, (Obj.map #[] 0))] O1) (Value.func (.func 61) #[] #[(Value.pointer (some p_fv0_)), (Value.pointer (some (⟨b1, 0, none⟩ : Addr))), (Value.pointer (some (⟨b12, 0, none⟩ : Addr))), (Value.pointer (some ⟨b20, 0, none⟩))]) (vC (rSl (rInt .i64))) (fixO (fun fx37 x38 => m61_clearing_assignments_1_1 x38.1 fv0_ x38.2 fx37) n) := by
  refine SubItM.fix (fun fx37 hfx40 => ⟨⟨_, _, rfl⟩, ?_⟩)
  intro w41 O42 o43 mp44 s45 hb46 ho47 hM48 hO49 J50 Jx51 hJ52 hJx53 v54 x55 L56 mz57 hv58 hfa59 hY60 h61
  obtain ⟨Aa, Ca, rfl, Fb⟩ := un_sl hv58
  exact ⟨61, #[], #[(Value.pointer (some p_fv0_)), (Value.pointer (some (⟨b1, 0, none⟩ : Addr))), (Value.pointer (some (⟨b12, 0, none⟩ : Addr))), (Value.pointer (some ⟨b20, 0, none⟩))], rfl, Try.call61, c61_clearing_assignments_1_1 hO49 Fb (Fa.step s45) (f25.step s45) hb46 ho47 (f28.step s45) hM48 ((f34.step s45).sbM (hfx40.step s45)) hJ52 hJx53 hfa59 hY60 h61⟩
 have f63 := f34.sbM (F39 1000000); clear F39
 refine Rg_nil ?_
 clear Fa f25 f28 f34
 refine Wp_region ?_
 refine Rg_op rfl (op_loadP ty71 rfl f63 rfl ?_)
 intro v64 h65
 have F66 := un_sbM h65; clear h65
 replace hm := aplI_elim hm; obtain ⟨A67, map_1, xr68, ha69, hm, hL70⟩ := hm
 rw [hL70] at hL
 refine Rg_op rfl (op_subcallM (pre := ([] : List _)) (Lx := A67) (i := 0) (mp := ([] : List (Int × Bool))) (mz := map_1) rfl F66 rfl (show Vr.vd (vC (rSl (rInt .i64))) _ _ _ _ from (mkC (mk_sl SlR.nil_))) ha69 hY hJ hJx hI hs35 rfl M10 ⟨xr68, by rw [hL]; simp⟩ ?_ ?_)
 intro w71 O72 o73 hs74 p75 hI76 M77
 replace hs74 : St ⟨w71, (List.filterMap Prod.fst [(some b6, o73)]), []⟩ O72 w71 [(some b6, o73)] := hs74
 replace p75 : Step (ks [(some b6, (Obj.map #[] 0))] O1) w31 (ks [(some b6, o73)] O72) w71 := p75
 replace f63 := f63.step p75; replace F66 := F66.step p75; clear p75 hs35
 have hL79 : L = (([] : List _) ++ A67) ++ xr68 := by rw [hL]; simp
 refine Rg_nil ?_
 have h80 := hI76.fin hJ hs74
 rw [← Option.some.inj hm, List.append_nil] at hL79; rw [← hL79] at h80
 exact ⟨_, (show Closes [] _ _ from rfl), [], trivial, _, .inl h80⟩
 intro w81 O82 o83 mp88 _ hs84 p85 hI86 M87
 replace hs84 : St ⟨w81, (List.filterMap Prod.fst [(some b6, o83)]), []⟩ O82 w81 [(some b6, o83)] := hs84
 replace p85 : Step (ks [(some b6, (Obj.map #[] 0))] O1) w31 (ks [(some b6, o83)] O82) w81 := p85
 replace f63 := f63.step p85; replace F66 := F66.step p85; clear p85 hs35
 refine Rg_nil ?_
 exact ⟨_, (show Closes [] _ _ from rfl), [], trivial, _, .inr ⟨_, hI86.fin hJx hs84⟩⟩

def m38_clearing_assignments (r_ : XRound) : Option (List (List Int)) :=
 (m60_clearing_assignments_1 r_).bind fun l_1 =>
 some l_1

theorem c38_clearing_assignments {w : World} {O : List Nat} {r_ : XRound} {Aa : Option Addr} {Ca : Nat} {Ab : Option Addr} {Cb : Nat} (hO : ∀ k ∈ O, k < w.heap.size) (Ra : InK .i64 r_.slots) (Fa : SlR (rInt .i64) w O Aa Ca r_.owners) (Fb : SlR (rSl (rInt .i64)) w O Ab Cb r_.costs) {x : (List (List Int))} (hm : m38_clearing_assignments r_ = some x) :
 Ok Try.prog 38 [(Value.agg [(Value.int .i64 r_.slots), (Value.slice Aa r_.owners.length Ca), (Value.slice Ab r_.costs.length Cb)].toArray)] w O (vIt Try.prog (enc1 (vC (rSl (rInt .i64))))) x := by
 unfold m38_clearing_assignments at hm
 refine Fn_of_Wp (n := 4) (xs := [.tmp 2]) Try.func38 rfl Try.ntmps38 Try.results38 rfl ?_
 have hs := St.start hO
 refine Wp_seq (Wp_region ?_)
 refine Rg_op rfl (op_box (cs := [(Value.int .i64 r_.slots), (Value.slice Aa r_.owners.length Ca), (Value.slice Ab r_.costs.length Cb)]) hs rfl rfl ?_)
 intro b1 w2 _ p3 hs4
 replace Fa := Fa.step p3; replace Fb := Fb.step p3; clear p3
 refine Rg_op rfl (op_assign (v := Value.nilFunc) rfl ?_)
 refine Rg_nil (Wp_seq (Wp_region ?_))
 obtain ⟨hs7, p8, f6⟩ := St.publishP (p := rXRound) (i := 0) (x := r_) hs4 rfl (mkVia (mk_pair (mk_int Ra) (mk_pair (mk_sl Fa) (mk_sl Fb))))
 replace Fa := Fa.step p8; replace Fb := Fb.step p8; clear p8 hs4
 refine Rg_op rfl (op_makeFunc' (a' := []) (c' := [(Value.pointer (some (⟨b1, 0, none⟩ : Addr)))]) rfl rfl ?_)
 replace hm := bd hm; obtain ⟨l_1, hv9, hm⟩ := hm
 have F10 : ItR Try.prog (enc1 (vC (rSl (rInt .i64)))) w2 (ks [] O) (Value.func (.func 60) #[] #[(Value.pointer (some (⟨b1, 0, none⟩ : Addr)))]) l_1 := ⟨60, [(Value.pointer (some (⟨b1, 0, none⟩ : Addr)))], rfl, Try.call60, c60_clearing_assignments_1 hs7.ltw f6 hv9⟩
 refine Rg_op rfl (op_assign (v := (Value.func (.func 60) #[] #[(Value.pointer (some (⟨b1, 0, none⟩ : Addr)))])) rfl ?_)
 refine Rg_nil ?_
 refine Wp_ret ?_
 have hz := step_all hs7
 replace Fa := Fa.step hz; replace Fb := Fb.step hz; replace f6 := f6.step hz; replace F10 := F10.step hz
 refine ⟨_, (show Closes [] _ _ from rfl), [(Value.func (.func 60) #[] #[(Value.pointer (some (⟨b1, 0, none⟩ : Addr)))])], ⟨rfl, trivial⟩, hs7.ext, ?_⟩
 exact Vr.eq (a := (vIt Try.prog (enc1 (vC (rSl (rInt .i64)))))) (x := l_1) F10 (Option.some.inj hm)

def m81_cmp_isNaN (x_ : Int) : Option Bool :=
 some (decide (x_ ≠ x_))

theorem c81_cmp_isNaN {w : World} {O : List Nat} {x_ : Int} (hO : ∀ k ∈ O, k < w.heap.size) (Ra : InK .i64 x_) {x : Bool} (hm : m81_cmp_isNaN x_ = some x) :
 Ok Try.prog 81 [(Value.int .i64 x_)] w O vB x := by
 unfold m81_cmp_isNaN at hm
 refine Fn_of_Wp (n := 6) (xs := [.tmp 2]) Try.func81 rfl Try.ntmps81 Try.results81 rfl ?_
 have hs := St.start hO
 refine Wp_seq (Wp_region ?_)
 refine Rg_op rfl (op_assign (v := (Value.bool false)) rfl ?_)
 refine Rg_nil (Wp_seq (Wp_region ?_))
 refine Rg_op rfl (op_move (v := (Value.int .i64 x_)) rfl ?_)
 refine Rg_op rfl (op_move (v := (Value.int .i64 x_)) rfl ?_)
 refine Rg_op rfl (op_neq rfl rfl ?_)
 refine Rg_op rfl (op_assign (v := (Value.bool (decide (x_ ≠ x_)))) rfl ?_)
 refine Rg_nil ?_
 refine Wp_ret ?_
 have hz := step_all hs
 refine ⟨_, (show Closes [] _ _ from rfl), [(Value.bool (decide (x_ ≠ x_)))], ⟨rfl, trivial⟩, hs.ext, ?_⟩
 exact Vr.eq (a := vB) (x := (decide (x_ ≠ x_))) rfl (Option.some.inj hm)

def m63_cmp_Compare (x_ : Int) (y : Int) : Option Int :=
 (m81_cmp_isNaN x_).bind fun isnan_1 =>
 (m81_cmp_isNaN y).bind fun isnan_2 =>
 bif isnan_1 then
  bif isnan_2 then
   some 0
  else
   some (-1)
 else
  bif isnan_2 then
   some 1
  else
   bif (decide (x_ < y)) then
    some (-1)
   else
    bif (decide (y < x_)) then
     some 1
    else
     some 0

theorem c63_cmp_Compare {w : World} {O : List Nat} {x_ : Int} {y : Int} (hO : ∀ k ∈ O, k < w.heap.size) (Ra : InK .i64 x_) (Rb : InK .i64 y) {x : Int} (hm : m63_cmp_Compare x_ y = some x) :
 Ok Try.prog 63 [(Value.int .i64 x_), (Value.int .i64 y)] w O (vI .i64) x := by
 unfold m63_cmp_Compare at hm
 refine Fn_of_Wp (n := 20) (xs := [.tmp 4]) Try.func63 rfl Try.ntmps63 Try.results63 rfl ?_
 have hs := St.start hO
 refine Wp_seq (Wp_region ?_)
 refine Rg_op rfl (op_assign (v := (Value.int .i64 0)) rfl ?_)
 refine Rg_nil (Wp_seq (Wp_region ?_))
 refine Rg_op rfl (op_move (v := (Value.int .i64 x_)) rfl ?_)
 replace hm := bd hm; obtain ⟨isnan_1, hv1, hm⟩ := hm
 refine Rg_op rfl (op_call Try.call81 (c81_cmp_isNaN (x_ := x_) hs.ltw Ra hv1) rfl ?_)
 rintro v2 w3 ⟨hx4, h5⟩
 have hs6 := hs.call hx4
 have p7 := Step.ext (O := ks [] O) hx4
 clear hx4
 clear p7
 obtain rfl := h5
 refine Rg_op rfl (op_assign (v := (Value.bool isnan_1)) rfl ?_)
 refine Rg_nil (Wp_seq (Wp_region ?_))
 refine Rg_op rfl (op_move (v := (Value.int .i64 y)) rfl ?_)
 replace hm := bd hm; obtain ⟨isnan_2, hv9, hm⟩ := hm
 refine Rg_op rfl (op_call Try.call81 (c81_cmp_isNaN (x_ := y) hs6.ltw Rb hv9) rfl ?_)
 rintro v10 w11 ⟨hx12, h13⟩
 have hs14 := hs6.call hx12
 have p15 := Step.ext (O := ks [] O) hx12
 clear hx12
 clear p15 hs6
 obtain rfl := h13
 refine Rg_op rfl (op_assign (v := (Value.bool isnan_2)) rfl ?_)
 refine Rg_nil (Wp_seq (Wp_seq (Wp_region ?_)))
 refine Rg_op rfl (op_move (v := (Value.bool isnan_1)) rfl ?_)
 refine Rg_nil ?_
 refine Wp_cond rfl (fun hc17 => ?_) (fun hc17 => ?_)
 replace hm := bif_t hm hc17
 refine Wp_seq (Wp_seq (Wp_region ?_))
 refine Rg_op rfl (op_move (v := (Value.bool isnan_2)) rfl ?_)
 refine Rg_nil ?_
 refine Wp_cond rfl (fun hc18 => ?_) (fun hc18 => ?_)
 replace hm := bif_t hm hc18
 refine Wp_seq (Wp_region ?_)
 refine Rg_op rfl (op_assign (v := (Value.int .i64 0)) rfl ?_)
 refine Rg_nil ?_
 refine Wp_ret ?_
 have hz := step_all hs14
 refine ⟨_, (show Closes [] _ _ from rfl), [(Value.int .i64 0)], ⟨rfl, trivial⟩, hs14.ext, ?_⟩
 exact Vr.eq (a := (vI .i64)) (x := 0) ⟨rfl, (show InK .i64 0 from by decide)⟩ (Option.some.inj hm)
 replace hm := bif_f hm hc18
 refine Wp_skip (Wp_seq (Wp_region ?_))
 refine Rg_op rfl (op_assign (v := (Value.int .i64 (-1))) rfl ?_)
 refine Rg_nil ?_
 refine Wp_ret ?_
 have hz := step_all hs14
 refine ⟨_, (show Closes [] _ _ from rfl), [(Value.int .i64 (-1))], ⟨rfl, trivial⟩, hs14.ext, ?_⟩
 exact Vr.eq (a := (vI .i64)) (x := (-1)) ⟨rfl, (show InK .i64 (-1) from by decide)⟩ (Option.some.inj hm)
 replace hm := bif_f hm hc17
 refine Wp_skip (Wp_seq (Wp_seq (Wp_region ?_)))
 refine Rg_op rfl (op_move (v := (Value.bool isnan_2)) rfl ?_)
 refine Rg_nil ?_
 refine Wp_cond rfl (fun hc19 => ?_) (fun hc19 => ?_)
 replace hm := bif_t hm hc19
 refine Wp_seq (Wp_region ?_)
 refine Rg_op rfl (op_assign (v := (Value.int .i64 1)) rfl ?_)
 refine Rg_nil ?_
 refine Wp_ret ?_
 have hz := step_all hs14
 refine ⟨_, (show Closes [] _ _ from rfl), [(Value.int .i64 1)], ⟨rfl, trivial⟩, hs14.ext, ?_⟩
 exact Vr.eq (a := (vI .i64)) (x := 1) ⟨rfl, (show InK .i64 1 from by decide)⟩ (Option.some.inj hm)
 replace hm := bif_f hm hc19
 refine Wp_skip (Wp_seq (Wp_seq (Wp_region ?_)))
 refine Rg_op rfl (op_move (v := (Value.int .i64 x_)) rfl ?_)
 refine Rg_op rfl (op_move (v := (Value.int .i64 y)) rfl ?_)
 refine Rg_op rfl (op_lss rfl rfl ?_)
 refine Rg_nil ?_
 refine Wp_cond rfl (fun hc20 => ?_) (fun hc20 => ?_)
 replace hm := bif_t hm hc20
 refine Wp_seq (Wp_region ?_)
 refine Rg_op rfl (op_assign (v := (Value.int .i64 (-1))) rfl ?_)
 refine Rg_nil ?_
 refine Wp_ret ?_
 have hz := step_all hs14
 refine ⟨_, (show Closes [] _ _ from rfl), [(Value.int .i64 (-1))], ⟨rfl, trivial⟩, hs14.ext, ?_⟩
 exact Vr.eq (a := (vI .i64)) (x := (-1)) ⟨rfl, (show InK .i64 (-1) from by decide)⟩ (Option.some.inj hm)
 replace hm := bif_f hm hc20
 refine Wp_skip (Wp_seq (Wp_seq (Wp_region ?_)))
 refine Rg_op rfl (op_move (v := (Value.int .i64 x_)) rfl ?_)
 refine Rg_op rfl (op_move (v := (Value.int .i64 y)) rfl ?_)
 refine Rg_op rfl (op_gtr rfl rfl ?_)
 refine Rg_nil ?_
 refine Wp_cond rfl (fun hc21 => ?_) (fun hc21 => ?_)
 replace hm := bif_t hm hc21
 refine Wp_seq (Wp_region ?_)
 refine Rg_op rfl (op_assign (v := (Value.int .i64 1)) rfl ?_)
 refine Rg_nil ?_
 refine Wp_ret ?_
 have hz := step_all hs14
 refine ⟨_, (show Closes [] _ _ from rfl), [(Value.int .i64 1)], ⟨rfl, trivial⟩, hs14.ext, ?_⟩
 exact Vr.eq (a := (vI .i64)) (x := 1) ⟨rfl, (show InK .i64 1 from by decide)⟩ (Option.some.inj hm)
 replace hm := bif_f hm hc21
 refine Wp_skip (Wp_seq (Wp_region ?_))
 refine Rg_op rfl (op_assign (v := (Value.int .i64 0)) rfl ?_)
 refine Rg_nil ?_
 refine Wp_ret ?_
 have hz := step_all hs14
 refine ⟨_, (show Closes [] _ _ from rfl), [(Value.int .i64 0)], ⟨rfl, trivial⟩, hs14.ext, ?_⟩
 exact Vr.eq (a := (vI .i64)) (x := 0) ⟨rfl, (show InK .i64 0 from by decide)⟩ (Option.some.inj hm)

def m39_slices_Compareint_int__B0 (s1_ : List Int) (s2_ : List Int) (sf4 : Int → Option Int) (v_1 : Int) : Option Int :=
 bif (decide (v_1 < (s1_.length : Int))) then
  ck ((0 : Int) ≤ v_1 ∧ v_1 < (s1_.length : Int)) <|
  bif (decide ((s2_.length : Int) ≤ v_1)) then
   some 1
  else
   ck ((0 : Int) ≤ v_1 ∧ v_1 < (s2_.length : Int)) <|
   (m63_cmp_Compare (s1_.getD v_1.toNat default) (s2_.getD v_1.toNat default)).bind fun compare_1 =>
   bif (decide (compare_1 ≠ 0)) then
    some compare_1
   else
    sf4 (IntKind.wrap .i64 (v_1 + 1))
 else
  bif (decide ((s1_.length : Int) < (s2_.length : Int))) then
   some (-1)
  else
   some 0

def m39_slices_Compareint_int_ (s1_ : List Int) (s2_ : List Int) : Option Int :=
 loop1 (m39_slices_Compareint_int__B0 s1_ s2_) (((s1_.length : Int) - 0).toNat + 1) 0

theorem c39_slices_Compareint_int_ {w : World} {O : List Nat} {s1_ : List Int} {s2_ : List Int} {Aa : Option Addr} {Ca : Nat} {Ab : Option Addr} {Cb : Nat} (hO : ∀ k ∈ O, k < w.heap.size) (Fa : SlR (rInt .i64) w O Aa Ca s1_) (Fb : SlR (rInt .i64) w O Ab Cb s2_) {x : Int} (hm : m39_slices_Compareint_int_ s1_ s2_ = some x) :
 Ok Try.prog 39 [(Value.slice Aa s1_.length Ca), (Value.slice Ab s2_.length Cb)] w O (vI .i64) x := by
 unfold m39_slices_Compareint_int_ at hm
 refine Fn_of_Wp (n := 36) (xs := [.tmp 4]) Try.func39 rfl Try.ntmps39 Try.results39 rfl ?_
 have hs := St.start hO
 refine Wp_seq (Wp_region ?_)
 refine Rg_op rfl (op_assign (v := (Value.int .i64 0)) rfl ?_)
 refine Rg_nil (Wp_seq (Wp_seq (Wp_region ?_)))
 refine Rg_op rfl (op_move (v := (Value.slice Aa s1_.length Ca)) rfl ?_)
 refine Rg_op rfl (op_len Try.underlying22 rfl ?_)
 have rl1 := inK_len Fa
 refine Rg_op rfl (op_move (v := (Value.int .i64 0)) rfl ?_)
 refine Rg_nil (Wp_block ?_)
 refine Wp_reset [] [(0, (Value.slice Aa s1_.length Ca)), (1, (Value.slice Ab s2_.length Cb)), (9, (Value.slice Aa s1_.length Ca)), (10, (Value.int .i64 (s1_.length : Int))), (11, (Value.int .i64 0))] rfl ⟨rfl, rfl, rfl, rfl, rfl, trivial⟩ fun ξ3 => ?_
 refine Wp_loopM [4, 5, 6, 7, 8, 11, 12, 13, 14, 15, 16, 17, 18, 19, 20, 21, 22, 23, 24, 25, 26, 27, 28, 29, 30] (fun m fr w' => ∃ (v_1 : Int) (Ebs : Ents), Ebs = [] ∧ fr [] [(11, (Value.int .i64 v_1))] ∧ Step (ks [] O) w (ks Ebs O) w' ∧ St ⟨w, [], []⟩ O w' Ebs ∧ InK .i64 v_1 ∧ loop1 (m39_slices_Compareint_int__B0 s1_ s2_) m v_1 = some x) (((s1_.length : Int) - 0).toNat + 1) ⟨0, _, rfl, ⟨Out.refl _ _, rfl, rfl, trivial⟩, Step.refl _ _, hs, (show InK .i64 0 from by decide), hm⟩ ?_ ?_
 rintro _ _ ⟨_, _, _, _, _, _, _, hm⟩; exact loop1_z hm
 rintro m7 K6 hK6 ρ12 w8 ⟨v_1, Ebs, hEbs, hfr11, hst10, hs9, Ra, hm⟩
 obtain ⟨sf4, hsf5, hm⟩ := loop1_s hm; unfold m39_slices_Compareint_int__B0 at hm
 subst hEbs; rw [hfr11.eq]; clear hfr11
 replace Fa := Fa.step hst10; replace Fb := Fb.step hst10
 have ch13 := hst10
 refine Wp_seq (Wp_region ?_)
 refine Rg_op rfl (op_lss rfl rfl ?_)
 refine Rg_nil (Wp_seq ?_)
 refine Wp_cond rfl (fun hc14 => ?_) (fun hc14 => ?_)
 replace hm := bif_t hm hc14
 refine Wp_skip (Wp_seq (Wp_block (Wp_seq (Wp_region ?_))))
 refine Rg_op rfl (op_move (v := (Value.int .i64 v_1)) rfl ?_)
 replace hm := ck_some hm; obtain ⟨hc15, hm⟩ := hm
 refine Rg_op rfl (op_indexAddr (q := (rInt .i64)) ty22 ty3 rfl rfl Fa rfl hc15.1 hc15.2 ?_)
 intro p16 f17
 refine Rg_op rfl (op_loadP ty3 rfl f17 rfl ?_)
 intro v18 h19
 obtain ⟨rfl, Rb⟩ := un_int h19
 refine Rg_op rfl (op_assign (v := (Value.int .i64 v_1)) rfl ?_)
 refine Rg_op rfl (op_assign (v := (Value.int .i64 (s1_.getD v_1.toNat default))) rfl ?_)
 refine Rg_nil (Wp_seq (Wp_seq ?_))
 clear f17
 refine Wp_region ?_
 refine Rg_op rfl (op_move (v := (Value.int .i64 v_1)) rfl ?_)
 refine Rg_op rfl (op_move (v := (Value.slice Ab s2_.length Cb)) rfl ?_)
 refine Rg_op rfl (op_len Try.underlying22 rfl ?_)
 have rl21 := inK_len Fb
 refine Rg_op rfl (op_geq rfl rfl ?_)
 refine Rg_nil ?_
 refine Wp_cond rfl (fun hc22 => ?_) (fun hc22 => ?_)
 replace hm := bif_t hm hc22
 refine Wp_seq ?_
 clear Fa Fb
 refine Wp_region ?_
 refine Rg_op rfl (op_assign (v := (Value.int .i64 1)) rfl ?_)
 refine Rg_nil ?_
 refine Wp_ret ?_
 have hz := step_all hs9
 refine ⟨_, (show Closes [] _ _ from rfl), [(Value.int .i64 1)], ⟨rfl, trivial⟩, hs9.ext, ?_⟩
 exact Vr.eq (a := (vI .i64)) (x := 1) ⟨rfl, (show InK .i64 1 from by decide)⟩ (Option.some.inj hm)
 replace hm := bif_f hm hc22
 refine Wp_skip (Wp_seq (Wp_region ?_))
 refine Rg_op rfl (op_move (v := (Value.slice Ab s2_.length Cb)) rfl ?_)
 refine Rg_op rfl (op_move (v := (Value.int .i64 v_1)) rfl ?_)
 replace hm := ck_some hm; obtain ⟨hc23, hm⟩ := hm
 refine Rg_op rfl (op_indexAddr (q := (rInt .i64)) ty22 ty3 rfl rfl Fb rfl hc23.1 hc23.2 ?_)
 intro p24 f25
 refine Rg_op rfl (op_loadP ty3 rfl f25 rfl ?_)
 intro v26 h27
 obtain ⟨rfl, Rc⟩ := un_int h27
 refine Rg_op rfl (op_assign (v := (Value.int .i64 (s2_.getD v_1.toNat default))) rfl ?_)
 refine Rg_nil (Wp_seq ?_)
 clear f25
 refine Wp_region ?_
 refine Rg_op rfl (op_move (v := (Value.int .i64 (s1_.getD v_1.toNat default))) rfl ?_)
 refine Rg_op rfl (op_move (v := (Value.int .i64 (s2_.getD v_1.toNat default))) rfl ?_)
 replace hm := bd hm; obtain ⟨compare_1, hv29, hm⟩ := hm
 refine Rg_op rfl (op_call Try.call63 (c63_cmp_Compare (x_ := (s1_.getD v_1.toNat default)) (y := (s2_.getD v_1.toNat default)) hs9.ltw Rb Rc hv29) rfl ?_)
 rintro v30 w31 ⟨hx32, h33⟩
 have hs34 := hs9.call hx32
 have p35 := Step.ext (O := ks [] O) hx32
 clear hx32
 replace Fa := Fa.step p35; replace Fb := Fb.step p35; replace ch13 := ch13.trans p35; clear p35 hs9
 obtain ⟨rfl, Rd⟩ := h33
 refine Rg_op rfl (op_assign (v := (Value.int .i64 compare_1)) rfl ?_)
 refine Rg_nil (Wp_seq (Wp_region ?_))
 refine Rg_op rfl (op_move (v := (Value.int .i64 compare_1)) rfl ?_)
 refine Rg_op rfl (op_neq rfl rfl ?_)
 refine Rg_nil ?_
 refine Wp_cond rfl (fun hc37 => ?_) (fun hc37 => ?_)
 replace hm := bif_t hm hc37
 refine Wp_seq ?_
 clear Fa Fb
 refine Wp_region ?_
 refine Rg_op rfl (op_move (v := (Value.int .i64 compare_1)) rfl ?_)
 refine Rg_op rfl (op_assign (v := (Value.int .i64 compare_1)) rfl ?_)
 refine Rg_nil ?_
 refine Wp_ret ?_
 have hz := step_all hs34
 refine ⟨_, (show Closes [] _ _ from rfl), [(Value.int .i64 compare_1)], ⟨rfl, trivial⟩, hs34.ext, ?_⟩
 exact Vr.eq (a := (vI .i64)) (x := compare_1) ⟨rfl, Rd⟩ (Option.some.inj hm)
 replace hm := bif_f hm hc37
 refine Wp_skip (Wp_region ?_)
 refine Rg_op rfl (op_addw rfl rfl ?_)
 refine Rg_op rfl (op_move (v := (Value.int .i64 (IntKind.wrap .i64 (v_1 + 1)))) rfl ?_)
 refine Rg_nil ?_
 exact hK6 _ _ ⟨(IntKind.wrap .i64 (v_1 + 1)), _, rfl, ⟨(by repeat (first | with_reducible exact Out.refl _ _ | refine Out.upd ?_ rfl | refine Out.updL ?_ rfl | refine Out.mix' ?_ rfl | exact Out.refl _ _)), rfl, rfl, trivial⟩, ch13, hs34, (inK_wrap .i64 _), jnE1 hsf5 hm⟩
 replace hm := bif_f hm hc14
 refine Wp_exit (Wp_seq (Wp_seq (Wp_region ?_)))
 refine Rg_op rfl (op_move (v := (Value.slice Aa s1_.length Ca)) rfl ?_)
 refine Rg_op rfl (op_len Try.underlying22 rfl ?_)
 have rl38 := inK_len Fa
 refine Rg_op rfl (op_move (v := (Value.slice Ab s2_.length Cb)) rfl ?_)
 refine Rg_op rfl (op_len Try.underlying22 rfl ?_)
 have rl39 := inK_len Fb
 refine Rg_op rfl (op_lss rfl rfl ?_)
 refine Rg_nil ?_
 refine Wp_cond rfl (fun hc40 => ?_) (fun hc40 => ?_)
 replace hm := bif_t hm hc40
 refine Wp_seq ?_
 clear Fa Fb
 refine Wp_region ?_
 refine Rg_op rfl (op_assign (v := (Value.int .i64 (-1))) rfl ?_)
 refine Rg_nil ?_
 refine Wp_ret ?_
 have hz := step_all hs9
 refine ⟨_, (show Closes [] _ _ from rfl), [(Value.int .i64 (-1))], ⟨rfl, trivial⟩, hs9.ext, ?_⟩
 exact Vr.eq (a := (vI .i64)) (x := (-1)) ⟨rfl, (show InK .i64 (-1) from by decide)⟩ (Option.some.inj hm)
 replace hm := bif_f hm hc40
 refine Wp_skip (Wp_seq ?_)
 clear Fa Fb
 refine Wp_region ?_
 refine Rg_op rfl (op_assign (v := (Value.int .i64 0)) rfl ?_)
 refine Rg_nil ?_
 refine Wp_ret ?_
 have hz := step_all hs9
 refine ⟨_, (show Closes [] _ _ from rfl), [(Value.int .i64 0)], ⟨rfl, trivial⟩, hs9.ext, ?_⟩
 exact Vr.eq (a := (vI .i64)) (x := 0) ⟨rfl, (show InK .i64 0 from by decide)⟩ (Option.some.inj hm)

def m18_clearing_Best_B0 (r_ : XRound) (sf61 : (List Int) → Bool → (List Int) → Option ((List Int) × Int)) (xi52 : (List Int)) (v_1 : List Int) (v_1n : Bool) (v_2 : List Int) : Option ((List Int) × Int) :=
 (m30_clearing_value r_ xi52).bind fun value_1 =>
 jn (fun (v_3 : Bool) =>
  bif v_3 then
   sf61 v_1 v_1n v_2
  else
   (m23_coalition_Stable r_ xi52).bind fun stable_1 =>
   jn (fun (v_4 : Bool) =>
    bif v_4 then
     (m40_slices_Cloneint_int_ xi52).bind fun clone_1 =>
     ck (0 < value_1.length) <|
     sf61 value_1 false clone_1
    else
     sf61 v_1 v_1n v_2)
   (fun k117 =>
    bif (decide (stable_1.2 = 0)) then
     k117 stable_1.1
    else
     k117 false))
 (fun k92 =>
  bif (!v_1n) then
   (m39_slices_Compareint_int_ value_1 v_1).bind fun compare_1 =>
   k92 (decide (0 ≤ compare_1))
  else
   k92 false)

def m18_clearing_Best (r_ : XRound) : Option ((List Int) × Int) :=
 (m25_coalition_Check r_).bind fun check_1 =>
 bif (decide (check_1 ≠ 0)) then
  some (([] : List Int), check_1)
 else
  (m38_clearing_assignments r_).bind fun assignments_1 =>
  jn (fun (v_1 : List Int) (v_1n : Bool) (v_2 : List Int) =>
   bif v_1n then
    some (([] : List Int), 380)
   else
    some (v_2, 0))
  (fun k41 =>
   rng3 (m18_clearing_Best_B0 r_) k41 assignments_1 ([] : List Int) true ([] : List Int))

theorem c18_clearing_Best {w : World} {O : List Nat} {r_ : XRound} {Aa : Option Addr} {Ca : Nat} {Ab : Option Addr} {Cb : Nat} (hO : ∀ k ∈ O, k < w.heap.size) (Ra : InK .i64 r_.slots) (Fa : SlR (rInt .i64) w O Aa Ca r_.owners) (Fb : SlR (rSl (rInt .i64)) w O Ab Cb r_.costs) {x : (List Int) × Int} (hm : m18_clearing_Best r_ = some x) :
 Ok Try.prog 18 [(Value.agg [(Value.int .i64 r_.slots), (Value.slice Aa r_.owners.length Ca), (Value.slice Ab r_.costs.length Cb)].toArray)] w O (vT2 (vC (rSl (rInt .i64))) (vI .i64)) x := by
 unfold m18_clearing_Best at hm
 refine Fn_of_Wp (n := 46) (xs := [.cell 2 22, .tmp 3]) Try.func18 rfl Try.ntmps18 Try.results18 rfl ?_
 have hs := St.start hO
 refine Wp_seq (Wp_region ?_)
 refine Rg_op rfl (op_box (cs := [(Value.int .i64 r_.slots), (Value.slice Aa r_.owners.length Ca), (Value.slice Ab r_.costs.length Cb)]) hs rfl rfl ?_)
 intro b1 w2 _ p3 hs4
 replace Fa := Fa.step p3; replace Fb := Fb.step p3; clear p3
 refine Rg_op rfl (op_alloc ty22 hs4 ?_)
 intro b6 w7 _ p8 hs9
 replace Fa := Fa.step p8; replace Fb := Fb.step p8; clear p8 hs4
 refine Rg_op rfl (op_assign (v := (Value.int .i64 0)) rfl ?_)
 refine Rg_nil (Wp_seq (Wp_seq (Wp_region ?_)))
 refine Rg_op rfl (op_loadA (cs := [(Value.int .i64 r_.slots), (Value.slice Aa r_.owners.length Ca), (Value.slice Ab r_.costs.length Cb)]) (vs := [(Value.int .i64 r_.slots), (Value.slice Aa r_.owners.length Ca), (Value.slice Ab r_.costs.length Cb)]) (i := 1) ty25 hs9 rfl rfl rfl rfl ?_)
 replace hm := bd hm; obtain ⟨check_1, hv11, hm⟩ := hm
 refine Rg_op rfl (op_call Try.call25 (c25_coalition_Check (r_ := r_) hs9.ltw Ra Fa Fb hv11) rfl ?_)
 rintro v12 w13 ⟨hx14, h15⟩
 have hs16 := hs9.call hx14
 have p17 := Step.ext (O := ks [(some b6, Obj.cells [(Value.slice none 0 0)].toArray 22), (some b1, Obj.cells [(Value.int .i64 r_.slots), (Value.slice Aa r_.owners.length Ca), (Value.slice Ab r_.costs.length Cb)].toArray 25)] O) hx14
 clear hx14
 replace Fa := Fa.step p17; replace Fb := Fb.step p17; clear p17 hs9
 obtain ⟨rfl, Rb⟩ := h15
 refine Rg_op rfl (op_assign (v := (Value.int .i64 check_1)) rfl ?_)
 refine Rg_nil (Wp_seq (Wp_region ?_))
 refine Rg_op rfl (op_move (v := (Value.int .i64 check_1)) rfl ?_)
 refine Rg_op rfl (op_neq rfl rfl ?_)
 refine Rg_nil ?_
 refine Wp_cond rfl (fun hc19 => ?_) (fun hc19 => ?_)
 replace hm := bif_t hm hc19
 refine Wp_seq ?_
 obtain ⟨hs20, p21⟩ := hs16.sub (bs' := [(some b6, Obj.cells [(Value.slice none 0 0)].toArray 22)]) (.cons_cons _ (.cons _ List.Sublist.slnil))
 clear Fa Fb
 clear p21 hs16
 refine Wp_region ?_
 refine Rg_op rfl (op_move (v := (Value.int .i64 check_1)) rfl ?_)
 refine Rg_op_ (op_store (cs := [(Value.slice none 0 0)]) (vs := [(Value.slice none 0 0)]) (cs' := [(Value.slice none 0 0)]) (bs' := [(some b6, Obj.cells [(Value.slice none 0 0)].toArray 22)]) (i := 0) ty22 hs20 rfl rfl rfl rfl rfl (le_lit rfl) rfl rfl rfl ?_)
 intro w22 p23 hs24
 clear p23 hs20
 refine Rg_op rfl (op_assign (v := (Value.int .i64 check_1)) rfl ?_)
 refine Rg_nil ?_
 refine Wp_ret ?_
 have hz := step_all hs24
 refine ⟨_, (show Closes [] _ _ from rfl), [(Value.slice none 0 0), (Value.int .i64 check_1)], ⟨res1 (cs := [(Value.slice none 0 0)]) ty22 (i := 0) hs24 rfl rfl rfl, rfl, trivial⟩, hs24.ext, ?_⟩
 exact Vr.eq (a := (vT2 (vC (rSl (rInt .i64))) (vI .i64))) (x := (([] : List Int), check_1)) (mkT2 (mkC (mk_sl SlR.nil_)) ⟨rfl, Rb⟩) (Option.some.inj hm)
 replace hm := bif_f hm hc19
 refine Wp_skip (Wp_seq (Wp_region ?_))
 refine Rg_op rfl (op_alloc ty22 hs16 ?_)
 intro b25 w26 _ p27 hs28
 replace Fa := Fa.step p27; replace Fb := Fb.step p27; clear p27 hs16
 refine Rg_nil (Wp_seq (Wp_seq (Wp_region ?_)))
 refine Rg_op rfl (op_loadA (cs := [(Value.int .i64 r_.slots), (Value.slice Aa r_.owners.length Ca), (Value.slice Ab r_.costs.length Cb)]) (vs := [(Value.int .i64 r_.slots), (Value.slice Aa r_.owners.length Ca), (Value.slice Ab r_.costs.length Cb)]) (i := 2) ty25 hs28 rfl rfl rfl rfl ?_)
 replace hm := bd hm; obtain ⟨assignments_1, hv30, hm⟩ := hm
 refine Rg_op rfl (op_call Try.call38 (c38_clearing_assignments (r_ := r_) hs28.ltw Ra Fa Fb hv30) rfl ?_)
 rintro v31 w32 ⟨hx33, h34⟩
 have hs35 := hs28.call hx33
 have p36 := Step.ext (O := ks [(some b25, Obj.cells [(Value.slice none 0 0)].toArray 22), (some b6, Obj.cells [(Value.slice none 0 0)].toArray 22), (some b1, Obj.cells [(Value.int .i64 r_.slots), (Value.slice Aa r_.owners.length Ca), (Value.slice Ab r_.costs.length Cb)].toArray 25)] O) hx33
 clear hx33
 replace Fa := Fa.step p36; replace Fb := Fb.step p36; clear p36 hs28
 have F_y37 : ItR Try.prog (enc1 (vC (rSl (rInt .i64)))) _ _ v31 assignments_1 := h34
 refine Rg_nil (Wp_block ?_)
 have hit47 := F_y37; obtain ⟨fk43, cp44, hvq45, hcl46, hit47⟩ := hit47
 replace hm := jn_elim hm; obtain ⟨k41, hk42, hm⟩ := hm
 have hs48 := hs35.ghost (Obj.cells #[] 3)
 refine Wp_rangeFunc (σ := (List Int) × Bool × (List Int) × (Option Addr) × Nat × (Option Addr) × Nat × (Option Nat) × Obj) (ps := [17]) hs48 (rfl.trans hvq45) hcl46 hit47 rfl enc1_len enc1_step (fun s => match s with | (v_1, v_1n, v_2, Ac, Cc, Ad, Cd, k_g40, o_g40) => [(k_g40, o_g40), (some b25, Obj.cells [(Value.slice Ac v_1.length Cc)].toArray 22), (some b6, Obj.cells [(Value.slice Ad v_2.length Cd)].toArray 22), (some b1, Obj.cells [(Value.int .i64 r_.slots), (Value.slice Aa r_.owners.length Ca), (Value.slice Ab r_.costs.length Cb)].toArray 25)]) (fun s w O => match s with | (v_1, v_1n, v_2, Ac, Cc, Ad, Cd, k_g40, o_g40) => SlR (rInt .i64) w O Ac Cc v_1 ∧ Ac.isNone = v_1n ∧ Gs (rInt .i64) 3 w O Ad Cd v_2 k_g40 o_g40) (fun s w O w' O' p h => by obtain ⟨v_1, v_1n, v_2, Ac, Cc, Ad, Cd, k_g40, o_g40⟩ := s; have h : SlR (rInt .i64) w O Ac Cc v_1 ∧ Ac.isNone = v_1n ∧ Gs (rInt .i64) 3 w O Ad Cd v_2 k_g40 o_g40 := h; obtain ⟨Fc, hn_v_1, Fd⟩ := h; exact ⟨Fc.step p, hn_v_1, Fd.step p⟩) (fun s l => match s with | (v_1, v_1n, v_2, Ac, Cc, Ad, Cd, k_g40, o_g40) => rng3 (m18_clearing_Best_B0 r_) k41 l v_1 v_1n v_2 = some x) [] (fun _ _ => False) (([] : List Int), true, ([] : List Int), none, 0, none, 0, none, (Obj.cells #[] 3)) rfl ⟨SlR.nil_, rfl, Gs.nil_⟩ hm ?_ ?_ ?_
 rintro l50 E51 ⟨v_1, v_1n, v_2, Ac, Cc, Ad, Cd, k_g40, o_g40⟩ xi52 rest53 w54 vs55 z56 hz57 hs58 hst59 ⟨Fc, hn_v_1, Fd⟩ hm hx60
 replace hs58 : St z56 (E51 ++ O) w54 [(k_g40, o_g40), (some b25, Obj.cells [(Value.slice Ac v_1.length Cc)].toArray 22), (some b6, Obj.cells [(Value.slice Ad v_2.length Cd)].toArray 22), (some b1, Obj.cells [(Value.int .i64 r_.slots), (Value.slice Aa r_.owners.length Ca), (Value.slice Ab r_.costs.length Cb)].toArray 25)] := hs58
 have ch63 : Step (ks [(none, (Obj.cells #[] 3)), (some b25, Obj.cells [(Value.slice none 0 0)].toArray 22), (some b6, Obj.cells [(Value.slice none 0 0)].toArray 22), (some b1, Obj.cells [(Value.int .i64 r_.slots), (Value.slice Aa r_.owners.length Ca), (Value.slice Ab r_.costs.length Cb)].toArray 25)] O) w32 (ks [(k_g40, o_g40), (some b25, Obj.cells [(Value.slice Ac v_1.length Cc)].toArray 22), (some b6, Obj.cells [(Value.slice Ad v_2.length Cd)].toArray 22), (some b1, Obj.cells [(Value.int .i64 r_.slots), (Value.slice Aa r_.owners.length Ca), (Value.slice Ab r_.costs.length Cb)].toArray 25)] (E51 ++ O)) w54 := hst59; clear hst59
 replace Fc : SlR (rInt .i64) w54 (ks [(k_g40, o_g40), (some b25, Obj.cells [(Value.slice Ac v_1.length Cc)].toArray 22), (some b6, Obj.cells [(Value.slice Ad v_2.length Cd)].toArray 22), (some b1, Obj.cells [(Value.int .i64 r_.slots), (Value.slice Aa r_.owners.length Ca), (Value.slice Ab r_.costs.length Cb)].toArray 25)] (E51 ++ O)) Ac Cc v_1 := Fc
 replace hn_v_1 : Ac.isNone = v_1n := hn_v_1
 replace Fd : Gs (rInt .i64) 3 w54 (ks [(k_g40, o_g40), (some b25, Obj.cells [(Value.slice Ac v_1.length Cc)].toArray 22), (some b6, Obj.cells [(Value.slice Ad v_2.length Cd)].toArray 22), (some b1, Obj.cells [(Value.int .i64 r_.slots), (Value.slice Aa r_.owners.length Ca), (Value.slice Ab r_.costs.length Cb)].toArray 25)] (E51 ++ O)) Ad Cd v_2 k_g40 o_g40 := Fd
 have hm64 := rng3_s (show rng3 _ _ (xi52 :: rest53) v_1 v_1n v_2 = some _ from hm); clear hm; obtain ⟨sf61, hsf62, hm⟩ := hm64
 unfold m18_clearing_Best_B0 at hm
 replace Fa := Fa.step ch63; replace Fb := Fb.step ch63; replace F_y37 := F_y37.step ch63
 replace hx60 : (enc1 (vC (rSl (rInt .i64)))) xi52 w54 (ks [(k_g40, o_g40), (some b25, Obj.cells [(Value.slice Ac v_1.length Cc)].toArray 22), (some b6, Obj.cells [(Value.slice Ad v_2.length Cd)].toArray 22), (some b1, Obj.cells [(Value.int .i64 r_.slots), (Value.slice Aa r_.owners.length Ca), (Value.slice Ab r_.costs.length Cb)].toArray 25)] (E51 ++ O)) vs55 := hx60
 obtain ⟨v65, rfl, h66⟩ := hx60
 obtain ⟨Ae, Ce, rfl, Fe⟩ := un_sl h66
 refine Wp_region ?_
 refine Rg_op rfl (op_assign (v := (Value.slice Ae xi52.length Ce)) rfl ?_)
 refine Rg_nil ?_
 refine Exists.intro _ (And.intro hs58 ?_)
 intro w68 z69 RQ70 hz71 hs72 p73 hN74 hX75
 replace Fa := Fa.step p73; replace Fb := Fb.step p73; replace F_y37 := F_y37.step p73; replace Fc := Fc.step p73; replace Fd := Fd.step p73; replace Fe := Fe.step p73; replace ch63 := ch63.trans p73; clear p73 hs58
 refine Wp_block (Wp_seq (Wp_region ?_))
 refine Rg_op rfl (op_loadA (cs := [(Value.int .i64 r_.slots), (Value.slice Aa r_.owners.length Ca), (Value.slice Ab r_.costs.length Cb)]) (vs := [(Value.int .i64 r_.slots), (Value.slice Aa r_.owners.length Ca), (Value.slice Ab r_.costs.length Cb)]) (i := 3) ty25 hs72 rfl rfl rfl rfl ?_)
 refine Rg_op rfl (op_move (v := (Value.slice Ae xi52.length Ce)) rfl ?_)
 replace hm := bd hm; obtain ⟨value_1, hv76, hm⟩ := hm
 refine Rg_op rfl (op_call Try.call30 (g30_clearing_value (r_ := r_) (slots := xi52) hs72.ltw Ra Fa Fb Fe hv76) rfl ?_)
 rintro _ w78 ⟨hx79, a82, c83, k84, o85, rfl, hk86, f87⟩
 obtain ⟨hs81, p88⟩ := hs72.callG (o := o85) hx79 hk86
 rw [← ks_cons (o := o85)] at f87
 replace Fa := Fa.step p88; replace Fb := Fb.step p88; replace F_y37 := F_y37.step p88; replace Fc := Fc.step p88; replace Fd := Fd.step p88; replace Fe := Fe.step p88; replace ch63 := ch63.trans p88; clear p88 hs72
 refine Rg_op rfl (op_assign (v := (Value.slice a82 value_1.length c83)) rfl ?_)
 refine Rg_nil (Wp_seq ?_)
 refine Wp_reset [] [(1, (Value.pointer (some ⟨b1, 0, none⟩))), (2, (Value.pointer (some ⟨b6, 0, none⟩))), (3, (Value.int .i64 0)), (5, (Value.pointer (some ⟨b25, 0, none⟩))), (6, (Value.slice Ae xi52.length Ce)), (7, (Value.slice a82 value_1.length c83)), (16, v31)] rfl ⟨rfl, rfl, rfl, rfl, rfl, rfl, rfl, trivial⟩ fun ξ90 => ?_
 replace hm := jn_elim hm; obtain ⟨k92, hk93, hm⟩ := hm
 refine Wp_seqJ [21, 22, 23, 24, 25, 26, 27, 28] (fun fr w' => ∃ (v_3 : Bool) (Ebs : Ents), Ebs = [(k84, o85), (k_g40, o_g40), (some b25, Obj.cells [(Value.slice Ac v_1.length Cc)].toArray 22), (some b6, Obj.cells [(Value.slice Ad v_2.length Cd)].toArray 22), (some b1, Obj.cells [(Value.int .i64 r_.slots), (Value.slice Aa r_.owners.length Ca), (Value.slice Ab r_.costs.length Cb)].toArray 25)] ∧ fr [] [(28, (Value.bool v_3))] ∧ Step (ks [(k84, o85), (k_g40, o_g40), (some b25, Obj.cells [(Value.slice Ac v_1.length Cc)].toArray 22), (some b6, Obj.cells [(Value.slice Ad v_2.length Cd)].toArray 22), (some b1, Obj.cells [(Value.int .i64 r_.slots), (Value.slice Aa r_.owners.length Ca), (Value.slice Ab r_.costs.length Cb)].toArray 25)] (E51 ++ O)) w78 (ks Ebs (E51 ++ O)) w' ∧ St z69 (E51 ++ O) w' Ebs ∧ k92 v_3 = some x) ?_ ?_
 rintro ρ99 w95 ⟨v_3, Ebs, hEbs, hfr98, hst97, hs96, hm⟩
 replace hm := jnE1 hk93 hm
 subst hEbs; rw [hfr98.eq]; clear hfr98
 replace Fa := Fa.step hst97; replace Fb := Fb.step hst97; replace F_y37 := F_y37.step hst97; replace Fc := Fc.step hst97; replace Fd := Fd.step hst97; replace Fe := Fe.step hst97; replace f87 := f87.step hst97; replace ch63 := ch63.trans hst97; clear hst97 hs81
 refine Wp_cond rfl (fun hc100 => ?_) (fun hc100 => ?_)
 replace hm := bif_t hm hc100
 refine Wp_exit ?_
 have hs101 := hs96.drop 0
 replace Fa := Fa.step (hs96.dropS 0)
 replace Fb := Fb.step (hs96.dropS 0)
 replace F_y37 := F_y37.step (hs96.dropS 0)
 replace Fc := Fc.step (hs96.dropS 0)
 replace Fd := Fd.step (hs96.dropS 0)
 replace Fe := Fe.step (hs96.dropS 0)
 replace f87 := f87.step (hs96.dropS 0)
 replace ch63 := ch63.trans (hs96.dropS 0); clear hs96
 exact hN74 (v_1, v_1n, v_2, Ac, Cc, Ad, Cd, k_g40, o_g40) _ _ hs101 ch63 ⟨Fc, hn_v_1, Fd⟩ (jnE3 hsf62 hm)
 replace hm := bif_f hm hc100
 refine Wp_skip (Wp_seq (Wp_region ?_))
 refine Rg_op rfl (op_loadA (cs := [(Value.int .i64 r_.slots), (Value.slice Aa r_.owners.length Ca), (Value.slice Ab r_.costs.length Cb)]) (vs := [(Value.int .i64 r_.slots), (Value.slice Aa r_.owners.length Ca), (Value.slice Ab r_.costs.length Cb)]) (i := 4) ty25 hs96 rfl rfl rfl rfl ?_)
 refine Rg_op rfl (op_move (v := (Value.slice Ae xi52.length Ce)) rfl ?_)
 replace hm := bd hm; obtain ⟨stable_1, hv102, hm⟩ := hm
 refine Rg_op rfl (op_call Try.call23 (c23_coalition_Stable (r_ := r_) (slots := xi52) hs96.ltw Ra Fa Fb Fe hv102) rfl ?_)
 rintro v103 w104 ⟨hx105, h106⟩
 have hs107 := hs96.call hx105
 have p108 := Step.ext (O := ks [(k84, o85), (k_g40, o_g40), (some b25, Obj.cells [(Value.slice Ac v_1.length Cc)].toArray 22), (some b6, Obj.cells [(Value.slice Ad v_2.length Cd)].toArray 22), (some b1, Obj.cells [(Value.int .i64 r_.slots), (Value.slice Aa r_.owners.length Ca), (Value.slice Ab r_.costs.length Cb)].toArray 25)] (E51 ++ O)) hx105
 clear hx105
 replace Fa := Fa.step p108; replace Fb := Fb.step p108; replace F_y37 := F_y37.step p108; replace Fc := Fc.step p108; replace Fd := Fd.step p108; replace Fe := Fe.step p108; replace f87 := f87.step p108; replace ch63 := ch63.trans p108; clear p108 hs96
 obtain ⟨v109, v110, rfl, h111, h112⟩ := h106
 obtain rfl := h111
 obtain ⟨rfl, Rc⟩ := h112
 refine Rg_op rfl (op_move (v := (Value.tuple [(Value.bool stable_1.1), (Value.int .i64 stable_1.2)].toArray)) rfl ?_)
 refine Rg_op rfl (op_extract (v := (Value.bool stable_1.1)) rfl rfl ?_)
 refine Rg_op rfl (op_extract (v := (Value.int .i64 stable_1.2)) rfl rfl ?_)
 refine Rg_op rfl (op_assign (v := (Value.bool stable_1.1)) rfl ?_)
 refine Rg_op rfl (op_assign (v := (Value.int .i64 stable_1.2)) rfl ?_)
 refine Rg_nil ?_
 refine Wp_reset [] [(1, (Value.pointer (some ⟨b1, 0, none⟩))), (2, (Value.pointer (some ⟨b6, 0, none⟩))), (3, (Value.int .i64 0)), (5, (Value.pointer (some ⟨b25, 0, none⟩))), (6, (Value.slice Ae xi52.length Ce)), (7, (Value.slice a82 value_1.length c83)), (8, (Value.bool stable_1.1)), (9, (Value.int .i64 stable_1.2)), (16, v31)] rfl ⟨rfl, rfl, rfl, rfl, rfl, rfl, rfl, rfl, rfl, trivial⟩ fun ξ115 => ?_
 replace hm := jn_elim hm; obtain ⟨k117, hk118, hm⟩ := hm
 refine Wp_seqJ [35, 36, 37, 38, 39] (fun fr w' => ∃ (v_4 : Bool) (Ebs : Ents), Ebs = [(k84, o85), (k_g40, o_g40), (some b25, Obj.cells [(Value.slice Ac v_1.length Cc)].toArray 22), (some b6, Obj.cells [(Value.slice Ad v_2.length Cd)].toArray 22), (some b1, Obj.cells [(Value.int .i64 r_.slots), (Value.slice Aa r_.owners.length Ca), (Value.slice Ab r_.costs.length Cb)].toArray 25)] ∧ fr [] [(39, (Value.bool v_4))] ∧ Step (ks [(k84, o85), (k_g40, o_g40), (some b25, Obj.cells [(Value.slice Ac v_1.length Cc)].toArray 22), (some b6, Obj.cells [(Value.slice Ad v_2.length Cd)].toArray 22), (some b1, Obj.cells [(Value.int .i64 r_.slots), (Value.slice Aa r_.owners.length Ca), (Value.slice Ab r_.costs.length Cb)].toArray 25)] (E51 ++ O)) w104 (ks Ebs (E51 ++ O)) w' ∧ St z69 (E51 ++ O) w' Ebs ∧ k117 v_4 = some x) ?_ ?_
 rintro ρ124 w120 ⟨v_4, Ebs, hEbs, hfr123, hst122, hs121, hm⟩
 replace hm := jnE1 hk118 hm
 subst hEbs; rw [hfr123.eq]; clear hfr123
 replace Fa := Fa.step hst122; replace Fb := Fb.step hst122; replace F_y37 := F_y37.step hst122; replace Fc := Fc.step hst122; replace Fd := Fd.step hst122; replace Fe := Fe.step hst122; replace f87 := f87.step hst122; replace ch63 := ch63.trans hst122; clear hst122 hs107
 refine Wp_cond rfl (fun hc125 => ?_) (fun hc125 => ?_)
 replace hm := bif_t hm hc125
 refine Wp_region ?_
 refine Rg_op rfl (op_move (v := (Value.slice Ae xi52.length Ce)) rfl ?_)
 replace hm := bd hm; obtain ⟨clone_1, hv126, hm⟩ := hm
 refine Rg_op rfl (op_call Try.call40 (g40_slices_Cloneint_int_ (s := xi52) hs121.ltw Fe hv126) rfl ?_)
 rintro _ w128 ⟨hx129, a132, c133, k134, o135, rfl, hk136, f137⟩
 obtain ⟨hs131, p138⟩ := hs121.callG (o := o135) hx129 hk136
 rw [← ks_cons (o := o135)] at f137
 replace Fa := Fa.step p138; replace Fb := Fb.step p138; replace F_y37 := F_y37.step p138; replace Fc := Fc.step p138; replace Fd := Fd.step p138; replace Fe := Fe.step p138; replace f87 := f87.step p138; replace ch63 := ch63.trans p138; clear p138 hs121
 refine Rg_op rfl (op_move (v := (Value.slice a82 value_1.length c83)) rfl ?_)
 refine Rg_op_ (op_store (cs := [(Value.slice Ad v_2.length Cd)]) (vs := [(Value.slice a132 clone_1.length c133)]) (cs' := [(Value.slice a132 clone_1.length c133)]) (bs' := [(k134, o135), (k84, o85), (k_g40, o_g40), (some b25, Obj.cells [(Value.slice Ac v_1.length Cc)].toArray 22), (some b6, Obj.cells [(Value.slice a132 clone_1.length c133)].toArray 22), (some b1, Obj.cells [(Value.int .i64 r_.slots), (Value.slice Aa r_.owners.length Ca), (Value.slice Ab r_.costs.length Cb)].toArray 25)]) (i := 4) ty22 hs131 rfl rfl rfl rfl rfl (le_lit rfl) rfl rfl rfl ?_)
 intro w140 p141 hs142
 replace Fa := Fa.step p141; replace Fb := Fb.step p141; replace F_y37 := F_y37.step p141; replace Fc := Fc.step p141; replace Fd := Fd.step p141; replace Fe := Fe.step p141; replace f87 := f87.step p141; replace f137 := f137.step p141; replace ch63 := ch63.trans p141; clear p141 hs131
 obtain ⟨hs144, p145, f143⟩ := Gs.publish (i := 1) hs142 rfl f87
 replace Fa := Fa.step p145; replace Fb := Fb.step p145; replace F_y37 := F_y37.step p145; replace Fc := Fc.step p145; replace Fd := Fd.step p145; replace Fe := Fe.step p145; replace f137 := f137.step p145; replace ch63 := ch63.trans p145; clear p145 hs142
 replace hm := ck_some hm; obtain ⟨hc146, hm⟩ := hm
 have hn147 : a82.isNone = false := f143.nonnil hc146
 refine Rg_op_ (op_store (cs := [(Value.slice Ac v_1.length Cc)]) (vs := [(Value.slice a82 value_1.length c83)]) (cs' := [(Value.slice a82 value_1.length c83)]) (bs' := [(k134, o135), (k_g40, o_g40), (some b25, Obj.cells [(Value.slice a82 value_1.length c83)].toArray 22), (some b6, Obj.cells [(Value.slice a132 clone_1.length c133)].toArray 22), (some b1, Obj.cells [(Value.int .i64 r_.slots), (Value.slice Aa r_.owners.length Ca), (Value.slice Ab r_.costs.length Cb)].toArray 25)]) (i := 2) ty22 hs144 rfl rfl rfl rfl rfl (le_lit rfl) rfl rfl rfl ?_)
 intro w148 p149 hs150
 replace Fa := Fa.step p149; replace Fb := Fb.step p149; replace F_y37 := F_y37.step p149; replace Fc := Fc.step p149; replace Fd := Fd.step p149; replace Fe := Fe.step p149; replace f137 := f137.step p149; replace f143 := f143.step p149; replace ch63 := ch63.trans p149; clear p149 hs144
 refine Rg_nil ?_
 have hs151 := hs150.drop 1
 replace Fa := Fa.step (hs150.dropS 1)
 replace Fb := Fb.step (hs150.dropS 1)
 replace F_y37 := F_y37.step (hs150.dropS 1)
 replace Fc := Fc.step (hs150.dropS 1)
 replace Fd := Fd.step (hs150.dropS 1)
 replace Fe := Fe.step (hs150.dropS 1)
 replace f137 := f137.step (hs150.dropS 1)
 replace f143 := f143.step (hs150.dropS 1)
 replace ch63 := ch63.trans (hs150.dropS 1); clear hs150
 exact hN74 (value_1, false, clone_1, a82, c83, a132, c133, k134, o135) _ _ hs151 ch63 ⟨f143, hn147, f137⟩ (jnE3 hsf62 hm)
 replace hm := bif_f hm hc125
 refine Wp_skip ?_
 have hs152 := hs121.drop 0
 replace Fa := Fa.step (hs121.dropS 0)
 replace Fb := Fb.step (hs121.dropS 0)
 replace F_y37 := F_y37.step (hs121.dropS 0)
 replace Fc := Fc.step (hs121.dropS 0)
 replace Fd := Fd.step (hs121.dropS 0)
 replace Fe := Fe.step (hs121.dropS 0)
 replace f87 := f87.step (hs121.dropS 0)
 replace ch63 := ch63.trans (hs121.dropS 0); clear hs121
 exact hN74 (v_1, v_1n, v_2, Ac, Cc, Ad, Cd, k_g40, o_g40) _ _ hs152 ch63 ⟨Fc, hn_v_1, Fd⟩ (jnE3 hsf62 hm)
 intro K119 hK119
 have ch153 := Step.refl (ks [(k84, o85), (k_g40, o_g40), (some b25, Obj.cells [(Value.slice Ac v_1.length Cc)].toArray 22), (some b6, Obj.cells [(Value.slice Ad v_2.length Cd)].toArray 22), (some b1, Obj.cells [(Value.int .i64 r_.slots), (Value.slice Aa r_.owners.length Ca), (Value.slice Ab r_.costs.length Cb)].toArray 25)] (E51 ++ O)) w104
 refine Wp_region ?_
 refine Rg_op rfl (op_move (v := (Value.int .i64 stable_1.2)) rfl ?_)
 refine Rg_op rfl (op_eql rfl rfl ?_)
 refine Rg_op rfl (op_move (v := (Value.bool (decide (stable_1.2 = 0)))) rfl ?_)
 refine Rg_case (fun hg154 => ?_) (fun hg154 => ?_)
 replace hm := bif_t hm hg154
 refine Rg_opg rfl rfl rfl (op_move (v := (Value.bool stable_1.1)) rfl ?_)
 refine Rg_op rfl (op_pick_t (v := (Value.bool stable_1.1)) rfl rfl ?_)
 refine Rg_nil ?_
 exact hK119 _ _ ⟨stable_1.1, _, rfl, ⟨(by repeat (first | with_reducible exact Out.refl _ _ | refine Out.upd ?_ rfl | refine Out.updL ?_ rfl | refine Out.mix' ?_ rfl | exact Out.refl _ _)), rfl, rfl, trivial⟩, ch153, hs107, hm⟩
 replace hm := bif_f hm hg154
 refine Rg_opx rfl (asB_ne rfl rfl) rfl ?_
 refine Rg_op rfl (op_pick_f (v := (Value.bool false)) rfl rfl ?_)
 refine Rg_nil ?_
 exact hK119 _ _ ⟨false, _, rfl, ⟨(by repeat (first | with_reducible exact Out.refl _ _ | refine Out.upd ?_ rfl | refine Out.updL ?_ rfl | refine Out.mix' ?_ rfl | exact Out.refl _ _)), rfl, rfl, trivial⟩, ch153, hs107, hm⟩
 intro K94 hK94
 have ch155 := Step.refl (ks [(k84, o85), (k_g40, o_g40), (some b25, Obj.cells [(Value.slice Ac v_1.length Cc)].toArray 22), (some b6, Obj.cells [(Value.slice Ad v_2.length Cd)].toArray 22), (some b1, Obj.cells [(Value.int .i64 r_.slots), (Value.slice Aa r_.owners.length Ca), (Value.slice Ab r_.costs.length Cb)].toArray 25)] (E51 ++ O)) w78
 refine Wp_region ?_
 refine Rg_op rfl (op_load (cs := [(Value.slice Ac v_1.length Cc)]) (i := 2) ty22 hs81 rfl rfl rfl ?_)
 refine Rg_op rfl (op_neqnilB Try.underlying22 rfl rfl hn_v_1 ?_)
 refine Rg_op rfl (op_move (v := (Value.bool (!v_1n))) rfl ?_)
 refine Rg_case (fun hg156 => ?_) (fun hg156 => ?_)
 replace hm := bif_t hm hg156
 refine Rg_opg rfl rfl rfl (op_move (v := (Value.slice a82 value_1.length c83)) rfl ?_)
 refine Rg_opg rfl rfl rfl (op_load (cs := [(Value.slice Ac v_1.length Cc)]) (i := 2) ty22 hs81 rfl rfl rfl ?_)
 obtain ⟨hs157, p158, f159⟩ := Gs.publish (i := 0) hs81 rfl f87
 replace hm := bd hm; obtain ⟨compare_1, hv160, hm⟩ := hm
 refine Rg_opg rfl rfl rfl (op_call Try.call39 (c39_slices_Compareint_int_ (s1_ := value_1) (s2_ := v_1) hs157.ltw f159 (Fc.step p158) hv160) rfl ?_)
 rintro v161 w162 ⟨hx163, h164⟩
 have hs165 := hs81.call hx163
 have p166 := Step.ext (O := ks [(k84, o85), (k_g40, o_g40), (some b25, Obj.cells [(Value.slice Ac v_1.length Cc)].toArray 22), (some b6, Obj.cells [(Value.slice Ad v_2.length Cd)].toArray 22), (some b1, Obj.cells [(Value.int .i64 r_.slots), (Value.slice Aa r_.owners.length Ca), (Value.slice Ab r_.costs.length Cb)].toArray 25)] (E51 ++ O)) hx163
 clear hx163
 replace Fa := Fa.step p166; replace Fb := Fb.step p166; replace F_y37 := F_y37.step p166; replace Fc := Fc.step p166; replace Fd := Fd.step p166; replace Fe := Fe.step p166; replace f87 := f87.step p166; replace ch63 := ch63.trans p166; replace ch155 := ch155.trans p166; clear p166 hs81
 obtain ⟨rfl, Rd⟩ := h164
 refine Rg_opg rfl rfl rfl (op_geq rfl rfl ?_)
 refine Rg_op rfl (op_pick_t (v := (Value.bool (decide (0 ≤ compare_1)))) rfl rfl ?_)
 refine Rg_nil ?_
 exact hK94 _ _ ⟨(decide (0 ≤ compare_1)), _, rfl, ⟨(by repeat (first | with_reducible exact Out.refl _ _ | refine Out.upd ?_ rfl | refine Out.updL ?_ rfl | refine Out.mix' ?_ rfl | exact Out.refl _ _)), rfl, rfl, trivial⟩, ch155, hs165, hm⟩
 replace hm := bif_f hm hg156
 iterate 4 refine Rg_opx rfl (asB_ne rfl rfl) rfl ?_
 refine Rg_op rfl (op_pick_f (v := (Value.bool false)) rfl rfl ?_)
 refine Rg_nil ?_
 exact hK94 _ _ ⟨false, _, rfl, ⟨(by repeat (first | with_reducible exact Out.refl _ _ | refine Out.upd ?_ rfl | refine Out.updL ?_ rfl | refine Out.mix' ?_ rfl | exact Out.refl _ _)), rfl, rfl, trivial⟩, ch155, hs81, hm⟩
 rintro D168 ⟨v_1, v_1n, v_2, Ac, Cc, Ad, Cd, k_g40, o_g40⟩ w169 hs170 hst171 ⟨Fc, hn_v_1, Fd⟩ hm
 replace hs170 : St ⟨w, [], (D168 :: [])⟩ (D168 :: O) w169 [(k_g40, o_g40), (some b25, Obj.cells [(Value.slice Ac v_1.length Cc)].toArray 22), (some b6, Obj.cells [(Value.slice Ad v_2.length Cd)].toArray 22), (some b1, Obj.cells [(Value.int .i64 r_.slots), (Value.slice Aa r_.owners.length Ca), (Value.slice Ab r_.costs.length Cb)].toArray 25)] := hs170
 replace hst171 : Step (ks [(none, (Obj.cells #[] 3)), (some b25, Obj.cells [(Value.slice none 0 0)].toArray 22), (some b6, Obj.cells [(Value.slice none 0 0)].toArray 22), (some b1, Obj.cells [(Value.int .i64 r_.slots), (Value.slice Aa r_.owners.length Ca), (Value.slice Ab r_.costs.length Cb)].toArray 25)] O) w32 (ks [(k_g40, o_g40), (some b25, Obj.cells [(Value.slice Ac v_1.length Cc)].toArray 22), (some b6, Obj.cells [(Value.slice Ad v_2.length Cd)].toArray 22), (some b1, Obj.cells [(Value.int .i64 r_.slots), (Value.slice Aa r_.owners.length Ca), (Value.slice Ab r_.costs.length Cb)].toArray 25)] (D168 :: O)) w169 := hst171
 replace Fc : SlR (rInt .i64) w169 (ks [(k_g40, o_g40), (some b25, Obj.cells [(Value.slice Ac v_1.length Cc)].toArray 22), (some b6, Obj.cells [(Value.slice Ad v_2.length Cd)].toArray 22), (some b1, Obj.cells [(Value.int .i64 r_.slots), (Value.slice Aa r_.owners.length Ca), (Value.slice Ab r_.costs.length Cb)].toArray 25)] (D168 :: O)) Ac Cc v_1 := Fc
 replace hn_v_1 : Ac.isNone = v_1n := hn_v_1
 replace Fd : Gs (rInt .i64) 3 w169 (ks [(k_g40, o_g40), (some b25, Obj.cells [(Value.slice Ac v_1.length Cc)].toArray 22), (some b6, Obj.cells [(Value.slice Ad v_2.length Cd)].toArray 22), (some b1, Obj.cells [(Value.int .i64 r_.slots), (Value.slice Aa r_.owners.length Ca), (Value.slice Ab r_.costs.length Cb)].toArray 25)] (D168 :: O)) Ad Cd v_2 k_g40 o_g40 := Fd
 replace hm := rng3_z (show rng3 _ _ [] v_1 v_1n v_2 = some _ from hm)
 replace hm := jnE3 hk42 (show k41 v_1 v_1n v_2 = some _ from hm)
 replace Fa := Fa.step hst171; replace Fb := Fb.step hst171; replace F_y37 := F_y37.step hst171; clear hst171 hs48
 refine Wp_seq (Wp_seq ?_)
 obtain ⟨hs173, p174⟩ := hs170.sub (bs' := [(k_g40, o_g40), (some b25, Obj.cells [(Value.slice Ac v_1.length Cc)].toArray 22), (some b6, Obj.cells [(Value.slice Ad v_2.length Cd)].toArray 22)]) (.cons_cons _ (.cons_cons _ (.cons_cons _ (.cons _ List.Sublist.slnil))))
 clear Fa Fb F_y37
 replace Fc := Fc.step p174; replace Fd := Fd.step p174; clear p174 hs170
 refine Wp_region ?_
 refine Rg_op rfl (op_load (cs := [(Value.slice Ac v_1.length Cc)]) (i := 1) ty22 hs173 rfl rfl rfl ?_)
 refine Rg_op rfl (op_eqnilB Try.underlying22 rfl rfl hn_v_1 ?_)
 refine Rg_nil ?_
 refine Wp_cond rfl (fun hc175 => ?_) (fun hc175 => ?_)
 replace hm := bif_t hm hc175
 refine Wp_seq ?_
 obtain ⟨hs176, p177⟩ := hs173.sub (bs' := [(k_g40, o_g40), (some b6, Obj.cells [(Value.slice Ad v_2.length Cd)].toArray 22)]) (.cons_cons _ (.cons _ (.cons_cons _ List.Sublist.slnil)))
 clear Fc
 replace Fd := Fd.step p177; clear p177 hs173
 refine Wp_region ?_
 refine Rg_op_ (op_store (cs := [(Value.slice Ad v_2.length Cd)]) (vs := [(Value.slice none 0 0)]) (cs' := [(Value.slice none 0 0)]) (bs' := [(k_g40, o_g40), (some b6, Obj.cells [(Value.slice none 0 0)].toArray 22)]) (i := 1) ty22 hs176 rfl rfl rfl rfl rfl (le_lit rfl) rfl rfl rfl ?_)
 intro w178 p179 hs180
 replace Fd := Fd.step p179; clear p179 hs176
 refine Rg_op rfl (op_assign (v := (Value.int .i64 380)) rfl ?_)
 refine Rg_nil ?_
 refine Wp_ret ?_
 obtain ⟨w181, hcl182, hs183, p184⟩ := St.close hs180
 replace Fd := Fd.step p184; clear p184 hs180
 have hz := (step_all hs183).trans (Step.sub (O' := O) (fun k hk => by simp [hk]))
 replace Fd := Fd.step hz
 refine ⟨_, hcl182, [(Value.slice none 0 0), (Value.int .i64 380)], ⟨res1 (cs := [(Value.slice none 0 0)]) ty22 (i := 1) hs183 rfl rfl rfl, rfl, trivial⟩, hs183.ext, ?_⟩
 exact Vr.eq (a := (vT2 (vC (rSl (rInt .i64))) (vI .i64))) (x := (([] : List Int), 380)) (mkT2 (mkC (mk_sl SlR.nil_)) ⟨rfl, (show InK .i64 380 from by decide)⟩) (Option.some.inj hm)
 replace hm := bif_f hm hc175
 refine Wp_skip (Wp_seq ?_)
 obtain ⟨hs185, p186⟩ := hs173.sub (bs' := [(k_g40, o_g40), (some b6, Obj.cells [(Value.slice Ad v_2.length Cd)].toArray 22)]) (.cons_cons _ (.cons _ (.cons_cons _ List.Sublist.slnil)))
 clear Fc
 replace Fd := Fd.step p186; clear p186 hs173
 refine Wp_region ?_
 refine Rg_op rfl (op_load (cs := [(Value.slice Ad v_2.length Cd)]) (i := 1) ty22 hs185 rfl rfl rfl ?_)
 refine Rg_op_ (op_store (cs := [(Value.slice Ad v_2.length Cd)]) (vs := [(Value.slice Ad v_2.length Cd)]) (cs' := [(Value.slice Ad v_2.length Cd)]) (bs' := [(k_g40, o_g40), (some b6, Obj.cells [(Value.slice Ad v_2.length Cd)].toArray 22)]) (i := 1) ty22 hs185 rfl rfl rfl rfl rfl (le_lit rfl) rfl rfl rfl ?_)
 intro w187 p188 hs189
 replace Fd := Fd.step p188; clear p188 hs185
 refine Rg_op rfl (op_assign (v := (Value.int .i64 0)) rfl ?_)
 refine Rg_nil ?_
 refine Wp_ret ?_
 obtain ⟨w190, hcl191, hs192, p193⟩ := St.close hs189
 replace Fd := Fd.step p193; clear p193 hs189
 obtain ⟨hs195, p196, f194⟩ := Gs.publish (i := 0) hs192 rfl Fd
 clear p196 hs192
 have hz := (step_all hs195).trans (Step.sub (O' := O) (fun k hk => by simp [hk]))
 replace f194 := f194.step hz
 refine ⟨_, hcl191, [(Value.slice Ad v_2.length Cd), (Value.int .i64 0)], ⟨res1 (cs := [(Value.slice Ad v_2.length Cd)]) ty22 (i := 0) hs195 rfl rfl rfl, rfl, trivial⟩, hs195.ext, ?_⟩
 exact Vr.eq (a := (vT2 (vC (rSl (rInt .i64))) (vI .i64))) (x := (v_2, 0)) (mkT2 (mkC (mk_sl f194)) ⟨rfl, (show InK .i64 0 from by decide)⟩) (Option.some.inj hm)
 intro _ _ _ _ h; simp at h

def m43_slices_Equalint_int__B0 (s1_ : List Int) (s2_ : List Int) (sf7 : Int → Option Bool) (v_1 : Int) : Option Bool :=
 bif (decide (v_1 < (s1_.length : Int))) then
  ck ((0 : Int) ≤ v_1 ∧ v_1 < (s1_.length : Int)) <|
  ck ((0 : Int) ≤ v_1 ∧ v_1 < (s2_.length : Int)) <|
  bif (decide ((s1_.getD v_1.toNat default) ≠ (s2_.getD v_1.toNat default))) then
   some false
  else
   sf7 (IntKind.wrap .i64 (v_1 + 1))
 else
  some true

def m43_slices_Equalint_int_ (s1_ : List Int) (s2_ : List Int) : Option Bool :=
 bif (decide ((s1_.length : Int) ≠ (s2_.length : Int))) then
  some false
 else
  loop1 (m43_slices_Equalint_int__B0 s1_ s2_) (((s1_.length : Int) - 0).toNat + 1) 0

theorem c43_slices_Equalint_int_ {w : World} {O : List Nat} {s1_ : List Int} {s2_ : List Int} {Aa : Option Addr} {Ca : Nat} {Ab : Option Addr} {Cb : Nat} (hO : ∀ k ∈ O, k < w.heap.size) (Fa : SlR (rInt .i64) w O Aa Ca s1_) (Fb : SlR (rInt .i64) w O Ab Cb s2_) {x : Bool} (hm : m43_slices_Equalint_int_ s1_ s2_ = some x) :
 Ok Try.prog 43 [(Value.slice Aa s1_.length Ca), (Value.slice Ab s2_.length Cb)] w O vB x := by
 unfold m43_slices_Equalint_int_ at hm
 refine Fn_of_Wp (n := 26) (xs := [.tmp 4]) Try.func43 rfl Try.ntmps43 Try.results43 rfl ?_
 have hs := St.start hO
 refine Wp_seq (Wp_region ?_)
 refine Rg_op rfl (op_assign (v := (Value.bool false)) rfl ?_)
 refine Rg_nil (Wp_seq (Wp_seq (Wp_region ?_)))
 refine Rg_op rfl (op_move (v := (Value.slice Aa s1_.length Ca)) rfl ?_)
 refine Rg_op rfl (op_len Try.underlying22 rfl ?_)
 have rl1 := inK_len Fa
 refine Rg_op rfl (op_move (v := (Value.slice Ab s2_.length Cb)) rfl ?_)
 refine Rg_op rfl (op_len Try.underlying22 rfl ?_)
 have rl2 := inK_len Fb
 refine Rg_op rfl (op_neq rfl rfl ?_)
 refine Rg_nil ?_
 refine Wp_cond rfl (fun hc3 => ?_) (fun hc3 => ?_)
 replace hm := bif_t hm hc3
 refine Wp_seq ?_
 clear Fa Fb
 refine Wp_region ?_
 refine Rg_op rfl (op_assign (v := (Value.bool false)) rfl ?_)
 refine Rg_nil ?_
 refine Wp_ret ?_
 have hz := step_all hs
 refine ⟨_, (show Closes [] _ _ from rfl), [(Value.bool false)], ⟨rfl, trivial⟩, hs.ext, ?_⟩
 exact Vr.eq (a := vB) (x := false) rfl (Option.some.inj hm)
 replace hm := bif_f hm hc3
 refine Wp_skip (Wp_seq (Wp_seq (Wp_region ?_)))
 refine Rg_op rfl (op_move (v := (Value.slice Aa s1_.length Ca)) rfl ?_)
 refine Rg_op rfl (op_len Try.underlying22 rfl ?_)
 have rl4 := inK_len Fa
 refine Rg_op rfl (op_move (v := (Value.int .i64 0)) rfl ?_)
 refine Rg_nil (Wp_block ?_)
 refine Wp_reset [] [(0, (Value.slice Aa s1_.length Ca)), (1, (Value.slice Ab s2_.length Cb)), (12, (Value.int .i64 (s1_.length : Int))), (13, (Value.int .i64 0))] rfl ⟨rfl, rfl, rfl, rfl, trivial⟩ fun ξ6 => ?_
 refine Wp_loopM [4, 5, 13, 14, 15, 16, 17, 18, 19, 20, 21, 22, 23, 24, 25] (fun m fr w' => ∃ (v_1 : Int) (Ebs : Ents), Ebs = [] ∧ fr [] [(13, (Value.int .i64 v_1))] ∧ Step (ks [] O) w (ks Ebs O) w' ∧ St ⟨w, [], []⟩ O w' Ebs ∧ InK .i64 v_1 ∧ loop1 (m43_slices_Equalint_int__B0 s1_ s2_) m v_1 = some x) (((s1_.length : Int) - 0).toNat + 1) ⟨0, _, rfl, ⟨Out.refl _ _, rfl, rfl, trivial⟩, Step.refl _ _, hs, (show InK .i64 0 from by decide), hm⟩ ?_ ?_
 rintro _ _ ⟨_, _, _, _, _, _, _, hm⟩; exact loop1_z hm
 rintro m10 K9 hK9 ρ15 w11 ⟨v_1, Ebs, hEbs, hfr14, hst13, hs12, Ra, hm⟩
 obtain ⟨sf7, hsf8, hm⟩ := loop1_s hm; unfold m43_slices_Equalint_int__B0 at hm
 subst hEbs; rw [hfr14.eq]; clear hfr14
 replace Fa := Fa.step hst13; replace Fb := Fb.step hst13
 have ch16 := hst13
 refine Wp_seq (Wp_region ?_)
 refine Rg_op rfl (op_lss rfl rfl ?_)
 refine Rg_nil (Wp_seq ?_)
 refine Wp_cond rfl (fun hc17 => ?_) (fun hc17 => ?_)
 replace hm := bif_t hm hc17
 refine Wp_skip (Wp_seq (Wp_block (Wp_seq (Wp_region ?_))))
 refine Rg_op rfl (op_move (v := (Value.int .i64 v_1)) rfl ?_)
 refine Rg_op rfl (op_assign (v := (Value.int .i64 v_1)) rfl ?_)
 refine Rg_nil (Wp_seq ?_)
 refine Wp_drawR (g0 := []) (m := 8) (fl := []) (TS_inv hs12) rfl (.inl rfl) rfl (by decide +kernel) ?_  -- 6
 refine Dw_eq (Value.slice Aa s1_.length Ca) (fun ρ18 w19 g hle hi ht => ?_) ?_
 obtain ⟨-, hst, -⟩ := hle
 refine StepOp_plain (op_move (v := (Value.slice Aa s1_.length Ca)) (ht 0 rfl) ?_)
 exact Goes.same hi rfl
 refine Dw_eq (Value.int .i64 v_1) (fun ρ21 w22 g hle hi ht => ?_) ?_
 obtain ⟨-, hst, -⟩ := hle
 refine StepOp_plain (op_move (v := (Value.int .i64 v_1)) (ht 5 rfl) ?_)
 exact Goes.same hi rfl
 replace hm := ck_some hm; obtain ⟨hc27, hm⟩ := hm
 refine Dw_op (VP O [] (rInt .i64) (s1_.getD v_1.toNat default)) (VP.stab _ _) (fun ρ24 w25 g hle hi ht => ?_) ?_
 obtain ⟨-, hst, -⟩ := hle
 replace Fa := Fa.step hst
 refine StepOp_plain (op_indexAddr (q := (rInt .i64)) ty22 ty3 (ht 16 rfl) (ht 17 rfl) Fa rfl hc27.1 hc27.2 ?_)
 intro p28 f29
 exact Goes.same hi ⟨_, rfl, f29⟩
 refine Dw_op (VD O [] (vI .i64) (s1_.getD v_1.toNat default)) (VD.stab _ _) (fun ρ30 w31 g hle hi ht => ?_) ?_
 obtain ⟨-, hst, -⟩ := hle
 obtain ⟨p33, q34, f35⟩ := ht 18 rfl
 refine StepOp_plain (op_loadP ty3 q34 f35 rfl ?_)
 intro v36 h37
 obtain ⟨rfl, Rb⟩ := un_int h37
 exact Goes.same hi (show Vr.vd (vI .i64) _ _ _ _ from ⟨rfl, Rb⟩)
 refine Dw_eq (Value.slice Ab s2_.length Cb) (fun ρ39 w40 g hle hi ht => ?_) ?_
 obtain ⟨-, hst, -⟩ := hle
 refine StepOp_plain (op_move (v := (Value.slice Ab s2_.length Cb)) (ht 1 rfl) ?_)
 exact Goes.same hi rfl
 refine Dw_eq (Value.int .i64 v_1) (fun ρ42 w43 g hle hi ht => ?_) ?_
 obtain ⟨-, hst, -⟩ := hle
 refine StepOp_plain (op_move (v := (Value.int .i64 v_1)) (ht 5 rfl) ?_)
 exact Goes.same hi rfl
 replace hm := ck_some hm; obtain ⟨hc48, hm⟩ := hm
 refine Dw_op (VP O [] (rInt .i64) (s2_.getD v_1.toNat default)) (VP.stab _ _) (fun ρ45 w46 g hle hi ht => ?_) ?_
 obtain ⟨-, hst, -⟩ := hle
 replace Fb := Fb.step hst
 refine StepOp_plain (op_indexAddr (q := (rInt .i64)) ty22 ty3 (ht 20 rfl) (ht 21 rfl) Fb rfl hc48.1 hc48.2 ?_)
 intro p49 f50
 exact Goes.same hi ⟨_, rfl, f50⟩
 refine Dw_op (VD O [] (vI .i64) (s2_.getD v_1.toNat default)) (VD.stab _ _) (fun ρ51 w52 g hle hi ht => ?_) ?_
 obtain ⟨-, hst, -⟩ := hle
 obtain ⟨p54, q55, f56⟩ := ht 22 rfl
 refine StepOp_plain (op_loadP ty3 q55 f56 rfl ?_)
 intro v57 h58
 obtain ⟨rfl, Rc⟩ := un_int h58
 exact Goes.same hi (show Vr.vd (vI .i64) _ _ _ _ from ⟨rfl, Rc⟩)
 refine Dw_nil fun w64 g65 hl66 hi67 => ?_
 obtain ⟨-, hst68, -⟩ := hl66
 obtain ⟨hs70, p69⟩ := Step.nx hi67
 rintro v71 h72
 replace h72 : Vr.vd (vI .i64) _ _ _ _ := h72
 obtain ⟨rfl, Rd⟩ := h72
 rintro _ ⟨p74, rfl, f75⟩
 rintro _ rfl
 rintro _ rfl
 rintro v76 h77
 replace h77 : Vr.vd (vI .i64) _ _ _ _ := h77
 obtain ⟨rfl, Re⟩ := h77
 rintro _ ⟨p79, rfl, f80⟩
 rintro _ rfl
 rintro _ rfl
 have p81 : Step (ks [] O) w11 (ks [] O) w64 := hst68.trans p69
 replace f75 := f75.step p69; replace f80 := f80.step p69; replace Fa := Fa.step p81; replace Fb := Fb.step p81; replace ch16 := ch16.trans p81; clear p81 hs12
 refine Rg_op rfl (op_neq rfl rfl ?_)
 refine Rg_nil ?_
 refine Wp_cond rfl (fun hc82 => ?_) (fun hc82 => ?_)
 replace hm := bif_t hm hc82
 refine Wp_seq ?_
 clear Fa Fb f75 f80
 refine Wp_region ?_
 refine Rg_op rfl (op_assign (v := (Value.bool false)) rfl ?_)
 refine Rg_nil ?_
 refine Wp_ret ?_
 have hz := step_all hs70
 refine ⟨_, (show Closes [] _ _ from rfl), [(Value.bool false)], ⟨rfl, trivial⟩, hs70.ext, ?_⟩
 exact Vr.eq (a := vB) (x := false) rfl (Option.some.inj hm)
 replace hm := bif_f hm hc82
 refine Wp_skip ?_
 clear f75 f80
 refine Wp_region ?_
 refine Rg_op rfl (op_addw rfl rfl ?_)
 refine Rg_op rfl (op_move (v := (Value.int .i64 (IntKind.wrap .i64 (v_1 + 1)))) rfl ?_)
 refine Rg_nil ?_
 exact hK9 _ _ ⟨(IntKind.wrap .i64 (v_1 + 1)), _, rfl, ⟨(by repeat (first | with_reducible exact Out.refl _ _ | refine Out.upd ?_ rfl | refine Out.updL ?_ rfl | refine Out.mix' ?_ rfl | exact Out.refl _ _)), rfl, rfl, trivial⟩, ch16, hs70, (inK_wrap .i64 _), jnE1 hsf8 hm⟩
 replace hm := bif_f hm hc17
 refine Wp_exit (Wp_seq ?_)
 clear Fa Fb
 refine Wp_region ?_
 refine Rg_op rfl (op_assign (v := (Value.bool true)) rfl ?_)
 refine Rg_nil ?_
 refine Wp_ret ?_
 have hz := step_all hs12
 refine ⟨_, (show Closes [] _ _ from rfl), [(Value.bool true)], ⟨rfl, trivial⟩, hs12.ext, ?_⟩
 exact Vr.eq (a := vB) (x := true) rfl (Option.some.inj hm)

def m20_clearing_Verify (r_ : XRound) (slots : List Int) : Option Int :=
 (m23_coalition_Stable r_ slots).bind fun stable_1 =>
 bif (decide (stable_1.2 ≠ 0)) then
  some stable_1.2
 else
  bif (!stable_1.1) then
   some 380
  else
   (m18_clearing_Best r_).bind fun best_1 =>
   jn (fun (v_1 : Bool) =>
    bif v_1 then
     some 380
    else
     some 0)
   (fun k40 =>
    bif (decide (best_1.2 ≠ 0)) then
     k40 true
    else
     (m43_slices_Equalint_int_ best_1.1 slots).bind fun equal_1 =>
     k40 (!equal_1))

theorem c20_clearing_Verify {w : World} {O : List Nat} {r_ : XRound} {slots : List Int} {Aa : Option Addr} {Ca : Nat} {Ab : Option Addr} {Cb : Nat} {Ac : Option Addr} {Cc : Nat} (hO : ∀ k ∈ O, k < w.heap.size) (Ra : InK .i64 r_.slots) (Fa : SlR (rInt .i64) w O Aa Ca r_.owners) (Fb : SlR (rSl (rInt .i64)) w O Ab Cb r_.costs) (Fc : SlR (rInt .i64) w O Ac Cc slots) {x : Int} (hm : m20_clearing_Verify r_ slots = some x) :
 Ok Try.prog 20 [(Value.agg [(Value.int .i64 r_.slots), (Value.slice Aa r_.owners.length Ca), (Value.slice Ab r_.costs.length Cb)].toArray), (Value.slice Ac slots.length Cc)] w O (vI .i64) x := by
 unfold m20_clearing_Verify at hm
 refine Fn_of_Wp (n := 32) (xs := [.tmp 4]) Try.func20 rfl Try.ntmps20 Try.results20 rfl ?_
 have hs := St.start hO
 refine Wp_seq (Wp_region ?_)
 refine Rg_op rfl (op_box (cs := [(Value.int .i64 r_.slots), (Value.slice Aa r_.owners.length Ca), (Value.slice Ab r_.costs.length Cb)]) hs rfl rfl ?_)
 intro b1 w2 _ p3 hs4
 replace Fa := Fa.step p3; replace Fb := Fb.step p3; replace Fc := Fc.step p3; clear p3
 refine Rg_op rfl (op_assign (v := (Value.int .i64 0)) rfl ?_)
 refine Rg_nil (Wp_seq (Wp_region ?_))
 refine Rg_op rfl (op_loadA (cs := [(Value.int .i64 r_.slots), (Value.slice Aa r_.owners.length Ca), (Value.slice Ab r_.costs.length Cb)]) (vs := [(Value.int .i64 r_.slots), (Value.slice Aa r_.owners.length Ca), (Value.slice Ab r_.costs.length Cb)]) (i := 0) ty25 hs4 rfl rfl rfl rfl ?_)
 refine Rg_op rfl (op_move (v := (Value.slice Ac slots.length Cc)) rfl ?_)
 replace hm := bd hm; obtain ⟨stable_1, hv6, hm⟩ := hm
 refine Rg_op rfl (op_call Try.call23 (c23_coalition_Stable (r_ := r_) (slots := slots) hs4.ltw Ra Fa Fb Fc hv6) rfl ?_)
 rintro v7 w8 ⟨hx9, h10⟩
 have hs11 := hs4.call hx9
 have p12 := Step.ext (O := ks [(some b1, Obj.cells [(Value.int .i64 r_.slots), (Value.slice Aa r_.owners.length Ca), (Value.slice Ab r_.costs.length Cb)].toArray 25)] O) hx9
 clear hx9
 replace Fa := Fa.step p12; replace Fb := Fb.step p12; replace Fc := Fc.step p12; clear p12 hs4
 obtain ⟨v13, v14, rfl, h15, h16⟩ := h10
 obtain rfl := h15
 obtain ⟨rfl, Rb⟩ := h16
 refine Rg_op rfl (op_move (v := (Value.tuple [(Value.bool stable_1.1), (Value.int .i64 stable_1.2)].toArray)) rfl ?_)
 refine Rg_op rfl (op_extract (v := (Value.bool stable_1.1)) rfl rfl ?_)
 refine Rg_op rfl (op_extract (v := (Value.int .i64 stable_1.2)) rfl rfl ?_)
 refine Rg_op rfl (op_assign (v := (Value.bool stable_1.1)) rfl ?_)
 refine Rg_op rfl (op_assign (v := (Value.int .i64 stable_1.2)) rfl ?_)
 refine Rg_nil (Wp_seq (Wp_seq (Wp_region ?_)))
 refine Rg_op rfl (op_move (v := (Value.int .i64 stable_1.2)) rfl ?_)
 refine Rg_op rfl (op_neq rfl rfl ?_)
 refine Rg_nil ?_
 refine Wp_cond rfl (fun hc19 => ?_) (fun hc19 => ?_)
 replace hm := bif_t hm hc19
 refine Wp_seq ?_
 obtain ⟨hs20, p21⟩ := hs11.sub (bs' := []) (.cons _ List.Sublist.slnil)
 clear Fa Fb Fc
 clear p21 hs11
 refine Wp_region ?_
 refine Rg_op rfl (op_move (v := (Value.int .i64 stable_1.2)) rfl ?_)
 refine Rg_op rfl (op_assign (v := (Value.int .i64 stable_1.2)) rfl ?_)
 refine Rg_nil ?_
 refine Wp_ret ?_
 have hz := step_all hs20
 refine ⟨_, (show Closes [] _ _ from rfl), [(Value.int .i64 stable_1.2)], ⟨rfl, trivial⟩, hs20.ext, ?_⟩
 exact Vr.eq (a := (vI .i64)) (x := stable_1.2) ⟨rfl, Rb⟩ (Option.some.inj hm)
 replace hm := bif_f hm hc19
 refine Wp_skip (Wp_seq (Wp_seq (Wp_region ?_)))
 refine Rg_op rfl (op_move (v := (Value.bool stable_1.1)) rfl ?_)
 refine Rg_op rfl (op_not rfl ?_)
 refine Rg_nil ?_
 refine Wp_cond rfl (fun hc22 => ?_) (fun hc22 => ?_)
 replace hm := bif_t hm hc22
 refine Wp_seq ?_
 obtain ⟨hs23, p24⟩ := hs11.sub (bs' := []) (.cons _ List.Sublist.slnil)
 clear Fa Fb Fc
 clear p24 hs11
 refine Wp_region ?_
 refine Rg_op rfl (op_assign (v := (Value.int .i64 380)) rfl ?_)
 refine Rg_nil ?_
 refine Wp_ret ?_
 have hz := step_all hs23
 refine ⟨_, (show Closes [] _ _ from rfl), [(Value.int .i64 380)], ⟨rfl, trivial⟩, hs23.ext, ?_⟩
 exact Vr.eq (a := (vI .i64)) (x := 380) ⟨rfl, (show InK .i64 380 from by decide)⟩ (Option.some.inj hm)
 replace hm := bif_f hm hc22
 refine Wp_skip (Wp_seq (Wp_seq (Wp_region ?_)))
 refine Rg_op rfl (op_loadA (cs := [(Value.int .i64 r_.slots), (Value.slice Aa r_.owners.length Ca), (Value.slice Ab r_.costs.length Cb)]) (vs := [(Value.int .i64 r_.slots), (Value.slice Aa r_.owners.length Ca), (Value.slice Ab r_.costs.length Cb)]) (i := 0) ty25 hs11 rfl rfl rfl rfl ?_)
 replace hm := bd hm; obtain ⟨best_1, hv25, hm⟩ := hm
 refine Rg_op rfl (op_call Try.call18 (c18_clearing_Best (r_ := r_) hs11.ltw Ra Fa Fb hv25) rfl ?_)
 rintro v26 w27 ⟨hx28, h29⟩
 have hs30 := hs11.call hx28
 have p31 := Step.ext (O := ks [(some b1, Obj.cells [(Value.int .i64 r_.slots), (Value.slice Aa r_.owners.length Ca), (Value.slice Ab r_.costs.length Cb)].toArray 25)] O) hx28
 clear hx28
 replace Fa := Fa.step p31; replace Fb := Fb.step p31; replace Fc := Fc.step p31; clear p31 hs11
 obtain ⟨v32, v33, rfl, h34, h35⟩ := h29
 obtain ⟨Ad, Cd, rfl, Fd⟩ := un_sl h34
 obtain ⟨rfl, Rc⟩ := h35
 refine Rg_op rfl (op_move (v := (Value.tuple [(Value.slice Ad best_1.1.length Cd), (Value.int .i64 best_1.2)].toArray)) rfl ?_)
 refine Rg_op rfl (op_extract (v := (Value.slice Ad best_1.1.length Cd)) rfl rfl ?_)
 refine Rg_op rfl (op_extract (v := (Value.int .i64 best_1.2)) rfl rfl ?_)
 refine Rg_op rfl (op_assign (v := (Value.slice Ad best_1.1.length Cd)) rfl ?_)
 refine Rg_op rfl (op_assign (v := (Value.int .i64 best_1.2)) rfl ?_)
 refine Rg_nil ?_
 refine Wp_reset [] [(1, (Value.slice Ac slots.length Cc)), (6, (Value.slice Ad best_1.1.length Cd)), (7, (Value.int .i64 best_1.2))] rfl ⟨rfl, rfl, rfl, trivial⟩ fun ξ38 => ?_
 replace hm := jn_elim hm; obtain ⟨k40, hk41, hm⟩ := hm
 refine Wp_seqJ [24, 25, 26, 27, 28, 29, 30, 31] (fun fr w' => ∃ (v_1 : Bool) (Ebs : Ents), Ebs = [(some b1, Obj.cells [(Value.int .i64 r_.slots), (Value.slice Aa r_.owners.length Ca), (Value.slice Ab r_.costs.length Cb)].toArray 25)] ∧ fr [] [(31, (Value.bool v_1))] ∧ Step (ks [(some b1, Obj.cells [(Value.int .i64 r_.slots), (Value.slice Aa r_.owners.length Ca), (Value.slice Ab r_.costs.length Cb)].toArray 25)] O) w27 (ks Ebs O) w' ∧ St ⟨w, [], []⟩ O w' Ebs ∧ k40 v_1 = some x) ?_ ?_
 rintro ρ47 w43 ⟨v_1, Ebs, hEbs, hfr46, hst45, hs44, hm⟩
 replace hm := jnE1 hk41 hm
 subst hEbs; rw [hfr46.eq]; clear hfr46
 replace Fa := Fa.step hst45; replace Fb := Fb.step hst45; replace Fc := Fc.step hst45; replace Fd := Fd.step hst45; clear hst45 hs30
 refine Wp_cond rfl (fun hc48 => ?_) (fun hc48 => ?_)
 replace hm := bif_t hm hc48
 refine Wp_seq ?_
 obtain ⟨hs49, p50⟩ := hs44.sub (bs' := []) (.cons _ List.Sublist.slnil)
 clear Fa Fb Fc Fd
 clear p50 hs44
 refine Wp_region ?_
 refine Rg_op rfl (op_assign (v := (Value.int .i64 380)) rfl ?_)
 refine Rg_nil ?_
 refine Wp_ret ?_
 have hz := step_all hs49
 refine ⟨_, (show Closes [] _ _ from rfl), [(Value.int .i64 380)], ⟨rfl, trivial⟩, hs49.ext, ?_⟩
 exact Vr.eq (a := (vI .i64)) (x := 380) ⟨rfl, (show InK .i64 380 from by decide)⟩ (Option.some.inj hm)
 replace hm := bif_f hm hc48
 refine Wp_skip (Wp_seq ?_)
 obtain ⟨hs51, p52⟩ := hs44.sub (bs' := []) (.cons _ List.Sublist.slnil)
 clear Fa Fb Fc Fd
 clear p52 hs44
 refine Wp_region ?_
 refine Rg_op rfl (op_assign (v := (Value.int .i64 0)) rfl ?_)
 refine Rg_nil ?_
 refine Wp_ret ?_
 have hz := step_all hs51
 refine ⟨_, (show Closes [] _ _ from rfl), [(Value.int .i64 0)], ⟨rfl, trivial⟩, hs51.ext, ?_⟩
 exact Vr.eq (a := (vI .i64)) (x := 0) ⟨rfl, (show InK .i64 0 from by decide)⟩ (Option.some.inj hm)
 intro K42 hK42
 have ch53 := Step.refl (ks [(some b1, Obj.cells [(Value.int .i64 r_.slots), (Value.slice Aa r_.owners.length Ca), (Value.slice Ab r_.costs.length Cb)].toArray 25)] O) w27
 refine Wp_region ?_
 refine Rg_op rfl (op_move (v := (Value.int .i64 best_1.2)) rfl ?_)
 refine Rg_op rfl (op_neq rfl rfl ?_)
 refine Rg_op rfl (op_move (v := (Value.bool (decide (best_1.2 ≠ 0)))) rfl ?_)
 refine Rg_case (fun hg54 => ?_) (fun hg54 => ?_)
 replace hm := bif_t hm hg54
 iterate 4 refine Rg_opx rfl (asB_ne rfl rfl) rfl ?_
 refine Rg_op rfl (op_pick_t (v := (Value.bool true)) rfl rfl ?_)
 refine Rg_nil ?_
 exact hK42 _ _ ⟨true, _, rfl, ⟨(by repeat (first | with_reducible exact Out.refl _ _ | refine Out.upd ?_ rfl | refine Out.updL ?_ rfl | refine Out.mix' ?_ rfl | exact Out.refl _ _)), rfl, rfl, trivial⟩, ch53, hs30, hm⟩
 replace hm := bif_f hm hg54
 refine Rg_opg rfl rfl rfl (op_move (v := (Value.slice Ad best_1.1.length Cd)) rfl ?_)
 refine Rg_opg rfl rfl rfl (op_move (v := (Value.slice Ac slots.length Cc)) rfl ?_)
 replace hm := bd hm; obtain ⟨equal_1, hv55, hm⟩ := hm
 refine Rg_opg rfl rfl rfl (op_call Try.call43 (c43_slices_Equalint_int_ (s1_ := best_1.1) (s2_ := slots) hs30.ltw Fd Fc hv55) rfl ?_)
 rintro v56 w57 ⟨hx58, h59⟩
 have hs60 := hs30.call hx58
 have p61 := Step.ext (O := ks [(some b1, Obj.cells [(Value.int .i64 r_.slots), (Value.slice Aa r_.owners.length Ca), (Value.slice Ab r_.costs.length Cb)].toArray 25)] O) hx58
 clear hx58
 replace Fa := Fa.step p61; replace Fb := Fb.step p61; replace Fc := Fc.step p61; replace Fd := Fd.step p61; replace ch53 := ch53.trans p61; clear p61 hs30
 obtain rfl := h59
 refine Rg_opg rfl rfl rfl (op_not rfl ?_)
 refine Rg_op rfl (op_pick_f (v := (Value.bool (!equal_1))) rfl rfl ?_)
 refine Rg_nil ?_
 exact hK42 _ _ ⟨(!equal_1), _, rfl, ⟨(by repeat (first | with_reducible exact Out.refl _ _ | refine Out.upd ?_ rfl | refine Out.updL ?_ rfl | refine Out.mix' ?_ rfl | exact Out.refl _ _)), rfl, rfl, trivial⟩, ch53, hs60, hm⟩

end Go.Fx
