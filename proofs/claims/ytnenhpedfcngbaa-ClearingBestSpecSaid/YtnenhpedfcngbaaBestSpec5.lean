/- Part 5 of the proof: best and Verify answer as the specification does, over every assignment of flights to slots. -/
import Derived.Test.YtnenhpedfcngbaaBestSpec4
set_option linter.unusedVariables false
set_option linter.unusedSimpArgs false
set_option maxRecDepth 100000
set_option maxHeartbeats 0
namespace Go.Fx
open Go Go.RowKit Go.Proofs
def m85_overflightref37_Group_B0 (l : List Int) (sf3 : Int → Option Bool) (i_1 : Int) : Option Bool :=
 bif (decide (i_1 < (l.length : Int))) then
  jn (fun (v_1 : Bool) =>
   bif v_1 then
    some false
   else
    sf3 (IntKind.wrap .i64 (i_1 + 1)))
  (fun k17 =>
   ck ((0 : Int) ≤ i_1 ∧ i_1 < (l.length : Int)) <|
   bif (decide ((l.getD i_1.toNat default) < 0)) then
    k17 true
   else
    ck ((0 : Int) ≤ i_1 ∧ i_1 < (l.length : Int)) <|
    bif (decide (8 ≤ (l.getD i_1.toNat default))) then
     k17 true
    else
     bif (decide (0 < i_1)) then
      ck ((0 : Int) ≤ (IntKind.wrap .i64 (i_1 - 1)) ∧ (IntKind.wrap .i64 (i_1 - 1)) < (l.length : Int)) <|
      ck ((0 : Int) ≤ i_1 ∧ i_1 < (l.length : Int)) <|
      k17 (decide ((l.getD i_1.toNat default) ≤ (l.getD (IntKind.wrap .i64 (i_1 - 1)).toNat default)))
     else
      k17 false)
 else
  some (decide (0 < (l.length : Int)))

def m85_overflightref37_Group (l : List Int) : Option Bool :=
 loop1 (m85_overflightref37_Group_B0 l) (((l.length : Int) - 0).toNat + 1) 0

theorem c85_overflightref37_Group {w : World} {O : List Nat} {l : List Int} {Aa : Option Addr} {Ca : Nat} (hO : ∀ k ∈ O, k < w.heap.size) (Fa : SlR (rInt .i64) w O Aa Ca l) {x : Bool} (hm : m85_overflightref37_Group l = some x) :
 Ok Try.prog 85 [(Value.slice Aa l.length Ca)] w O vB x := by
 unfold m85_overflightref37_Group at hm
 refine Fn_of_Wp (n := 41) (xs := [.tmp 2]) Try.func85 rfl Try.ntmps85 Try.results85 rfl ?_
 have hs := St.start hO
 refine Wp1 (Wm1 ?_)
 refine Rk1 rfl (on1 (v := (Value.bool false)) rfl ?_)
 refine Rq1 (Wp1 (Wp1 (Wm1 ?_)))
 refine Rk1 rfl (on1 (v := (Value.int .i64 0)) rfl ?_)
 refine Rq1 (Wf2 ?_)
 refine Wp_reset [] [(0, (Value.slice Aa l.length Ca)), (3, (Value.int .i64 0))] rfl ⟨rfl, rfl, trivial⟩ fun ξ2 => ?_
 refine Wp_loopM [2, 3, 4, 5, 6, 7, 8, 9, 10, 11, 12, 13, 14, 15, 16, 17, 18, 19, 20, 21, 22, 23, 24, 25, 26, 27, 28, 29, 30, 31, 32, 33, 34, 35, 36, 37] (fun m fr w' => ∃ (i_1 : Int) (Ebs : Ents), Ebs = [] ∧ fr [] [(3, (Value.int .i64 i_1))] ∧ Step (ks [] O) w (ks Ebs O) w' ∧ St ⟨w, [], []⟩ O w' Ebs ∧ InK .i64 i_1 ∧ loop1 (m85_overflightref37_Group_B0 l) m i_1 = some x) (((l.length : Int) - 0).toNat + 1) ⟨0, _, rfl, ⟨Out.refl _ _, rfl, rfl, trivial⟩, Step.refl _ _, hs, (show InK .i64 0 from by decide), hm⟩ ?_ ?_
 rintro _ _ ⟨_, _, _, _, _, _, _, hm⟩; exact loop1_z hm
 rintro m6 K5 hK5 ρ11 w7 ⟨i_1, Ebs, hEbs, hfr10, hst9, hs8, Ra, hm⟩
 obtain ⟨sf3, hsf4, hm⟩ := loop1_s hm; unfold m85_overflightref37_Group_B0 at hm
 subst hEbs; rw [hfr10.eq]; clear hfr10
 replace Fa := Fa.step hst9
 have ch12 := hst9
 refine Wp1 (Wp1 (Wm1 ?_))
 refine Rk1 rfl (ol1 (v := (Value.int .i64 i_1)) rfl ?_)
 refine Rk1 rfl (ol1 (v := (Value.slice Aa l.length Ca)) rfl ?_)
 refine Rk1 rfl (op_len Try.underlying22 rfl ?_)
 have rl13 := inK_len Fa
 refine Rk1 rfl (op_lss rfl rfl ?_)
 refine Rq1 ?_
 refine Wy1 rfl (fun hc14 => ?_) (fun hc14 => ?_)
 replace hm := bif_t hm hc14
 refine Wx1 (Wp1 (Wf2 ?_))
 refine Wp_reset2 [2, 3, 4, 5, 6, 7, 8, 9, 10, 11, 12, 13, 14, 15, 16, 17, 18, 19, 20, 21, 22, 23, 24, 25, 26, 27, 28, 29, 30, 31, 32, 33, 34, 35, 36, 37] [] (updL ⟨ξ2, []⟩ [(0, (Value.slice Aa l.length Ca)), (3, (Value.int .i64 0))]) [(3, (Value.int .i64 i_1))] (by repeat (first | with_reducible exact Out.refl _ _ | refine Out.upd ?_ rfl | refine Out.updL ?_ rfl | refine Out.mix' ?_ rfl | exact Out.refl _ _)) rfl ⟨rfl, trivial⟩ fun ξ15 => ?_
 replace hm := jn_elim hm; obtain ⟨k17, hk18, hm⟩ := hm
 refine Wp_seqJ [10, 11, 12, 13, 14, 15, 16, 17, 18, 19, 20, 21, 22, 23, 24, 25, 26, 27, 28, 29, 30, 31, 32, 33, 34, 35, 36, 37] (fun fr w' => ∃ (v_1 : Bool) (Ebs : Ents), Ebs = [] ∧ fr [] [(37, (Value.bool v_1))] ∧ Step (ks [] O) w7 (ks Ebs O) w' ∧ St ⟨w, [], []⟩ O w' Ebs ∧ k17 v_1 = some x) ?_ ?_
 rintro ρ24 w20 ⟨v_1, Ebs, hEbs, hfr23, hst22, hs21, hm⟩
 replace hm := jnE1 hk18 hm
 subst hEbs; rw [hfr23.eq]; clear hfr23
 replace Fa := Fa.step hst22; replace ch12 := ch12.trans hst22; clear hst22 hs8
 refine Wy1 rfl (fun hc25 => ?_) (fun hc25 => ?_)
 replace hm := bif_t hm hc25
 refine Wp1 ?_
 clear Fa
 refine Wm1 ?_
 refine Rk1 rfl (on1 (v := (Value.bool false)) rfl ?_)
 refine Rq1 ?_
 refine Wa2 ?_
 have hz := step_all hs21
 refine ⟨_, (show Closes [] _ _ from rfl), [(Value.bool false)], ⟨rfl, trivial⟩, hs21.ext, ?_⟩
 exact Vr.eq (a := vB) (x := false) rfl (Option.some.inj hm)
 replace hm := bif_f hm hc25
 refine Wx1 (Wm1 ?_)
 refine Rk1 rfl (ol1 (v := (Value.int .i64 i_1)) rfl ?_)
 refine Rk1 rfl (op_addw rfl rfl ?_)
 refine Rk1 rfl (on1 (v := (Value.int .i64 (IntKind.wrap .i64 (i_1 + 1)))) rfl ?_)
 refine Rq1 ?_
 exact hK5 _ _ ⟨(IntKind.wrap .i64 (i_1 + 1)), _, rfl, ⟨(by repeat (first | with_reducible exact Out.refl _ _ | refine Out.upd ?_ rfl | refine Out.updL ?_ rfl | refine Out.mix' ?_ rfl | exact Out.refl _ _)), rfl, rfl, trivial⟩, ch12, hs21, (inK_wrap .i64 _), jnE1 hsf4 hm⟩
 intro K19 hK19
 have ch26 := Step.refl (ks [] O) w7
 refine Wp_drawR (g0 := []) (m := 25) (fl := []) (TS_inv hs8) rfl (.inl rfl) rfl (by decide +kernel) ?_  -- 4
 refine Du1 (Value.slice Aa l.length Ca) (fun ρ27 w28 g hle hi ht => ?_) ?_
 obtain ⟨-, hst, -⟩ := hle
 refine So1 (ol1 (v := (Value.slice Aa l.length Ca)) (ht 0 rfl) ?_)
 exact Goes.same hi rfl
 refine Du1 (Value.int .i64 i_1) (fun ρ30 w31 g hle hi ht => ?_) ?_
 obtain ⟨-, hst, -⟩ := hle
 refine So1 (ol1 (v := (Value.int .i64 i_1)) (ht 3 rfl) ?_)
 exact Goes.same hi rfl
 replace hm := ck_some hm; obtain ⟨hc36, hm⟩ := hm
 refine Dw_op (VP O [] (rInt .i64) (l.getD i_1.toNat default)) (VP.stab _ _) (fun ρ33 w34 g hle hi ht => ?_) ?_
 obtain ⟨-, hst, -⟩ := hle
 replace Fa := Fa.step hst
 refine So1 (ow1 (q := (rInt .i64)) ty22 ty3 (ht 10 rfl) (ht 11 rfl) Fa rfl hc36.1 hc36.2 ?_)
 intro p37 f38
 exact Goes.same hi ⟨_, rfl, f38⟩
 refine Dw_op (VD O [] (vI .i64) (l.getD i_1.toNat default)) (VD.stab _ _) (fun ρ39 w40 g hle hi ht => ?_) ?_
 obtain ⟨-, hst, -⟩ := hle
 obtain ⟨p42, q43, f44⟩ := ht 12 rfl
 refine So1 (oz1 ty3 q43 f44 rfl ?_)
 intro v45 h46
 obtain ⟨rfl, Rb⟩ := un_int h46
 exact Goes.same hi (show Vr.vd (vI .i64) _ _ _ _ from ⟨rfl, Rb⟩)
 refine Du1 (Value.bool (decide ((l.getD i_1.toNat default) < 0))) (fun ρ48 w49 g hle hi ht => ?_) ?_
 obtain ⟨-, hst, -⟩ := hle
 have h51 : Vr.vd (vI .i64) _ _ _ _ := ht 13 rfl
 obtain ⟨q52, Rc⟩ := h51
 refine So1 (op_lss q52 rfl ?_)
 exact Goes.same hi rfl
 refine Dw_opB (decide ((l.getD i_1.toNat default) < 0)) (fun ρ54 w55 g hle hi ht => ?_) (fun hg57 => ?_) (fun hg57 => ?_)
 obtain ⟨-, hst, -⟩ := hle
 refine So1 (ol1 (v := (Value.bool (decide ((l.getD i_1.toNat default) < 0)))) (ht 14 rfl) ?_)
 exact Goes.same hi rfl
 replace hm := bif_t hm hg57
 refine Dv1 (fun _ _ _ ht => wanted_x rfl (ht 15 rfl) rfl) ?_
 refine Dv1 (fun _ _ _ ht => wanted_x rfl (ht 15 rfl) rfl) ?_
 refine Dv1 (fun _ _ _ ht => wanted_x rfl (ht 15 rfl) rfl) ?_
 refine Dv1 (fun _ _ _ ht => wanted_x rfl (ht 15 rfl) rfl) ?_
 refine Dv1 (fun _ _ _ ht => wanted_x rfl (ht 15 rfl) rfl) ?_
 refine Du1 (Value.bool true) (fun ρ58 w59 g hle hi ht => ?_) ?_
 obtain ⟨-, hst, -⟩ := hle
 refine So1 (oc2 (v := (Value.bool true)) (ht 15 rfl) rfl ?_)
 exact Goes.same hi rfl
 refine Du1 (Value.bool true) (fun ρ61 w62 g hle hi ht => ?_) ?_
 obtain ⟨-, hst, -⟩ := hle
 refine So1 (ol1 (v := (Value.bool true)) (ht 21 rfl) ?_)
 exact Goes.same hi rfl
 refine Dv1 (fun _ _ _ ht => wanted_x rfl (ht 22 rfl) rfl) ?_
 refine Dv1 (fun _ _ _ ht => wanted_x rfl (ht 22 rfl) rfl) ?_
 refine Dv1 (fun _ _ _ ht => wanted_x rfl (ht 22 rfl) rfl) ?_
 refine Dv1 (fun _ _ _ ht => wanted_x rfl (ht 25 rfl) rfl) ?_
 refine Dv1 (fun _ _ _ ht => wanted_x rfl (ht 25 rfl) rfl) ?_
 refine Dv1 (fun _ _ _ ht => wanted_x rfl (ht 25 rfl) rfl) ?_
 refine Dv1 (fun _ _ _ ht => wanted_x rfl (ht 25 rfl) rfl) ?_
 refine Dv1 (fun _ _ _ ht => wanted_x rfl (ht 25 rfl) rfl) ?_
 refine Dv1 (fun _ _ _ ht => wanted_x rfl (ht 25 rfl) rfl) ?_
 refine Dv1 (fun _ _ _ ht => wanted_x rfl (ht 25 rfl) rfl) ?_
 refine Dv1 (fun _ _ _ ht => wanted_x rfl (ht 25 rfl) rfl) ?_
 refine Dv1 (fun _ _ _ ht => wanted_x rfl (ht 25 rfl) rfl) ?_
 refine Dw_nil fun w68 g69 hl70 hi71 => ?_
 obtain ⟨-, hst72, -⟩ := hl70
 obtain ⟨hs74, p73⟩ := Step.nx hi71
 rintro _ rfl
 rintro _ rfl
 rintro _ rfl
 rintro _ rfl
 rintro _ rfl
 rintro _ rfl
 rintro _ rfl
 rintro _ rfl
 rintro _ rfl
 rintro _ rfl
 rintro _ rfl
 rintro _ rfl
 rintro _ rfl
 rintro _ rfl
 rintro _ rfl
 rintro _ rfl
 rintro _ rfl
 rintro _ rfl
 rintro _ rfl
 rintro _ rfl
 rintro _ rfl
 rintro v75 h76
 replace h76 : Vr.vd (vI .i64) _ _ _ _ := h76
 obtain ⟨rfl, Rd⟩ := h76
 rintro _ ⟨p78, rfl, f79⟩
 rintro _ rfl
 rintro _ rfl
 have p80 : Step (ks [] O) w7 (ks [] O) w68 := hst72.trans p73
 replace f79 := f79.step p73; replace Fa := Fa.step p80; replace ch12 := ch12.trans p80; replace ch26 := ch26.trans p80; clear p80 hs8
 iterate 2 refine Rt1 rfl (asB_ne rfl rfl) rfl ?_
 refine Rk1 rfl (oc2 (v := (Value.bool true)) rfl rfl ?_)
 refine Rq1 ?_
 exact hK19 _ _ ⟨true, _, rfl, ⟨(by repeat (first | with_reducible exact Out.refl _ _ | refine Out.upd ?_ rfl | refine Out.updL ?_ rfl | refine Out.mix' ?_ rfl | exact Out.refl _ _)), rfl, rfl, trivial⟩, ch26, hs74, hm⟩
 replace hm := bif_f hm hg57
 refine Du1 (Value.slice Aa l.length Ca) (fun ρ81 w82 g hle hi ht => ?_) ?_
 obtain ⟨-, hst, -⟩ := hle
 refine Sd2 rfl (ht 15 rfl) (ol1 (v := (Value.slice Aa l.length Ca)) (ht 0 rfl) ?_)
 exact Goes.same hi rfl
 refine Du1 (Value.int .i64 i_1) (fun ρ84 w85 g hle hi ht => ?_) ?_
 obtain ⟨-, hst, -⟩ := hle
 refine Sd2 rfl (ht 15 rfl) (ol1 (v := (Value.int .i64 i_1)) (ht 3 rfl) ?_)
 exact Goes.same hi rfl
 replace hm := ck_some hm; obtain ⟨hc90, hm⟩ := hm
 refine Dw_op (VP O [] (rInt .i64) (l.getD i_1.toNat default)) (VP.stab _ _) (fun ρ87 w88 g hle hi ht => ?_) ?_
 obtain ⟨-, hst, -⟩ := hle
 replace Fa := Fa.step hst
 refine Sd2 rfl (ht 15 rfl) (ow1 (q := (rInt .i64)) ty22 ty3 (ht 16 rfl) (ht 17 rfl) Fa rfl hc90.1 hc90.2 ?_)
 intro p91 f92
 exact Goes.same hi ⟨_, rfl, f92⟩
 refine Dw_op (VD O [] (vI .i64) (l.getD i_1.toNat default)) (VD.stab _ _) (fun ρ93 w94 g hle hi ht => ?_) ?_
 obtain ⟨-, hst, -⟩ := hle
 obtain ⟨p96, q97, f98⟩ := ht 18 rfl
 refine Sd2 rfl (ht 15 rfl) (oz1 ty3 q97 f98 rfl ?_)
 intro v99 h100
 obtain ⟨rfl, Re⟩ := un_int h100
 exact Goes.same hi (show Vr.vd (vI .i64) _ _ _ _ from ⟨rfl, Re⟩)
 refine Du1 (Value.bool (decide (8 ≤ (l.getD i_1.toNat default)))) (fun ρ102 w103 g hle hi ht => ?_) ?_
 obtain ⟨-, hst, -⟩ := hle
 have h105 : Vr.vd (vI .i64) _ _ _ _ := ht 19 rfl
 obtain ⟨q106, Rf⟩ := h105
 refine Sd2 rfl (ht 15 rfl) (op_geq q106 rfl ?_)
 exact Goes.same hi rfl
 refine Du1 (Value.bool (decide (8 ≤ (l.getD i_1.toNat default)))) (fun ρ108 w109 g hle hi ht => ?_) ?_
 obtain ⟨-, hst, -⟩ := hle
 refine So1 (or1 (v := (Value.bool (decide (8 ≤ (l.getD i_1.toNat default))))) (ht 15 rfl) (ht 20 rfl) ?_)
 exact Goes.same hi rfl
 refine Dw_opB (decide (8 ≤ (l.getD i_1.toNat default))) (fun ρ111 w112 g hle hi ht => ?_) (fun hg114 => ?_) (fun hg114 => ?_)
 obtain ⟨-, hst, -⟩ := hle
 refine So1 (ol1 (v := (Value.bool (decide (8 ≤ (l.getD i_1.toNat default))))) (ht 21 rfl) ?_)
 exact Goes.same hi rfl
 replace hm := bif_t hm hg114
 refine Dv1 (fun _ _ _ ht => wanted_x rfl (ht 22 rfl) rfl) ?_
 refine Dv1 (fun _ _ _ ht => wanted_x rfl (ht 22 rfl) rfl) ?_
 refine Dv1 (fun _ _ _ ht => wanted_x rfl (ht 22 rfl) rfl) ?_
 refine Dv1 (fun _ _ _ ht => wanted_x rfl (ht 25 rfl) rfl) ?_
 refine Dv1 (fun _ _ _ ht => wanted_x rfl (ht 25 rfl) rfl) ?_
 refine Dv1 (fun _ _ _ ht => wanted_x rfl (ht 25 rfl) rfl) ?_
 refine Dv1 (fun _ _ _ ht => wanted_x rfl (ht 25 rfl) rfl) ?_
 refine Dv1 (fun _ _ _ ht => wanted_x rfl (ht 25 rfl) rfl) ?_
 refine Dv1 (fun _ _ _ ht => wanted_x rfl (ht 25 rfl) rfl) ?_
 refine Dv1 (fun _ _ _ ht => wanted_x rfl (ht 25 rfl) rfl) ?_
 refine Dv1 (fun _ _ _ ht => wanted_x rfl (ht 25 rfl) rfl) ?_
 refine Dv1 (fun _ _ _ ht => wanted_x rfl (ht 25 rfl) rfl) ?_
 refine Dw_nil fun w119 g120 hl121 hi122 => ?_
 obtain ⟨-, hst123, -⟩ := hl121
 obtain ⟨hs125, p124⟩ := Step.nx hi122
 rintro _ rfl
 rintro _ rfl
 rintro _ rfl
 rintro _ rfl
 rintro _ rfl
 rintro _ rfl
 rintro _ rfl
 rintro _ rfl
 rintro _ rfl
 rintro _ rfl
 rintro _ rfl
 rintro _ rfl
 rintro _ rfl
 rintro _ rfl
 rintro _ rfl
 rintro v126 h127
 replace h127 : Vr.vd (vI .i64) _ _ _ _ := h127
 obtain ⟨rfl, Rg⟩ := h127
 rintro _ ⟨p129, rfl, f130⟩
 rintro _ rfl
 rintro _ rfl
 rintro _ rfl
 rintro _ rfl
 rintro v131 h132
 replace h132 : Vr.vd (vI .i64) _ _ _ _ := h132
 obtain ⟨rfl, Rh⟩ := h132
 rintro _ ⟨p134, rfl, f135⟩
 rintro _ rfl
 rintro _ rfl
 have p136 : Step (ks [] O) w7 (ks [] O) w119 := hst123.trans p124
 replace f130 := f130.step p124; replace f135 := f135.step p124; replace Fa := Fa.step p136; replace ch12 := ch12.trans p136; replace ch26 := ch26.trans p136; clear p136 hs8
 iterate 2 refine Rt1 rfl (asB_ne rfl rfl) rfl ?_
 refine Rk1 rfl (oc2 (v := (Value.bool true)) rfl rfl ?_)
 refine Rq1 ?_
 exact hK19 _ _ ⟨true, _, rfl, ⟨(by repeat (first | with_reducible exact Out.refl _ _ | refine Out.upd ?_ rfl | refine Out.updL ?_ rfl | refine Out.mix' ?_ rfl | exact Out.refl _ _)), rfl, rfl, trivial⟩, ch26, hs125, hm⟩
 replace hm := bif_f hm hg114
 refine Du1 (Value.int .i64 i_1) (fun ρ137 w138 g hle hi ht => ?_) ?_
 obtain ⟨-, hst, -⟩ := hle
 refine Sd2 rfl (ht 22 rfl) (ol1 (v := (Value.int .i64 i_1)) (ht 3 rfl) ?_)
 exact Goes.same hi rfl
 refine Du1 (Value.bool (decide (0 < i_1))) (fun ρ140 w141 g hle hi ht => ?_) ?_
 obtain ⟨-, hst, -⟩ := hle
 refine Sd2 rfl (ht 22 rfl) (op_gtr (ht 23 rfl) rfl ?_)
 exact Goes.same hi rfl
 refine Dw_opB (decide (0 < i_1)) (fun ρ143 w144 g hle hi ht => ?_) (fun hg146 => ?_) (fun hg146 => ?_)
 obtain ⟨-, hst, -⟩ := hle
 refine Sd2 rfl (ht 22 rfl) (ol1 (v := (Value.bool (decide (0 < i_1)))) (ht 24 rfl) ?_)
 exact Goes.same hi rfl
 replace hm := bif_t hm hg146
 refine Du1 (Value.slice Aa l.length Ca) (fun ρ147 w148 g hle hi ht => ?_) ?_
 obtain ⟨-, hst, -⟩ := hle
 refine Sd2 rfl (ht 25 rfl) (ol1 (v := (Value.slice Aa l.length Ca)) (ht 0 rfl) ?_)
 exact Goes.same hi rfl
 refine Du1 (Value.int .i64 i_1) (fun ρ150 w151 g hle hi ht => ?_) ?_
 obtain ⟨-, hst, -⟩ := hle
 refine Sd2 rfl (ht 25 rfl) (ol1 (v := (Value.int .i64 i_1)) (ht 3 rfl) ?_)
 exact Goes.same hi rfl
 refine Du1 (Value.int .i64 (IntKind.wrap .i64 (i_1 - 1))) (fun ρ153 w154 g hle hi ht => ?_) ?_
 obtain ⟨-, hst, -⟩ := hle
 refine Sd2 rfl (ht 25 rfl) (op_subw (ht 27 rfl) rfl ?_)
 exact Goes.same hi rfl
 replace hm := ck_some hm; obtain ⟨hc159, hm⟩ := hm
 refine Dw_op (VP O [] (rInt .i64) (l.getD (IntKind.wrap .i64 (i_1 - 1)).toNat default)) (VP.stab _ _) (fun ρ156 w157 g hle hi ht => ?_) ?_
 obtain ⟨-, hst, -⟩ := hle
 replace Fa := Fa.step hst
 refine Sd2 rfl (ht 25 rfl) (ow1 (q := (rInt .i64)) ty22 ty3 (ht 26 rfl) (ht 28 rfl) Fa rfl hc159.1 hc159.2 ?_)
 intro p160 f161
 exact Goes.same hi ⟨_, rfl, f161⟩
 refine Dw_op (VD O [] (vI .i64) (l.getD (IntKind.wrap .i64 (i_1 - 1)).toNat default)) (VD.stab _ _) (fun ρ162 w163 g hle hi ht => ?_) ?_
 obtain ⟨-, hst, -⟩ := hle
 obtain ⟨p165, q166, f167⟩ := ht 29 rfl
 refine Sd2 rfl (ht 25 rfl) (oz1 ty3 q166 f167 rfl ?_)
 intro v168 h169
 obtain ⟨rfl, Ri⟩ := un_int h169
 exact Goes.same hi (show Vr.vd (vI .i64) _ _ _ _ from ⟨rfl, Ri⟩)
 refine Du1 (Value.slice Aa l.length Ca) (fun ρ171 w172 g hle hi ht => ?_) ?_
 obtain ⟨-, hst, -⟩ := hle
 refine Sd2 rfl (ht 25 rfl) (ol1 (v := (Value.slice Aa l.length Ca)) (ht 0 rfl) ?_)
 exact Goes.same hi rfl
 refine Du1 (Value.int .i64 i_1) (fun ρ174 w175 g hle hi ht => ?_) ?_
 obtain ⟨-, hst, -⟩ := hle
 refine Sd2 rfl (ht 25 rfl) (ol1 (v := (Value.int .i64 i_1)) (ht 3 rfl) ?_)
 exact Goes.same hi rfl
 replace hm := ck_some hm; obtain ⟨hc180, hm⟩ := hm
 refine Dw_op (VP O [] (rInt .i64) (l.getD i_1.toNat default)) (VP.stab _ _) (fun ρ177 w178 g hle hi ht => ?_) ?_
 obtain ⟨-, hst, -⟩ := hle
 replace Fa := Fa.step hst
 refine Sd2 rfl (ht 25 rfl) (ow1 (q := (rInt .i64)) ty22 ty3 (ht 31 rfl) (ht 32 rfl) Fa rfl hc180.1 hc180.2 ?_)
 intro p181 f182
 exact Goes.same hi ⟨_, rfl, f182⟩
 refine Dw_op (VD O [] (vI .i64) (l.getD i_1.toNat default)) (VD.stab _ _) (fun ρ183 w184 g hle hi ht => ?_) ?_
 obtain ⟨-, hst, -⟩ := hle
 obtain ⟨p186, q187, f188⟩ := ht 33 rfl
 refine Sd2 rfl (ht 25 rfl) (oz1 ty3 q187 f188 rfl ?_)
 intro v189 h190
 obtain ⟨rfl, Rj⟩ := un_int h190
 exact Goes.same hi (show Vr.vd (vI .i64) _ _ _ _ from ⟨rfl, Rj⟩)
 refine Dw_nil fun w196 g197 hl198 hi199 => ?_
 obtain ⟨-, hst200, -⟩ := hl198
 obtain ⟨hs202, p201⟩ := Step.nx hi199
 rintro v203 h204
 replace h204 : Vr.vd (vI .i64) _ _ _ _ := h204
 obtain ⟨rfl, Rk⟩ := h204
 rintro _ ⟨p206, rfl, f207⟩
 rintro _ rfl
 rintro _ rfl
 rintro v208 h209
 replace h209 : Vr.vd (vI .i64) _ _ _ _ := h209
 obtain ⟨rfl, Rl⟩ := h209
 rintro _ ⟨p211, rfl, f212⟩
 rintro _ rfl
 rintro _ rfl
 rintro _ rfl
 rintro _ rfl
 rintro _ rfl
 rintro _ rfl
 rintro _ rfl
 rintro _ rfl
 rintro _ rfl
 rintro v213 h214
 replace h214 : Vr.vd (vI .i64) _ _ _ _ := h214
 obtain ⟨rfl, Rm⟩ := h214
 rintro _ ⟨p216, rfl, f217⟩
 rintro _ rfl
 rintro _ rfl
 rintro _ rfl
 rintro _ rfl
 rintro v218 h219
 replace h219 : Vr.vd (vI .i64) _ _ _ _ := h219
 obtain ⟨rfl, Rn⟩ := h219
 rintro _ ⟨p221, rfl, f222⟩
 rintro _ rfl
 rintro _ rfl
 have p223 : Step (ks [] O) w7 (ks [] O) w196 := hst200.trans p201
 replace f207 := f207.step p201; replace f212 := f212.step p201; replace f217 := f217.step p201; replace f222 := f222.step p201; replace Fa := Fa.step p223; replace ch12 := ch12.trans p223; replace ch26 := ch26.trans p223; clear p223 hs8
 refine Rs1 rfl rfl rfl (op_geq rfl rfl ?_)
 refine Rs1 rfl rfl rfl (oc2 (v := (Value.bool (decide ((l.getD i_1.toNat default) ≤ (l.getD (IntKind.wrap .i64 (i_1 - 1)).toNat default))))) rfl rfl ?_)
 refine Rk1 rfl (or1 (v := (Value.bool (decide ((l.getD i_1.toNat default) ≤ (l.getD (IntKind.wrap .i64 (i_1 - 1)).toNat default))))) rfl rfl ?_)
 refine Rq1 ?_
 exact hK19 _ _ ⟨(decide ((l.getD i_1.toNat default) ≤ (l.getD (IntKind.wrap .i64 (i_1 - 1)).toNat default))), _, rfl, ⟨(by repeat (first | with_reducible exact Out.refl _ _ | refine Out.upd ?_ rfl | refine Out.updL ?_ rfl | refine Out.mix' ?_ rfl | exact Out.refl _ _)), rfl, rfl, trivial⟩, ch26, hs202, hm⟩
 replace hm := bif_f hm hg146
 refine Dv1 (fun _ _ _ ht => wanted_x rfl (ht 25 rfl) rfl) ?_
 refine Dv1 (fun _ _ _ ht => wanted_x rfl (ht 25 rfl) rfl) ?_
 refine Dv1 (fun _ _ _ ht => wanted_x rfl (ht 25 rfl) rfl) ?_
 refine Dv1 (fun _ _ _ ht => wanted_x rfl (ht 25 rfl) rfl) ?_
 refine Dv1 (fun _ _ _ ht => wanted_x rfl (ht 25 rfl) rfl) ?_
 refine Dv1 (fun _ _ _ ht => wanted_x rfl (ht 25 rfl) rfl) ?_
 refine Dv1 (fun _ _ _ ht => wanted_x rfl (ht 25 rfl) rfl) ?_
 refine Dv1 (fun _ _ _ ht => wanted_x rfl (ht 25 rfl) rfl) ?_
 refine Dv1 (fun _ _ _ ht => wanted_x rfl (ht 25 rfl) rfl) ?_
 refine Dw_nil fun w228 g229 hl230 hi231 => ?_
 obtain ⟨-, hst232, -⟩ := hl230
 obtain ⟨hs234, p233⟩ := Step.nx hi231
 rintro _ rfl
 rintro _ rfl
 rintro _ rfl
 rintro _ rfl
 rintro _ rfl
 rintro _ rfl
 rintro _ rfl
 rintro _ rfl
 rintro _ rfl
 rintro _ rfl
 rintro _ rfl
 rintro _ rfl
 rintro _ rfl
 rintro _ rfl
 rintro _ rfl
 rintro v235 h236
 replace h236 : Vr.vd (vI .i64) _ _ _ _ := h236
 obtain ⟨rfl, Ro⟩ := h236
 rintro _ ⟨p238, rfl, f239⟩
 rintro _ rfl
 rintro _ rfl
 rintro _ rfl
 rintro _ rfl
 rintro v240 h241
 replace h241 : Vr.vd (vI .i64) _ _ _ _ := h241
 obtain ⟨rfl, Rp⟩ := h241
 rintro _ ⟨p243, rfl, f244⟩
 rintro _ rfl
 rintro _ rfl
 have p245 : Step (ks [] O) w7 (ks [] O) w228 := hst232.trans p233
 replace f239 := f239.step p233; replace f244 := f244.step p233; replace Fa := Fa.step p245; replace ch12 := ch12.trans p245; replace ch26 := ch26.trans p245; clear p245 hs8
 refine Rt1 rfl (asB_ne rfl rfl) rfl ?_
 refine Rs1 rfl rfl rfl (or1 (v := (Value.bool false)) rfl rfl ?_)
 refine Rk1 rfl (or1 (v := (Value.bool false)) rfl rfl ?_)
 refine Rq1 ?_
 exact hK19 _ _ ⟨false, _, rfl, ⟨(by repeat (first | with_reducible exact Out.refl _ _ | refine Out.upd ?_ rfl | refine Out.updL ?_ rfl | refine Out.mix' ?_ rfl | exact Out.refl _ _)), rfl, rfl, trivial⟩, ch26, hs234, hm⟩
 replace hm := bif_f hm hc14
 refine Wp_exit (Wp1 (Wm1 ?_))
 refine Rk1 rfl (ol1 (v := (Value.slice Aa l.length Ca)) rfl ?_)
 refine Rk1 rfl (op_len Try.underlying22 rfl ?_)
 have rl246 := inK_len Fa
 refine Rk1 rfl (op_gtr rfl rfl ?_)
 refine Rk1 rfl (on1 (v := (Value.bool (decide (0 < (l.length : Int))))) rfl ?_)
 refine Rq1 ?_
 refine Wa2 ?_
 have hz := step_all hs8
 replace Fa := Fa.step hz
 refine ⟨_, (show Closes [] _ _ from rfl), [(Value.bool (decide (0 < (l.length : Int))))], ⟨rfl, trivial⟩, hs8.ext, ?_⟩
 exact Vr.eq (a := vB) (x := (decide (0 < (l.length : Int)))) rfl (Option.some.inj hm)

def m95_overflightref37_less_B1 (group : List Int) (than : List Int) (now_1 : List Int) (sf301 : Int → Option Bool) (i_2 : Int) : Option Bool :=
 bif (decide (i_2 < (group.length : Int))) then
  ck ((0 : Int) ≤ i_2 ∧ i_2 < (group.length : Int)) <|
  ck ((0 : Int) ≤ (group.getD i_2.toNat default) ∧ (group.getD i_2.toNat default) < (now_1.length : Int)) <|
  ck ((0 : Int) ≤ i_2 ∧ i_2 < (group.length : Int)) <|
  ck ((0 : Int) ≤ (group.getD i_2.toNat default) ∧ (group.getD i_2.toNat default) < (than.length : Int)) <|
  bif (decide ((than.getD (group.getD i_2.toNat default).toNat default) ≤ (now_1.getD (group.getD i_2.toNat default).toNat default))) then
   some false
  else
   sf301 (IntKind.wrap .i64 (i_2 + 1))
 else
  some true

def m95_overflightref37_less_B0 (r_ : XRound) (group : List Int) (flights : List Int) (slots : List Int) (than : List Int) (sf17 : (List Int) → Int → Option Bool) (now_1 : List Int) (i_1 : Int) : Option Bool :=
 bif (decide (i_1 < (flights.length : Int))) then
  ck ((0 : Int) ≤ i_1 ∧ i_1 < (flights.length : Int)) <|
  ck ((0 : Int) ≤ (flights.getD i_1.toNat default) ∧ (flights.getD i_1.toNat default) < (r_.owners.length : Int)) <|
  ck ((0 : Int) ≤ i_1 ∧ i_1 < (flights.length : Int)) <|
  ck ((0 : Int) ≤ (flights.getD i_1.toNat default) ∧ (flights.getD i_1.toNat default) < (r_.owners.length : Int)) <|
  ck ((0 : Int) ≤ (r_.owners.getD (flights.getD i_1.toNat default).toNat default) ∧ (r_.owners.getD (flights.getD i_1.toNat default).toNat default) < (now_1.length : Int)) <|
  ck ((0 : Int) ≤ i_1 ∧ i_1 < (flights.length : Int)) <|
  ck ((0 : Int) ≤ (flights.getD i_1.toNat default) ∧ (flights.getD i_1.toNat default) < (r_.costs.length : Int)) <|
  ck ((0 : Int) ≤ i_1 ∧ i_1 < (slots.length : Int)) <|
  ck ((0 : Int) ≤ (slots.getD i_1.toNat default) ∧ (slots.getD i_1.toNat default) < ((r_.costs.getD (flights.getD i_1.toNat default).toNat default).length : Int)) <|
  ck ((0 : Int) ≤ (r_.owners.getD (flights.getD i_1.toNat default).toNat default) ∧ (r_.owners.getD (flights.getD i_1.toNat default).toNat default) < (now_1.length : Int)) <|
  sf17 (now_1.set (r_.owners.getD (flights.getD i_1.toNat default).toNat default).toNat (IntKind.wrap .i64 ((now_1.getD (r_.owners.getD (flights.getD i_1.toNat default).toNat default).toNat default) + ((r_.costs.getD (flights.getD i_1.toNat default).toNat default).getD (slots.getD i_1.toNat default).toNat default)))) (IntKind.wrap .i64 (i_1 + 1))
 else
  loop1 (m95_overflightref37_less_B1 group than now_1) (((group.length : Int) - 0).toNat + 1) 0

def m95_overflightref37_less (r_ : XRound) (group : List Int) (flights : List Int) (slots : List Int) (than : List Int) : Option Bool :=
 ck ((0 : Int) ≤ (8 : Int) ∧ (8 : Int) ≤ (8 : Int) ∧ (8 : Int) * 8 ≤ 281474976710656 ∧ (8 : Int) ≤ 281474976710656) <|
 loop2 (m95_overflightref37_less_B0 r_ group flights slots than) (((flights.length : Int) - 0).toNat + 1) (List.replicate 8 (0 : Int)) 0

theorem c95_overflightref37_less {w : World} {O : List Nat} {r_ : XRound} {group : List Int} {flights : List Int} {slots : List Int} {than : List Int} {Aa : Option Addr} {Ca : Nat} {Ab : Option Addr} {Cb : Nat} {Ac : Option Addr} {Cc : Nat} {Ad : Option Addr} {Cd : Nat} {Ae : Option Addr} {Ce : Nat} {Af : Option Addr} {Cf : Nat} (hO : ∀ k ∈ O, k < w.heap.size) (Ra : InK .i64 r_.slots) (Fa : SlR (rInt .i64) w O Aa Ca r_.owners) (Fb : SlR (rSl (rInt .i64)) w O Ab Cb r_.costs) (Fc : SlR (rInt .i64) w O Ac Cc group) (Fd : SlR (rInt .i64) w O Ad Cd flights) (Fe : SlR (rInt .i64) w O Ae Ce slots) (Ff : SlR (rInt .i64) w O Af Cf than) {x : Bool} (hm : m95_overflightref37_less r_ group flights slots than = some x) :
 Ok Try.prog 95 [(Value.agg [(Value.int .i64 r_.slots), (Value.slice Aa r_.owners.length Ca), (Value.slice Ab r_.costs.length Cb)].toArray), (Value.slice Ac group.length Cc), (Value.slice Ad flights.length Cd), (Value.slice Ae slots.length Ce), (Value.slice Af than.length Cf)] w O vB x := by
 unfold m95_overflightref37_less at hm
 refine Fn_of_Wp (n := 78) (xs := [.tmp 10]) Try.func95 rfl Try.ntmps95 Try.results95 rfl ?_
 have hs := St.start hO
 refine Wp1 (Wm1 ?_)
 refine Rk1 rfl (op_box (cs := [(Value.int .i64 r_.slots), (Value.slice Aa r_.owners.length Ca), (Value.slice Ab r_.costs.length Cb)]) hs rfl rfl ?_)
 intro b1 w2 _ p3 hs4
 replace Fa := Fa.step p3; replace Fb := Fb.step p3; replace Fc := Fc.step p3; replace Fd := Fd.step p3; replace Fe := Fe.step p3; replace Ff := Ff.step p3; clear p3
 refine Rk1 rfl (on1 (v := (Value.bool false)) rfl ?_)
 refine Rq1 (Wp1 (Wm1 ?_))
 replace hm := ck_some hm; obtain ⟨hc6, hm⟩ := hm
 refine Rk1 rfl (op_makeSliceI (q := (rInt .i64)) (v := (Value.int .i64 0)) (x0 := (0 : Int)) ty22 ty3 hs4 rfl rfl hc6 rfl (fun _ _ => (mk_int (show InK .i64 0 from by decide))) ?_)
 intro b7 w8 hx12 p9 hs10 f11
 replace Fa := Fa.step p9; replace Fb := Fb.step p9; replace Fc := Fc.step p9; replace Fd := Fd.step p9; replace Fe := Fe.step p9; replace Ff := Ff.step p9; clear p9 hs4
 refine Rk1 rfl (on1 (v := (Value.slice (some ⟨b7, 0, none⟩) (List.replicate 8 (0 : Int)).length 8)) rfl ?_)
 refine Rq1 (Wp1 (Wp1 (Wm1 ?_)))
 refine Rk1 rfl (on1 (v := (Value.int .i64 0)) rfl ?_)
 refine Rq1 (Wf2 ?_)
 refine Wp_reset [] [(1, (Value.slice Ac group.length Cc)), (2, (Value.slice Ad flights.length Cd)), (3, (Value.slice Ae slots.length Ce)), (4, (Value.slice Af than.length Cf)), (5, (Value.pointer (some ⟨b1, 0, none⟩))), (11, (Value.slice (some ⟨b7, 0, none⟩) (List.replicate 8 (0 : Int)).length 8)), (12, (Value.int .i64 0))] rfl ⟨rfl, rfl, rfl, rfl, rfl, rfl, rfl, trivial⟩ fun ξ16 => ?_
 refine Wp_loopM [11, 12, 15, 16, 17, 18, 19, 20, 21, 22, 23, 24, 25, 26, 27, 28, 29, 30, 31, 32, 33, 34, 35, 36, 37, 38, 39, 40, 41, 42, 43, 44, 45, 46, 47, 48, 49, 50, 51, 52, 53, 54, 55, 56] (fun m fr w' => ∃ (now_1 : List Int) (i_1 : Int) (Ag : Option Addr) (Cg : Nat) (k_g14 : Option Nat) (o_g14 : Obj) (Ebs : Ents), Ebs = [(k_g14, o_g14), (some b1, Obj.cells [(Value.int .i64 r_.slots), (Value.slice Aa r_.owners.length Ca), (Value.slice Ab r_.costs.length Cb)].toArray 25)] ∧ fr [] [(11, (Value.slice Ag now_1.length Cg)), (12, (Value.int .i64 i_1))] ∧ Step (ks [(some b7, Obj.cells (List.replicate 8 (Value.int .i64 0)).toArray 3), (some b1, Obj.cells [(Value.int .i64 r_.slots), (Value.slice Aa r_.owners.length Ca), (Value.slice Ab r_.costs.length Cb)].toArray 25)] O) w8 (ks Ebs O) w' ∧ St ⟨w, [], []⟩ O w' Ebs ∧ Gs (rInt .i64) 3 w' (ks Ebs O) Ag Cg now_1 k_g14 o_g14 ∧ InK .i64 i_1 ∧ loop2 (m95_overflightref37_less_B0 r_ group flights slots than) m now_1 i_1 = some x) (((flights.length : Int) - 0).toNat + 1) ⟨(List.replicate 8 (0 : Int)), 0, (some ⟨b7, 0, none⟩), 8, (some b7), (Obj.cells (List.replicate 8 (Value.int .i64 0)).toArray 3), _, rfl, ⟨Out.refl _ _, rfl, rfl, rfl, trivial⟩, Step.refl _ _, hs10, f11, (show InK .i64 0 from by decide), hm⟩ ?_ ?_
 rintro _ _ ⟨_, _, _, _, _, _, _, _, _, _, _, _, _, hm⟩; exact loop2_z hm
 rintro m20 K19 hK19 ρ25 w21 ⟨now_1, i_1, Ag, Cg, k_g14, o_g14, Ebs, hEbs, hfr24, hst23, hs22, Fg, Rb, hm⟩
 obtain ⟨sf17, hsf18, hm⟩ := loop2_s hm; unfold m95_overflightref37_less_B0 at hm
 subst hEbs; rw [hfr24.eq]; clear hfr24
 replace Fa := Fa.step hst23; replace Fb := Fb.step hst23; replace Fc := Fc.step hst23; replace Fd := Fd.step hst23; replace Fe := Fe.step hst23; replace Ff := Ff.step hst23; replace f11 := f11.step hst23
 have ch26 := hst23
 refine Wp1 (Wp1 ?_)
 clear f11
 refine Wm1 ?_
 refine Rk1 rfl (ol1 (v := (Value.int .i64 i_1)) rfl ?_)
 refine Rk1 rfl (ol1 (v := (Value.slice Ad flights.length Cd)) rfl ?_)
 refine Rk1 rfl (op_len Try.underlying22 rfl ?_)
 have rl27 := inK_len Fd
 refine Rk1 rfl (op_lss rfl rfl ?_)
 refine Rq1 ?_
 refine Wy1 rfl (fun hc28 => ?_) (fun hc28 => ?_)
 replace hm := bif_t hm hc28
 refine Wx1 (Wp1 (Wf2 ?_))
 refine Wp_drawR (g0 := []) (m := 35) (fl := []) (TS_inv hs22) rfl (.inl rfl) rfl (by decide +kernel) ?_  -- 5
 refine Du1 (Value.slice Ag now_1.length Cg) (fun ρ29 w30 g hle hi ht => ?_) ?_
 obtain ⟨-, hst, -⟩ := hle
 refine So1 (ol1 (v := (Value.slice Ag now_1.length Cg)) (ht 11 rfl) ?_)
 exact Goes.same hi rfl
 refine Du1 (Value.pointer (some ⟨b1, 1, none⟩)) (fun ρ32 w33 g hle hi ht => ?_) ?_
 obtain ⟨-, hst, -⟩ := hle
 refine So1 (oe2 ty25 rfl ty22 (by decide) (ht 5 rfl) (rfl : _ = (⟨_, 1, none⟩ : Addr)) ?_)
 exact Goes.same hi rfl
 refine Du1 (Value.slice Aa r_.owners.length Ca) (fun ρ35 w36 g hle hi ht => ?_) ?_
 obtain ⟨-, hst, -⟩ := hle
 have hsn := (Step.nx hi).1
 refine So1 (op_load (cs := [(Value.int .i64 r_.slots), (Value.slice Aa r_.owners.length Ca), (Value.slice Ab r_.costs.length Cb)]) (i := 1) ty22 hsn (ht 22 rfl) rfl rfl ?_)
 exact Goes.same hi rfl
 refine Du1 (Value.slice Ad flights.length Cd) (fun ρ38 w39 g hle hi ht => ?_) ?_
 obtain ⟨-, hst, -⟩ := hle
 refine So1 (ol1 (v := (Value.slice Ad flights.length Cd)) (ht 2 rfl) ?_)
 exact Goes.same hi rfl
 refine Du1 (Value.int .i64 i_1) (fun ρ41 w42 g hle hi ht => ?_) ?_
 obtain ⟨-, hst, -⟩ := hle
 refine So1 (ol1 (v := (Value.int .i64 i_1)) (ht 12 rfl) ?_)
 exact Goes.same hi rfl
 replace hm := ck_some hm; obtain ⟨hc47, hm⟩ := hm
 refine Dw_op (VP O [(k_g14, o_g14), (some b1, Obj.cells [(Value.int .i64 r_.slots), (Value.slice Aa r_.owners.length Ca), (Value.slice Ab r_.costs.length Cb)].toArray 25)] (rInt .i64) (flights.getD i_1.toNat default)) (VP.stab _ _) (fun ρ44 w45 g hle hi ht => ?_) ?_
 obtain ⟨-, hst, -⟩ := hle
 replace Fd := Fd.step hst
 refine So1 (ow1 (q := (rInt .i64)) ty22 ty3 (ht 24 rfl) (ht 25 rfl) Fd rfl hc47.1 hc47.2 ?_)
 intro p48 f49
 exact Goes.same hi ⟨_, rfl, f49⟩
 refine Dw_op (VD O [(k_g14, o_g14), (some b1, Obj.cells [(Value.int .i64 r_.slots), (Value.slice Aa r_.owners.length Ca), (Value.slice Ab r_.costs.length Cb)].toArray 25)] (vI .i64) (flights.getD i_1.toNat default)) (VD.stab _ _) (fun ρ50 w51 g hle hi ht => ?_) ?_
 obtain ⟨-, hst, -⟩ := hle
 obtain ⟨p53, q54, f55⟩ := ht 26 rfl
 refine So1 (oz1 ty3 q54 f55 rfl ?_)
 intro v56 h57
 obtain ⟨rfl, Rc⟩ := un_int h57
 exact Goes.same hi (show Vr.vd (vI .i64) _ _ _ _ from ⟨rfl, Rc⟩)
 replace hm := ck_some hm; obtain ⟨hc65, hm⟩ := hm
 refine Dw_op (VP O [(k_g14, o_g14), (some b1, Obj.cells [(Value.int .i64 r_.slots), (Value.slice Aa r_.owners.length Ca), (Value.slice Ab r_.costs.length Cb)].toArray 25)] (rInt .i64) (r_.owners.getD (flights.getD i_1.toNat default).toNat default)) (VP.stab _ _) (fun ρ59 w60 g hle hi ht => ?_) ?_
 obtain ⟨-, hst, -⟩ := hle
 replace Fa := Fa.step hst
 have h62 : Vr.vd (vI .i64) _ _ _ _ := ht 27 rfl
 obtain ⟨q63, Rd⟩ := h62
 refine So1 (ow1 (q := (rInt .i64)) ty22 ty3 (ht 23 rfl) q63 Fa rfl hc65.1 hc65.2 ?_)
 intro p66 f67
 exact Goes.same hi ⟨_, rfl, f67⟩
 refine Dw_op (VD O [(k_g14, o_g14), (some b1, Obj.cells [(Value.int .i64 r_.slots), (Value.slice Aa r_.owners.length Ca), (Value.slice Ab r_.costs.length Cb)].toArray 25)] (vI .i64) (r_.owners.getD (flights.getD i_1.toNat default).toNat default)) (VD.stab _ _) (fun ρ68 w69 g hle hi ht => ?_) ?_
 obtain ⟨-, hst, -⟩ := hle
 obtain ⟨p71, q72, f73⟩ := ht 28 rfl
 refine So1 (oz1 ty3 q72 f73 rfl ?_)
 intro v74 h75
 obtain ⟨rfl, Re⟩ := un_int h75
 exact Goes.same hi (show Vr.vd (vI .i64) _ _ _ _ from ⟨rfl, Re⟩)
 refine Du1 (Value.slice Ag now_1.length Cg) (fun ρ77 w78 g hle hi ht => ?_) ?_
 obtain ⟨-, hst, -⟩ := hle
 refine So1 (ol1 (v := (Value.slice Ag now_1.length Cg)) (ht 11 rfl) ?_)
 exact Goes.same hi rfl
 refine Du1 (Value.pointer (some ⟨b1, 1, none⟩)) (fun ρ80 w81 g hle hi ht => ?_) ?_
 obtain ⟨-, hst, -⟩ := hle
 refine So1 (oe2 ty25 rfl ty22 (by decide) (ht 5 rfl) (rfl : _ = (⟨_, 1, none⟩ : Addr)) ?_)
 exact Goes.same hi rfl
 refine Du1 (Value.slice Aa r_.owners.length Ca) (fun ρ83 w84 g hle hi ht => ?_) ?_
 obtain ⟨-, hst, -⟩ := hle
 have hsn := (Step.nx hi).1
 refine So1 (op_load (cs := [(Value.int .i64 r_.slots), (Value.slice Aa r_.owners.length Ca), (Value.slice Ab r_.costs.length Cb)]) (i := 1) ty22 hsn (ht 31 rfl) rfl rfl ?_)
 exact Goes.same hi rfl
 refine Du1 (Value.slice Ad flights.length Cd) (fun ρ86 w87 g hle hi ht => ?_) ?_
 obtain ⟨-, hst, -⟩ := hle
 refine So1 (ol1 (v := (Value.slice Ad flights.length Cd)) (ht 2 rfl) ?_)
 exact Goes.same hi rfl
 refine Du1 (Value.int .i64 i_1) (fun ρ89 w90 g hle hi ht => ?_) ?_
 obtain ⟨-, hst, -⟩ := hle
 refine So1 (ol1 (v := (Value.int .i64 i_1)) (ht 12 rfl) ?_)
 exact Goes.same hi rfl
 replace hm := ck_some hm; obtain ⟨hc95, hm⟩ := hm
 refine Dw_op (VP O [(k_g14, o_g14), (some b1, Obj.cells [(Value.int .i64 r_.slots), (Value.slice Aa r_.owners.length Ca), (Value.slice Ab r_.costs.length Cb)].toArray 25)] (rInt .i64) (flights.getD i_1.toNat default)) (VP.stab _ _) (fun ρ92 w93 g hle hi ht => ?_) ?_
 obtain ⟨-, hst, -⟩ := hle
 replace Fd := Fd.step hst
 refine So1 (ow1 (q := (rInt .i64)) ty22 ty3 (ht 33 rfl) (ht 34 rfl) Fd rfl hc95.1 hc95.2 ?_)
 intro p96 f97
 exact Goes.same hi ⟨_, rfl, f97⟩
 refine Dw_op (VD O [(k_g14, o_g14), (some b1, Obj.cells [(Value.int .i64 r_.slots), (Value.slice Aa r_.owners.length Ca), (Value.slice Ab r_.costs.length Cb)].toArray 25)] (vI .i64) (flights.getD i_1.toNat default)) (VD.stab _ _) (fun ρ98 w99 g hle hi ht => ?_) ?_
 obtain ⟨-, hst, -⟩ := hle
 obtain ⟨p101, q102, f103⟩ := ht 35 rfl
 refine So1 (oz1 ty3 q102 f103 rfl ?_)
 intro v104 h105
 obtain ⟨rfl, Rf⟩ := un_int h105
 exact Goes.same hi (show Vr.vd (vI .i64) _ _ _ _ from ⟨rfl, Rf⟩)
 replace hm := ck_some hm; obtain ⟨hc113, hm⟩ := hm
 refine Dw_op (VP O [(k_g14, o_g14), (some b1, Obj.cells [(Value.int .i64 r_.slots), (Value.slice Aa r_.owners.length Ca), (Value.slice Ab r_.costs.length Cb)].toArray 25)] (rInt .i64) (r_.owners.getD (flights.getD i_1.toNat default).toNat default)) (VP.stab _ _) (fun ρ107 w108 g hle hi ht => ?_) ?_
 obtain ⟨-, hst, -⟩ := hle
 replace Fa := Fa.step hst
 have h110 : Vr.vd (vI .i64) _ _ _ _ := ht 36 rfl
 obtain ⟨q111, Rg⟩ := h110
 refine So1 (ow1 (q := (rInt .i64)) ty22 ty3 (ht 32 rfl) q111 Fa rfl hc113.1 hc113.2 ?_)
 intro p114 f115
 exact Goes.same hi ⟨_, rfl, f115⟩
 refine Dw_op (VD O [(k_g14, o_g14), (some b1, Obj.cells [(Value.int .i64 r_.slots), (Value.slice Aa r_.owners.length Ca), (Value.slice Ab r_.costs.length Cb)].toArray 25)] (vI .i64) (r_.owners.getD (flights.getD i_1.toNat default).toNat default)) (VD.stab _ _) (fun ρ116 w117 g hle hi ht => ?_) ?_
 obtain ⟨-, hst, -⟩ := hle
 obtain ⟨p119, q120, f121⟩ := ht 37 rfl
 refine So1 (oz1 ty3 q120 f121 rfl ?_)
 intro v122 h123
 obtain ⟨rfl, Rh⟩ := un_int h123
 exact Goes.same hi (show Vr.vd (vI .i64) _ _ _ _ from ⟨rfl, Rh⟩)
 replace hm := ck_some hm; obtain ⟨hc131, hm⟩ := hm
 obtain ⟨b132, rfl, rfl⟩ := Fg.at_ (by omega)
 refine Du1 (Value.pointer (some ⟨b132, (r_.owners.getD (flights.getD i_1.toNat default).toNat default).toNat * 1, none⟩)) (fun ρ125 w126 g hle hi ht => ?_) ?_
 obtain ⟨-, hst, -⟩ := hle
 replace Fg := Fg.step hst
 have h128 : Vr.vd (vI .i64) _ _ _ _ := ht 38 rfl
 obtain ⟨q129, Ri⟩ := h128
 refine So1 (op_indexAddrG ty22 ty3 (ht 30 rfl) q129 Fg hc131 ?_)
 rintro _ ⟨⟩ -
 exact Goes.same hi rfl
 refine Dw_op (VD O [(some b132, o_g14), (some b1, Obj.cells [(Value.int .i64 r_.slots), (Value.slice Aa r_.owners.length Ca), (Value.slice Ab r_.costs.length Cb)].toArray 25)] (vI .i64) (now_1.getD (r_.owners.getD (flights.getD i_1.toNat default).toNat default).toNat default)) (VD.stab _ _) (fun ρ133 w134 g hle hi ht => ?_) ?_
 obtain ⟨-, hst, -⟩ := hle
 replace Fg := Fg.step hst
 have hsn := (Step.nx hi).1
 refine So1 (op_loadG (m := (r_.owners.getD (flights.getD i_1.toNat default).toNat default)) (i := 0) ty3 rfl hsn rfl (ht 39 rfl) Fg hc131 ?_)
 intro v136 h137
 obtain ⟨rfl, Rj⟩ := un_int h137
 exact Goes.same hi (show Vr.vd (vI .i64) _ _ _ _ from ⟨rfl, Rj⟩)
 refine Du1 (Value.pointer (some ⟨b1, 2, none⟩)) (fun ρ139 w140 g hle hi ht => ?_) ?_
 obtain ⟨-, hst, -⟩ := hle
 refine So1 (oe2 ty25 rfl ty23 (by decide) (ht 5 rfl) (rfl : _ = (⟨_, 2, none⟩ : Addr)) ?_)
 exact Goes.same hi rfl
 refine Du1 (Value.slice Ab r_.costs.length Cb) (fun ρ142 w143 g hle hi ht => ?_) ?_
 obtain ⟨-, hst, -⟩ := hle
 have hsn := (Step.nx hi).1
 refine So1 (op_load (cs := [(Value.int .i64 r_.slots), (Value.slice Aa r_.owners.length Ca), (Value.slice Ab r_.costs.length Cb)]) (i := 1) ty23 hsn (ht 41 rfl) rfl rfl ?_)
 exact Goes.same hi rfl
 refine Du1 (Value.slice Ad flights.length Cd) (fun ρ145 w146 g hle hi ht => ?_) ?_
 obtain ⟨-, hst, -⟩ := hle
 refine So1 (ol1 (v := (Value.slice Ad flights.length Cd)) (ht 2 rfl) ?_)
 exact Goes.same hi rfl
 refine Du1 (Value.int .i64 i_1) (fun ρ148 w149 g hle hi ht => ?_) ?_
 obtain ⟨-, hst, -⟩ := hle
 refine So1 (ol1 (v := (Value.int .i64 i_1)) (ht 12 rfl) ?_)
 exact Goes.same hi rfl
 replace hm := ck_some hm; obtain ⟨hc154, hm⟩ := hm
 refine Dw_op (VP O [(some b132, o_g14), (some b1, Obj.cells [(Value.int .i64 r_.slots), (Value.slice Aa r_.owners.length Ca), (Value.slice Ab r_.costs.length Cb)].toArray 25)] (rInt .i64) (flights.getD i_1.toNat default)) (VP.stab _ _) (fun ρ151 w152 g hle hi ht => ?_) ?_
 obtain ⟨-, hst, -⟩ := hle
 replace Fd := Fd.step hst
 refine So1 (ow1 (q := (rInt .i64)) ty22 ty3 (ht 43 rfl) (ht 44 rfl) Fd rfl hc154.1 hc154.2 ?_)
 intro p155 f156
 exact Goes.same hi ⟨_, rfl, f156⟩
 refine Dw_op (VD O [(some b132, o_g14), (some b1, Obj.cells [(Value.int .i64 r_.slots), (Value.slice Aa r_.owners.length Ca), (Value.slice Ab r_.costs.length Cb)].toArray 25)] (vI .i64) (flights.getD i_1.toNat default)) (VD.stab _ _) (fun ρ157 w158 g hle hi ht => ?_) ?_
 obtain ⟨-, hst, -⟩ := hle
 obtain ⟨p160, q161, f162⟩ := ht 45 rfl
 refine So1 (oz1 ty3 q161 f162 rfl ?_)
 intro v163 h164
 obtain ⟨rfl, Rk⟩ := un_int h164
 exact Goes.same hi (show Vr.vd (vI .i64) _ _ _ _ from ⟨rfl, Rk⟩)
 replace hm := ck_some hm; obtain ⟨hc172, hm⟩ := hm
 refine Dw_op (VP O [(some b132, o_g14), (some b1, Obj.cells [(Value.int .i64 r_.slots), (Value.slice Aa r_.owners.length Ca), (Value.slice Ab r_.costs.length Cb)].toArray 25)] (rSl (rInt .i64)) (r_.costs.getD (flights.getD i_1.toNat default).toNat default)) (VP.stab _ _) (fun ρ166 w167 g hle hi ht => ?_) ?_
 obtain ⟨-, hst, -⟩ := hle
 replace Fb := Fb.step hst
 have h169 : Vr.vd (vI .i64) _ _ _ _ := ht 46 rfl
 obtain ⟨q170, Rl⟩ := h169
 refine So1 (ow1 (q := (rSl (rInt .i64))) ty23 ty22 (ht 42 rfl) q170 Fb rfl hc172.1 hc172.2 ?_)
 intro p173 f174
 exact Goes.same hi ⟨_, rfl, f174⟩
 refine Dw_op (VD O [(some b132, o_g14), (some b1, Obj.cells [(Value.int .i64 r_.slots), (Value.slice Aa r_.owners.length Ca), (Value.slice Ab r_.costs.length Cb)].toArray 25)] (vC (rSl (rInt .i64))) (r_.costs.getD (flights.getD i_1.toNat default).toNat default)) (VD.stab _ _) (fun ρ175 w176 g hle hi ht => ?_) ?_
 obtain ⟨-, hst, -⟩ := hle
 obtain ⟨p178, q179, f180⟩ := ht 47 rfl
 refine So1 (oz1 ty22 q179 f180 rfl ?_)
 intro v181 h182
 obtain ⟨Ah, Ch, rfl, Fh⟩ := un_sl h182
 exact Goes.same hi (show Vr.vd (vC (rSl (rInt .i64))) _ _ _ _ from (mkC (mk_sl Fh)))
 refine Du1 (Value.slice Ae slots.length Ce) (fun ρ184 w185 g hle hi ht => ?_) ?_
 obtain ⟨-, hst, -⟩ := hle
 refine So1 (ol1 (v := (Value.slice Ae slots.length Ce)) (ht 3 rfl) ?_)
 exact Goes.same hi rfl
 refine Du1 (Value.int .i64 i_1) (fun ρ187 w188 g hle hi ht => ?_) ?_
 obtain ⟨-, hst, -⟩ := hle
 refine So1 (ol1 (v := (Value.int .i64 i_1)) (ht 12 rfl) ?_)
 exact Goes.same hi rfl
 replace hm := ck_some hm; obtain ⟨hc193, hm⟩ := hm
 refine Dw_op (VP O [(some b132, o_g14), (some b1, Obj.cells [(Value.int .i64 r_.slots), (Value.slice Aa r_.owners.length Ca), (Value.slice Ab r_.costs.length Cb)].toArray 25)] (rInt .i64) (slots.getD i_1.toNat default)) (VP.stab _ _) (fun ρ190 w191 g hle hi ht => ?_) ?_
 obtain ⟨-, hst, -⟩ := hle
 replace Fe := Fe.step hst
 refine So1 (ow1 (q := (rInt .i64)) ty22 ty3 (ht 49 rfl) (ht 50 rfl) Fe rfl hc193.1 hc193.2 ?_)
 intro p194 f195
 exact Goes.same hi ⟨_, rfl, f195⟩
 refine Dw_op (VD O [(some b132, o_g14), (some b1, Obj.cells [(Value.int .i64 r_.slots), (Value.slice Aa r_.owners.length Ca), (Value.slice Ab r_.costs.length Cb)].toArray 25)] (vI .i64) (slots.getD i_1.toNat default)) (VD.stab _ _) (fun ρ196 w197 g hle hi ht => ?_) ?_
 obtain ⟨-, hst, -⟩ := hle
 obtain ⟨p199, q200, f201⟩ := ht 51 rfl
 refine So1 (oz1 ty3 q200 f201 rfl ?_)
 intro v202 h203
 obtain ⟨rfl, Rm⟩ := un_int h203
 exact Goes.same hi (show Vr.vd (vI .i64) _ _ _ _ from ⟨rfl, Rm⟩)
 replace hm := ck_some hm; obtain ⟨hc214, hm⟩ := hm
 refine Dw_op (VP O [(some b132, o_g14), (some b1, Obj.cells [(Value.int .i64 r_.slots), (Value.slice Aa r_.owners.length Ca), (Value.slice Ab r_.costs.length Cb)].toArray 25)] (rInt .i64) ((r_.costs.getD (flights.getD i_1.toNat default).toNat default).getD (slots.getD i_1.toNat default).toNat default)) (VP.stab _ _) (fun ρ205 w206 g hle hi ht => ?_) ?_
 obtain ⟨-, hst, -⟩ := hle
 have h208 : Vr.vd (vC (rSl (rInt .i64))) _ _ _ _ := ht 48 rfl
 obtain ⟨Ai, Ci, q209, Fi⟩ := un_sl h208
 have h211 : Vr.vd (vI .i64) _ _ _ _ := ht 52 rfl
 obtain ⟨q212, Rn⟩ := h211
 refine So1 (ow1 (q := (rInt .i64)) ty22 ty3 q209 q212 Fi rfl hc214.1 hc214.2 ?_)
 intro p215 f216
 exact Goes.same hi ⟨_, rfl, f216⟩
 refine Dw_op (VD O [(some b132, o_g14), (some b1, Obj.cells [(Value.int .i64 r_.slots), (Value.slice Aa r_.owners.length Ca), (Value.slice Ab r_.costs.length Cb)].toArray 25)] (vI .i64) ((r_.costs.getD (flights.getD i_1.toNat default).toNat default).getD (slots.getD i_1.toNat default).toNat default)) (VD.stab _ _) (fun ρ217 w218 g hle hi ht => ?_) ?_
 obtain ⟨-, hst, -⟩ := hle
 obtain ⟨p220, q221, f222⟩ := ht 53 rfl
 refine So1 (oz1 ty3 q221 f222 rfl ?_)
 intro v223 h224
 obtain ⟨rfl, Ro⟩ := un_int h224
 exact Goes.same hi (show Vr.vd (vI .i64) _ _ _ _ from ⟨rfl, Ro⟩)
 refine Du1 (Value.int .i64 (IntKind.wrap .i64 ((now_1.getD (r_.owners.getD (flights.getD i_1.toNat default).toNat default).toNat default) + ((r_.costs.getD (flights.getD i_1.toNat default).toNat default).getD (slots.getD i_1.toNat default).toNat default)))) (fun ρ226 w227 g hle hi ht => ?_) ?_
 obtain ⟨-, hst, -⟩ := hle
 have h229 : Vr.vd (vI .i64) _ _ _ _ := ht 40 rfl
 obtain ⟨q230, Rp⟩ := h229
 have h232 : Vr.vd (vI .i64) _ _ _ _ := ht 54 rfl
 obtain ⟨q233, Rq⟩ := h232
 refine So1 (op_addw q230 q233 ?_)
 exact Goes.same hi rfl
 refine Dw_nil fun w239 g240 hl241 hi242 => ?_
 obtain ⟨-, hst243, -⟩ := hl241
 obtain ⟨hs245, p244⟩ := Step.nx hi242
 rintro _ rfl
 rintro v246 h247
 replace h247 : Vr.vd (vI .i64) _ _ _ _ := h247
 obtain ⟨rfl, Rr⟩ := h247
 rintro _ ⟨p249, rfl, f250⟩
 rintro v251 h252
 replace h252 : Vr.vd (vI .i64) _ _ _ _ := h252
 obtain ⟨rfl, Rs⟩ := h252
 rintro _ ⟨p254, rfl, f255⟩
 rintro _ rfl
 rintro _ rfl
 rintro v256 h257
 replace h257 : Vr.vd (vC (rSl (rInt .i64))) _ _ _ _ := h257
 obtain ⟨Aj, Cj, rfl, Fj⟩ := un_sl h257
 rintro _ ⟨p259, rfl, f260⟩
 rintro v261 h262
 replace h262 : Vr.vd (vI .i64) _ _ _ _ := h262
 obtain ⟨rfl, Rt⟩ := h262
 rintro _ ⟨p264, rfl, f265⟩
 rintro _ rfl
 rintro _ rfl
 rintro _ rfl
 rintro _ rfl
 rintro v266 h267
 replace h267 : Vr.vd (vI .i64) _ _ _ _ := h267
 obtain ⟨rfl, Ru⟩ := h267
 rintro _ rfl
 rintro v269 h270
 replace h270 : Vr.vd (vI .i64) _ _ _ _ := h270
 obtain ⟨rfl, Rv⟩ := h270
 rintro _ ⟨p272, rfl, f273⟩
 rintro v274 h275
 replace h275 : Vr.vd (vI .i64) _ _ _ _ := h275
 obtain ⟨rfl, Rw⟩ := h275
 rintro _ ⟨p277, rfl, f278⟩
 rintro _ rfl
 rintro _ rfl
 rintro _ rfl
 rintro _ rfl
 rintro _ rfl
 rintro v279 h280
 replace h280 : Vr.vd (vI .i64) _ _ _ _ := h280
 obtain ⟨rfl, Rx⟩ := h280
 rintro _ ⟨p282, rfl, f283⟩
 rintro v284 h285
 replace h285 : Vr.vd (vI .i64) _ _ _ _ := h285
 obtain ⟨rfl, Ry⟩ := h285
 rintro _ ⟨p287, rfl, f288⟩
 rintro _ rfl
 rintro _ rfl
 rintro _ rfl
 rintro _ rfl
 rintro _ rfl
 have p289 : Step (ks [(some b132, o_g14), (some b1, Obj.cells [(Value.int .i64 r_.slots), (Value.slice Aa r_.owners.length Ca), (Value.slice Ab r_.costs.length Cb)].toArray 25)] O) w21 (ks [(some b132, o_g14), (some b1, Obj.cells [(Value.int .i64 r_.slots), (Value.slice Aa r_.owners.length Ca), (Value.slice Ab r_.costs.length Cb)].toArray 25)] O) w239 := hst243.trans p244
 replace f250 := f250.step p244; replace f255 := f255.step p244; replace Fj := Fj.step p244; replace f260 := f260.step p244; replace f265 := f265.step p244; replace f273 := f273.step p244; replace f278 := f278.step p244; replace f283 := f283.step p244; replace f288 := f288.step p244; replace Fa := Fa.step p289; replace Fb := Fb.step p289; replace Fc := Fc.step p289; replace Fd := Fd.step p289; replace Fe := Fe.step p289; replace Ff := Ff.step p289; replace Fg := Fg.step p289; replace ch26 := ch26.trans p289; clear p289 hs22
 replace hm := ck_some hm; obtain ⟨hc290, hm⟩ := hm
 refine Rk1 rfl (op_indexAddrG ty22 ty3 rfl rfl Fg hc290 ?_)
 rintro _ ⟨⟩ -
 refine Rg_op_ (op_storeG (vs := [(Value.int .i64 (IntKind.wrap .i64 ((now_1.getD (r_.owners.getD (flights.getD i_1.toNat default).toNat default).toNat default) + ((r_.costs.getD (flights.getD i_1.toNat default).toNat default).getD (slots.getD i_1.toNat default).toNat default))))]) (i := 0) (m := (r_.owners.getD (flights.getD i_1.toNat default).toNat default)) ty3 rfl hs245 rfl rfl rfl rfl Fg hc290 (mk_int (inK_wrap .i64 _)) ?_)
 intro w292 o295 p293 hs294 f296
 replace Fa := Fa.step p293; replace Fb := Fb.step p293; replace Fc := Fc.step p293; replace Fd := Fd.step p293; replace Fe := Fe.step p293; replace Ff := Ff.step p293; replace f250 := f250.step p293; replace f255 := f255.step p293; replace Fj := Fj.step p293; replace f260 := f260.step p293; replace f265 := f265.step p293; replace f273 := f273.step p293; replace f278 := f278.step p293; replace f283 := f283.step p293; replace f288 := f288.step p293; replace ch26 := ch26.trans p293; clear p293 hs245
 refine Rq1 ?_
 clear f250 f255 Fj f260 f265 f273 f278 f283 f288
 refine Wm1 ?_
 refine Rk1 rfl (ol1 (v := (Value.int .i64 i_1)) rfl ?_)
 refine Rk1 rfl (op_addw rfl rfl ?_)
 refine Rk1 rfl (on1 (v := (Value.int .i64 (IntKind.wrap .i64 (i_1 + 1)))) rfl ?_)
 refine Rq1 ?_
 exact hK19 _ _ ⟨(now_1.set (r_.owners.getD (flights.getD i_1.toNat default).toNat default).toNat (IntKind.wrap .i64 ((now_1.getD (r_.owners.getD (flights.getD i_1.toNat default).toNat default).toNat default) + ((r_.costs.getD (flights.getD i_1.toNat default).toNat default).getD (slots.getD i_1.toNat default).toNat default)))), (IntKind.wrap .i64 (i_1 + 1)), (some ⟨b132, 0, none⟩), Cg, (some b132), o295, _, rfl, ⟨(by repeat (first | with_reducible exact Out.refl _ _ | refine Out.upd ?_ rfl | refine Out.updL ?_ rfl | refine Out.mix' ?_ rfl | exact Out.refl _ _)), rfl, (eqlenV (show now_1.length = (now_1.set (r_.owners.getD (flights.getD i_1.toNat default).toNat default).toNat (IntKind.wrap .i64 ((now_1.getD (r_.owners.getD (flights.getD i_1.toNat default).toNat default).toNat default) + ((r_.costs.getD (flights.getD i_1.toNat default).toNat default).getD (slots.getD i_1.toNat default).toNat default)))).length from by first | (simp; done) | (simp; omega))), rfl, trivial⟩, ch26, hs294, f296, (inK_wrap .i64 _), jnE2 hsf18 hm⟩
 replace hm := bif_f hm hc28
 refine Wp_exit (Wp1 (Wp1 ?_))
 obtain ⟨hs297, p298⟩ := hs22.sub (bs' := [(k_g14, o_g14)]) (.cons_cons _ (.cons _ List.Sublist.slnil))
 clear Fa Fb Fd Fe
 replace Fc := Fc.step p298; replace Ff := Ff.step p298; replace Fg := Fg.step p298; replace ch26 := ch26.trans p298; clear p298 hs22
 refine Wm1 ?_
 refine Rk1 rfl (on1 (v := (Value.int .i64 0)) rfl ?_)
 refine Rq1 (Wf2 ?_)
 refine Wp_reset [] [(1, (Value.slice Ac group.length Cc)), (4, (Value.slice Af than.length Cf)), (11, (Value.slice Ag now_1.length Cg)), (13, (Value.int .i64 0))] rfl ⟨rfl, rfl, rfl, rfl, trivial⟩ fun ξ300 => ?_
 refine Wp_loopM [10, 13, 57, 58, 59, 60, 61, 62, 63, 64, 65, 66, 67, 68, 69, 70, 71, 72, 73, 74, 75, 76, 77] (fun m fr w' => ∃ (i_2 : Int) (Ebs : Ents), Ebs = [(k_g14, o_g14)] ∧ fr [] [(13, (Value.int .i64 i_2))] ∧ Step (ks [(k_g14, o_g14)] O) w21 (ks Ebs O) w' ∧ St ⟨w, [], []⟩ O w' Ebs ∧ InK .i64 i_2 ∧ loop1 (m95_overflightref37_less_B1 group than now_1) m i_2 = some x) (((group.length : Int) - 0).toNat + 1) ⟨0, _, rfl, ⟨Out.refl _ _, rfl, rfl, trivial⟩, Step.refl _ _, hs297, (show InK .i64 0 from by decide), hm⟩ ?_ ?_
 rintro _ _ ⟨_, _, _, _, _, _, _, hm⟩; exact loop1_z hm
 rintro m304 K303 hK303 ρ309 w305 ⟨i_2, Ebs, hEbs, hfr308, hst307, hs306, Rz, hm⟩
 obtain ⟨sf301, hsf302, hm⟩ := loop1_s hm; unfold m95_overflightref37_less_B1 at hm
 subst hEbs; rw [hfr308.eq]; clear hfr308
 replace Fc := Fc.step hst307; replace Ff := Ff.step hst307; replace Fg := Fg.step hst307; replace ch26 := ch26.trans hst307
 have ch310 := hst307
 refine Wp1 (Wp1 (Wm1 ?_))
 refine Rk1 rfl (ol1 (v := (Value.int .i64 i_2)) rfl ?_)
 refine Rk1 rfl (ol1 (v := (Value.slice Ac group.length Cc)) rfl ?_)
 refine Rk1 rfl (op_len Try.underlying22 rfl ?_)
 have rl311 := inK_len Fc
 refine Rk1 rfl (op_lss rfl rfl ?_)
 refine Rq1 ?_
 refine Wy1 rfl (fun hc312 => ?_) (fun hc312 => ?_)
 replace hm := bif_t hm hc312
 refine Wx1 (Wp1 (Wf2 (Wp1 ?_)))
 refine Wp_drawR (g0 := []) (m := 14) (fl := []) (TS_inv hs306) rfl (.inl rfl) rfl (by decide +kernel) ?_  -- 9
 refine Du1 (Value.slice Ag now_1.length Cg) (fun ρ313 w314 g hle hi ht => ?_) ?_
 obtain ⟨-, hst, -⟩ := hle
 refine So1 (ol1 (v := (Value.slice Ag now_1.length Cg)) (ht 11 rfl) ?_)
 exact Goes.same hi rfl
 refine Du1 (Value.slice Ac group.length Cc) (fun ρ316 w317 g hle hi ht => ?_) ?_
 obtain ⟨-, hst, -⟩ := hle
 refine So1 (ol1 (v := (Value.slice Ac group.length Cc)) (ht 1 rfl) ?_)
 exact Goes.same hi rfl
 refine Du1 (Value.int .i64 i_2) (fun ρ319 w320 g hle hi ht => ?_) ?_
 obtain ⟨-, hst, -⟩ := hle
 refine So1 (ol1 (v := (Value.int .i64 i_2)) (ht 13 rfl) ?_)
 exact Goes.same hi rfl
 replace hm := ck_some hm; obtain ⟨hc325, hm⟩ := hm
 refine Dw_op (VP O [(k_g14, o_g14)] (rInt .i64) (group.getD i_2.toNat default)) (VP.stab _ _) (fun ρ322 w323 g hle hi ht => ?_) ?_
 obtain ⟨-, hst, -⟩ := hle
 replace Fc := Fc.step hst
 refine So1 (ow1 (q := (rInt .i64)) ty22 ty3 (ht 64 rfl) (ht 65 rfl) Fc rfl hc325.1 hc325.2 ?_)
 intro p326 f327
 exact Goes.same hi ⟨_, rfl, f327⟩
 refine Dw_op (VD O [(k_g14, o_g14)] (vI .i64) (group.getD i_2.toNat default)) (VD.stab _ _) (fun ρ328 w329 g hle hi ht => ?_) ?_
 obtain ⟨-, hst, -⟩ := hle
 obtain ⟨p331, q332, f333⟩ := ht 66 rfl
 refine So1 (oz1 ty3 q332 f333 rfl ?_)
 intro v334 h335
 obtain ⟨rfl, Ra1⟩ := un_int h335
 exact Goes.same hi (show Vr.vd (vI .i64) _ _ _ _ from ⟨rfl, Ra1⟩)
 replace hm := ck_some hm; obtain ⟨hc343, hm⟩ := hm
 obtain ⟨b344, rfl, rfl⟩ := Fg.at_ (by omega)
 refine Du1 (Value.pointer (some ⟨b344, (group.getD i_2.toNat default).toNat * 1, none⟩)) (fun ρ337 w338 g hle hi ht => ?_) ?_
 obtain ⟨-, hst, -⟩ := hle
 replace Fg := Fg.step hst
 have h340 : Vr.vd (vI .i64) _ _ _ _ := ht 67 rfl
 obtain ⟨q341, Rb1⟩ := h340
 refine So1 (op_indexAddrG ty22 ty3 (ht 63 rfl) q341 Fg hc343 ?_)
 rintro _ ⟨⟩ -
 exact Goes.same hi rfl
 refine Dw_op (VD O [(some b344, o_g14)] (vI .i64) (now_1.getD (group.getD i_2.toNat default).toNat default)) (VD.stab _ _) (fun ρ345 w346 g hle hi ht => ?_) ?_
 obtain ⟨-, hst, -⟩ := hle
 replace Fg := Fg.step hst
 have hsn := (Step.nx hi).1
 refine So1 (op_loadG (m := (group.getD i_2.toNat default)) (i := 0) ty3 rfl hsn rfl (ht 68 rfl) Fg hc343 ?_)
 intro v348 h349
 obtain ⟨rfl, Rc1⟩ := un_int h349
 exact Goes.same hi (show Vr.vd (vI .i64) _ _ _ _ from ⟨rfl, Rc1⟩)
 refine Du1 (Value.slice Af than.length Cf) (fun ρ351 w352 g hle hi ht => ?_) ?_
 obtain ⟨-, hst, -⟩ := hle
 refine So1 (ol1 (v := (Value.slice Af than.length Cf)) (ht 4 rfl) ?_)
 exact Goes.same hi rfl
 refine Du1 (Value.slice Ac group.length Cc) (fun ρ354 w355 g hle hi ht => ?_) ?_
 obtain ⟨-, hst, -⟩ := hle
 refine So1 (ol1 (v := (Value.slice Ac group.length Cc)) (ht 1 rfl) ?_)
 exact Goes.same hi rfl
 refine Du1 (Value.int .i64 i_2) (fun ρ357 w358 g hle hi ht => ?_) ?_
 obtain ⟨-, hst, -⟩ := hle
 refine So1 (ol1 (v := (Value.int .i64 i_2)) (ht 13 rfl) ?_)
 exact Goes.same hi rfl
 replace hm := ck_some hm; obtain ⟨hc363, hm⟩ := hm
 refine Dw_op (VP O [(some b344, o_g14)] (rInt .i64) (group.getD i_2.toNat default)) (VP.stab _ _) (fun ρ360 w361 g hle hi ht => ?_) ?_
 obtain ⟨-, hst, -⟩ := hle
 replace Fc := Fc.step hst
 refine So1 (ow1 (q := (rInt .i64)) ty22 ty3 (ht 71 rfl) (ht 72 rfl) Fc rfl hc363.1 hc363.2 ?_)
 intro p364 f365
 exact Goes.same hi ⟨_, rfl, f365⟩
 refine Dw_op (VD O [(some b344, o_g14)] (vI .i64) (group.getD i_2.toNat default)) (VD.stab _ _) (fun ρ366 w367 g hle hi ht => ?_) ?_
 obtain ⟨-, hst, -⟩ := hle
 obtain ⟨p369, q370, f371⟩ := ht 73 rfl
 refine So1 (oz1 ty3 q370 f371 rfl ?_)
 intro v372 h373
 obtain ⟨rfl, Rd1⟩ := un_int h373
 exact Goes.same hi (show Vr.vd (vI .i64) _ _ _ _ from ⟨rfl, Rd1⟩)
 replace hm := ck_some hm; obtain ⟨hc381, hm⟩ := hm
 refine Dw_op (VP O [(some b344, o_g14)] (rInt .i64) (than.getD (group.getD i_2.toNat default).toNat default)) (VP.stab _ _) (fun ρ375 w376 g hle hi ht => ?_) ?_
 obtain ⟨-, hst, -⟩ := hle
 replace Ff := Ff.step hst
 have h378 : Vr.vd (vI .i64) _ _ _ _ := ht 74 rfl
 obtain ⟨q379, Re1⟩ := h378
 refine So1 (ow1 (q := (rInt .i64)) ty22 ty3 (ht 70 rfl) q379 Ff rfl hc381.1 hc381.2 ?_)
 intro p382 f383
 exact Goes.same hi ⟨_, rfl, f383⟩
 refine Dw_op (VD O [(some b344, o_g14)] (vI .i64) (than.getD (group.getD i_2.toNat default).toNat default)) (VD.stab _ _) (fun ρ384 w385 g hle hi ht => ?_) ?_
 obtain ⟨-, hst, -⟩ := hle
 obtain ⟨p387, q388, f389⟩ := ht 75 rfl
 refine So1 (oz1 ty3 q388 f389 rfl ?_)
 intro v390 h391
 obtain ⟨rfl, Rf1⟩ := un_int h391
 exact Goes.same hi (show Vr.vd (vI .i64) _ _ _ _ from ⟨rfl, Rf1⟩)
 refine Dw_nil fun w397 g398 hl399 hi400 => ?_
 obtain ⟨-, hst401, -⟩ := hl399
 obtain ⟨hs403, p402⟩ := Step.nx hi400
 rintro v404 h405
 replace h405 : Vr.vd (vI .i64) _ _ _ _ := h405
 obtain ⟨rfl, Rg1⟩ := h405
 rintro _ ⟨p407, rfl, f408⟩
 rintro v409 h410
 replace h410 : Vr.vd (vI .i64) _ _ _ _ := h410
 obtain ⟨rfl, Rh1⟩ := h410
 rintro _ ⟨p412, rfl, f413⟩
 rintro _ rfl
 rintro _ rfl
 rintro _ rfl
 rintro v414 h415
 replace h415 : Vr.vd (vI .i64) _ _ _ _ := h415
 obtain ⟨rfl, Ri1⟩ := h415
 rintro _ rfl
 rintro v417 h418
 replace h418 : Vr.vd (vI .i64) _ _ _ _ := h418
 obtain ⟨rfl, Rj1⟩ := h418
 rintro _ ⟨p420, rfl, f421⟩
 rintro _ rfl
 rintro _ rfl
 rintro _ rfl
 have p422 : Step (ks [(some b344, o_g14)] O) w305 (ks [(some b344, o_g14)] O) w397 := hst401.trans p402
 replace f408 := f408.step p402; replace f413 := f413.step p402; replace f421 := f421.step p402; replace Fc := Fc.step p422; replace Ff := Ff.step p422; replace Fg := Fg.step p422; replace ch26 := ch26.trans p422; replace ch310 := ch310.trans p422; clear p422 hs306
 refine Rk1 rfl (op_geq rfl rfl ?_)
 refine Rq1 ?_
 refine Wy1 rfl (fun hc423 => ?_) (fun hc423 => ?_)
 replace hm := bif_t hm hc423
 refine Wp1 ?_
 clear Fc Ff Fg f408 f413 f421
 refine Wm1 ?_
 refine Rk1 rfl (on1 (v := (Value.bool false)) rfl ?_)
 refine Rq1 ?_
 refine Wa2 ?_
 have hz := step_all hs403
 refine ⟨_, (show Closes [] _ _ from rfl), [(Value.bool false)], ⟨rfl, trivial⟩, hs403.ext, ?_⟩
 exact Vr.eq (a := vB) (x := false) rfl (Option.some.inj hm)
 replace hm := bif_f hm hc423
 refine Wx1 ?_
 clear f408 f413 f421
 refine Wm1 ?_
 refine Rk1 rfl (ol1 (v := (Value.int .i64 i_2)) rfl ?_)
 refine Rk1 rfl (op_addw rfl rfl ?_)
 refine Rk1 rfl (on1 (v := (Value.int .i64 (IntKind.wrap .i64 (i_2 + 1)))) rfl ?_)
 refine Rq1 ?_
 exact hK303 _ _ ⟨(IntKind.wrap .i64 (i_2 + 1)), _, rfl, ⟨(by repeat (first | with_reducible exact Out.refl _ _ | refine Out.upd ?_ rfl | refine Out.updL ?_ rfl | refine Out.mix' ?_ rfl | exact Out.refl _ _)), rfl, rfl, trivial⟩, ch310, hs403, (inK_wrap .i64 _), jnE1 hsf302 hm⟩
 replace hm := bif_f hm hc312
 refine Wp_exit (Wp1 ?_)
 obtain ⟨hs424, p425⟩ := hs306.sub (bs' := []) (.cons _ List.Sublist.slnil)
 clear Fc Ff Fg
 replace ch26 := ch26.trans p425; replace ch310 := ch310.trans p425; clear p425 hs306
 refine Wm1 ?_
 refine Rk1 rfl (on1 (v := (Value.bool true)) rfl ?_)
 refine Rq1 ?_
 refine Wa2 ?_
 have hz := step_all hs424
 refine ⟨_, (show Closes [] _ _ from rfl), [(Value.bool true)], ⟨rfl, trivial⟩, hs424.ext, ?_⟩
 exact Vr.eq (a := vB) (x := true) rfl (Option.some.inj hm)

def m86_overflightref37_search_B0 (rec_ : XRound → (List Int) → (List Int) → (List Int) → (List Int) → Option ((List Int) × Bool)) (r_ : XRound) (group : List Int) (flights : List Int) (begin : List Int) (than : List Int) (sf19 : Int → Option ((List Int) × Bool)) (i_1 : Int) : Option ((List Int) × Bool) :=
 bif (decide (i_1 < (flights.length : Int))) then
  ck ((0 : Int) ≤ i_1 ∧ i_1 < (flights.length : Int)) <|
  jn (fun (v_1 : Bool) =>
   bif v_1 then
    sf19 (IntKind.wrap .i64 (i_1 + 1))
   else
    ck ((([] : List Int).length + begin.length) * 8 ≤ 140737488355328) <|
    ck (((([] : List Int) ++ begin).length + [(flights.getD i_1.toNat default)].length) * 8 ≤ 140737488355328) <|
    (rec_ r_ group flights ((([] : List Int) ++ begin) ++ [(flights.getD i_1.toNat default)]) than).bind fun r_1 =>
    bif r_1.2 then
     some (r_1.1, true)
    else
     sf19 (IntKind.wrap .i64 (i_1 + 1)))
  (fun k39 =>
   (m84_overflightref37_has begin (flights.getD i_1.toNat default)).bind fun has_1 =>
   bif has_1 then
    k39 true
   else
    ck ((0 : Int) ≤ (begin.length : Int) ∧ (begin.length : Int) < (flights.length : Int)) <|
    ck ((0 : Int) ≤ (flights.getD begin.length default) ∧ (flights.getD begin.length default) < (r_.costs.length : Int)) <|
    ck ((0 : Int) ≤ (flights.getD i_1.toNat default) ∧ (flights.getD i_1.toNat default) < ((r_.costs.getD (flights.getD begin.length default).toNat default).length : Int)) <|
    k39 (decide (((r_.costs.getD (flights.getD begin.length default).toNat default).getD (flights.getD i_1.toNat default).toNat default) < 0)))
 else
  some (([] : List Int), false)

def m86_overflightref37_search_F (rec_ : XRound → (List Int) → (List Int) → (List Int) → (List Int) → Option ((List Int) × Bool)) (r_ : XRound) (group : List Int) (flights : List Int) (begin : List Int) (than : List Int) : Option ((List Int) × Bool) :=
 bif (decide ((begin.length : Int) = (flights.length : Int))) then
  (m95_overflightref37_less r_ group flights begin than).bind fun less_1 =>
  some (begin, less_1)
 else
  loop1 (m86_overflightref37_search_B0 rec_ r_ group flights begin than) (((flights.length : Int) - 0).toNat + 1) 0
def m86_overflightref37_search_N : Nat → XRound → (List Int) → (List Int) → (List Int) → (List Int) → Option ((List Int) × Bool)
 | 0 => fun _ _ _ _ _ => none
 | n_ + 1 => m86_overflightref37_search_F (m86_overflightref37_search_N n_)
def m86_overflightref37_search (r_ : XRound) (group : List Int) (flights : List Int) (begin : List Int) (than : List Int) : Option ((List Int) × Bool) := m86_overflightref37_search_N 1000000 r_ group flights begin than

theorem c86_overflightref37_search_N : ∀ (n_ : Nat) {w : World} {O : List Nat} {r_ : XRound} {group : List Int} {flights : List Int} {begin : List Int} {than : List Int} {Aa : Option Addr} {Ca : Nat} {Ab : Option Addr} {Cb : Nat} {Ac : Option Addr} {Cc : Nat} {Ad : Option Addr} {Cd : Nat} {Ae : Option Addr} {Ce : Nat} {Af : Option Addr} {Cf : Nat} (hO : ∀ k ∈ O, k < w.heap.size) (Ra : InK .i64 r_.slots) (Fa : SlR (rInt .i64) w O Aa Ca r_.owners) (Fb : SlR (rSl (rInt .i64)) w O Ab Cb r_.costs) (Fc : SlR (rInt .i64) w O Ac Cc group) (Fd : SlR (rInt .i64) w O Ad Cd flights) (Fe : SlR (rInt .i64) w O Ae Ce begin) (Ff : SlR (rInt .i64) w O Af Cf than) {x : (List Int) × Bool} (hm : m86_overflightref37_search_N n_ r_ group flights begin than = some x),
 Ok Try.prog 86 [(Value.agg [(Value.int .i64 r_.slots), (Value.slice Aa r_.owners.length Ca), (Value.slice Ab r_.costs.length Cb)].toArray), (Value.slice Ac group.length Cc), (Value.slice Ad flights.length Cd), (Value.slice Ae begin.length Ce), (Value.slice Af than.length Cf)] w O (vT2 (vC (rSl (rInt .i64))) vB) x := by
 intro n_
 induction n_ with
 | zero => intros; rename_i hm; exact absurd hm (by simp [m86_overflightref37_search_N])
 | succ n_ ih =>
  intro w O r_ group flights begin than Aa Ca Ab Cb Ac Cc Ad Cd Ae Ce Af Cf hO Ra Fa Fb Fc Fd Fe Ff x hm
  replace hm : m86_overflightref37_search_F (m86_overflightref37_search_N n_) r_ group flights begin than = some x := hm
  generalize m86_overflightref37_search_N n_ = rec_ at hm ih
  unfold m86_overflightref37_search_F at hm
  refine Fn_of_Wp (n := 73) (xs := [.tmp 10, .tmp 11]) Try.func86 rfl Try.ntmps86 Try.results86 rfl ?_
  have hs := St.start hO
  refine Wp1 (Wm1 ?_)
  refine Rk1 rfl (op_box (cs := [(Value.int .i64 r_.slots), (Value.slice Aa r_.owners.length Ca), (Value.slice Ab r_.costs.length Cb)]) hs rfl rfl ?_)
  intro b1 w2 _ p3 hs4
  replace Fa := Fa.step p3; replace Fb := Fb.step p3; replace Fc := Fc.step p3; replace Fd := Fd.step p3; replace Fe := Fe.step p3; replace Ff := Ff.step p3; clear p3
  refine Rk1 rfl (on1 (v := (Value.slice none 0 0)) rfl ?_)
  refine Rk1 rfl (on1 (v := (Value.bool false)) rfl ?_)
  refine Rq1 (Wp1 (Wm1 ?_))
  refine Rk1 rfl (ol1 (v := (Value.slice Ae begin.length Ce)) rfl ?_)
  refine Rk1 rfl (op_len Try.underlying22 rfl ?_)
  have rl6 := inK_len Fe
  refine Rk1 rfl (on1 (v := (Value.int .i64 (begin.length : Int))) rfl ?_)
  refine Rq1 (Wp1 (Wp1 (Wm1 ?_)))
  refine Rk1 rfl (ol1 (v := (Value.int .i64 (begin.length : Int))) rfl ?_)
  refine Rk1 rfl (ol1 (v := (Value.slice Ad flights.length Cd)) rfl ?_)
  refine Rk1 rfl (op_len Try.underlying22 rfl ?_)
  have rl7 := inK_len Fd
  refine Rk1 rfl (op_eql rfl rfl ?_)
  refine Rq1 ?_
  refine Wy1 rfl (fun hc8 => ?_) (fun hc8 => ?_)
  replace hm := bif_t hm hc8
  refine Wp1 (Wm1 ?_)
  refine Rk1 rfl (ol1 (v := (Value.slice Ae begin.length Ce)) rfl ?_)
  refine Rk1 rfl (op_loadA (cs := [(Value.int .i64 r_.slots), (Value.slice Aa r_.owners.length Ca), (Value.slice Ab r_.costs.length Cb)]) (vs := [(Value.int .i64 r_.slots), (Value.slice Aa r_.owners.length Ca), (Value.slice Ab r_.costs.length Cb)]) (i := 0) ty25 hs4 rfl rfl rfl rfl ?_)
  refine Rk1 rfl (ol1 (v := (Value.slice Ac group.length Cc)) rfl ?_)
  refine Rk1 rfl (ol1 (v := (Value.slice Ad flights.length Cd)) rfl ?_)
  refine Rk1 rfl (ol1 (v := (Value.slice Ae begin.length Ce)) rfl ?_)
  refine Rk1 rfl (ol1 (v := (Value.slice Af than.length Cf)) rfl ?_)
  replace hm := bd hm; obtain ⟨less_1, hv9, hm⟩ := hm
  refine Rk1 rfl (ob2 Try.call95 (c95_overflightref37_less (r_ := r_) (group := group) (flights := flights) (slots := begin) (than := than) hs4.ltw Ra Fa Fb Fc Fd Fe Ff hv9) rfl ?_)
  rintro v10 w11 ⟨hx12, h13⟩
  have hs14 := hs4.call hx12
  have p15 := Step.ext (O := ks [(some b1, Obj.cells [(Value.int .i64 r_.slots), (Value.slice Aa r_.owners.length Ca), (Value.slice Ab r_.costs.length Cb)].toArray 25)] O) hx12
  clear hx12
  replace Fa := Fa.step p15; replace Fb := Fb.step p15; replace Fc := Fc.step p15; replace Fd := Fd.step p15; replace Fe := Fe.step p15; replace Ff := Ff.step p15; clear p15 hs4
  obtain rfl := h13
  refine Rk1 rfl (on1 (v := (Value.slice Ae begin.length Ce)) rfl ?_)
  refine Rk1 rfl (on1 (v := (Value.bool less_1)) rfl ?_)
  refine Rq1 ?_
  refine Wa2 ?_
  have hz := step_all hs14
  replace Fa := Fa.step hz; replace Fb := Fb.step hz; replace Fc := Fc.step hz; replace Fd := Fd.step hz; replace Fe := Fe.step hz; replace Ff := Ff.step hz
  refine ⟨_, (show Closes [] _ _ from rfl), [(Value.slice Ae begin.length Ce), (Value.bool less_1)], ⟨rfl, rfl, trivial⟩, hs14.ext, ?_⟩
  exact Vr.eq (a := (vT2 (vC (rSl (rInt .i64))) vB)) (x := (begin, less_1)) (mkT2 (mkC (mk_sl Fe)) rfl) (Option.some.inj hm)
  replace hm := bif_f hm hc8
  refine Wx1 (Wp1 (Wp1 (Wm1 ?_)))
  refine Rk1 rfl (on1 (v := (Value.int .i64 0)) rfl ?_)
  refine Rq1 (Wf2 ?_)
  refine Wp_reset [] [(1, (Value.slice Ac group.length Cc)), (2, (Value.slice Ad flights.length Cd)), (3, (Value.slice Ae begin.length Ce)), (4, (Value.slice Af than.length Cf)), (5, (Value.pointer (some ⟨b1, 0, none⟩))), (12, (Value.int .i64 (begin.length : Int))), (13, (Value.int .i64 0))] rfl ⟨rfl, rfl, rfl, rfl, rfl, rfl, rfl, trivial⟩ fun ξ18 => ?_
  refine Wp_loopM [10, 11, 13, 14, 15, 16, 30, 31, 32, 33, 34, 35, 36, 37, 38, 39, 40, 41, 42, 43, 44, 45, 46, 47, 48, 49, 50, 51, 52, 53, 54, 55, 56, 57, 58, 59, 60, 61, 62, 63, 64, 65, 66, 67, 68, 69, 70, 71, 72] (fun m fr w' => ∃ (i_1 : Int) (Ebs : Ents), Ebs = [(some b1, Obj.cells [(Value.int .i64 r_.slots), (Value.slice Aa r_.owners.length Ca), (Value.slice Ab r_.costs.length Cb)].toArray 25)] ∧ fr [] [(13, (Value.int .i64 i_1))] ∧ Step (ks [(some b1, Obj.cells [(Value.int .i64 r_.slots), (Value.slice Aa r_.owners.length Ca), (Value.slice Ab r_.costs.length Cb)].toArray 25)] O) w2 (ks Ebs O) w' ∧ St ⟨w, [], []⟩ O w' Ebs ∧ InK .i64 i_1 ∧ loop1 (m86_overflightref37_search_B0 rec_ r_ group flights begin than) m i_1 = some x) (((flights.length : Int) - 0).toNat + 1) ⟨0, _, rfl, ⟨Out.refl _ _, rfl, rfl, trivial⟩, Step.refl _ _, hs4, (show InK .i64 0 from by decide), hm⟩ ?_ ?_
  rintro _ _ ⟨_, _, _, _, _, _, _, hm⟩; exact loop1_z hm
  rintro m22 K21 hK21 ρ27 w23 ⟨i_1, Ebs, hEbs, hfr26, hst25, hs24, Rb, hm⟩
  obtain ⟨sf19, hsf20, hm⟩ := loop1_s hm; unfold m86_overflightref37_search_B0 at hm
  subst hEbs; rw [hfr26.eq]; clear hfr26
  replace Fa := Fa.step hst25; replace Fb := Fb.step hst25; replace Fc := Fc.step hst25; replace Fd := Fd.step hst25; replace Fe := Fe.step hst25; replace Ff := Ff.step hst25
  have ch28 := hst25
  refine Wp1 (Wp1 (Wm1 ?_))
  refine Rk1 rfl (ol1 (v := (Value.int .i64 i_1)) rfl ?_)
  refine Rk1 rfl (ol1 (v := (Value.slice Ad flights.length Cd)) rfl ?_)
  refine Rk1 rfl (op_len Try.underlying22 rfl ?_)
  have rl29 := inK_len Fd
  refine Rk1 rfl (op_lss rfl rfl ?_)
  refine Rq1 ?_
  refine Wy1 rfl (fun hc30 => ?_) (fun hc30 => ?_)
  replace hm := bif_t hm hc30
  refine Wx1 (Wp1 (Wf2 (Wp1 (Wm1 ?_))))
  refine Rk1 rfl (ol1 (v := (Value.slice Ad flights.length Cd)) rfl ?_)
  refine Rk1 rfl (ol1 (v := (Value.int .i64 i_1)) rfl ?_)
  replace hm := ck_some hm; obtain ⟨hc31, hm⟩ := hm
  refine Rk1 rfl (ow1 (q := (rInt .i64)) ty22 ty3 rfl rfl Fd rfl hc31.1 hc31.2 ?_)
  intro p32 f33
  refine Rk1 rfl (oz1 ty3 rfl f33 rfl ?_)
  intro v34 h35
  obtain ⟨rfl, Rc⟩ := un_int h35
  refine Rk1 rfl (on1 (v := (Value.int .i64 (flights.getD i_1.toNat default))) rfl ?_)
  refine Rq1 (Wp1 ?_)
  refine Wp_reset2 [10, 11, 13, 14, 15, 16, 30, 31, 32, 33, 34, 35, 36, 37, 38, 39, 40, 41, 42, 43, 44, 45, 46, 47, 48, 49, 50, 51, 52, 53, 54, 55, 56, 57, 58, 59, 60, 61, 62, 63, 64, 65, 66, 67, 68, 69, 70, 71, 72] [] (updL ⟨ξ18, []⟩ [(1, (Value.slice Ac group.length Cc)), (2, (Value.slice Ad flights.length Cd)), (3, (Value.slice Ae begin.length Ce)), (4, (Value.slice Af than.length Cf)), (5, (Value.pointer (some ⟨b1, 0, none⟩))), (12, (Value.int .i64 (begin.length : Int))), (13, (Value.int .i64 0))]) [(13, (Value.int .i64 i_1)), (14, (Value.int .i64 (flights.getD i_1.toNat default)))] (by repeat (first | with_reducible exact Out.refl _ _ | refine Out.upd ?_ rfl | refine Out.updL ?_ rfl | refine Out.mix' ?_ rfl | exact Out.refl _ _)) rfl ⟨rfl, rfl, trivial⟩ fun ξ37 => ?_
  replace hm := jn_elim hm; obtain ⟨k39, hk40, hm⟩ := hm
  refine Wp_seqJ [40, 41, 42, 43, 44, 45, 46, 47, 48, 49, 50, 51, 52, 53, 54, 55, 56] (fun fr w' => ∃ (v_1 : Bool) (Ebs : Ents), Ebs = [(some b1, Obj.cells [(Value.int .i64 r_.slots), (Value.slice Aa r_.owners.length Ca), (Value.slice Ab r_.costs.length Cb)].toArray 25)] ∧ fr [] [(56, (Value.bool v_1))] ∧ Step (ks [(some b1, Obj.cells [(Value.int .i64 r_.slots), (Value.slice Aa r_.owners.length Ca), (Value.slice Ab r_.costs.length Cb)].toArray 25)] O) w23 (ks Ebs O) w' ∧ St ⟨w, [], []⟩ O w' Ebs ∧ k39 v_1 = some x) ?_ ?_
  rintro ρ46 w42 ⟨v_1, Ebs, hEbs, hfr45, hst44, hs43, hm⟩
  replace hm := jnE1 hk40 hm
  subst hEbs; rw [hfr45.eq]; clear hfr45
  replace Fa := Fa.step hst44; replace Fb := Fb.step hst44; replace Fc := Fc.step hst44; replace Fd := Fd.step hst44; replace Fe := Fe.step hst44; replace Ff := Ff.step hst44; replace f33 := f33.step hst44; replace ch28 := ch28.trans hst44; clear hst44 hs24
  refine Wy1 rfl (fun hc47 => ?_) (fun hc47 => ?_)
  replace hm := bif_t hm hc47
  refine Wp_exit ?_
  clear f33
  refine Wm1 ?_
  refine Rk1 rfl (ol1 (v := (Value.int .i64 i_1)) rfl ?_)
  refine Rk1 rfl (op_addw rfl rfl ?_)
  refine Rk1 rfl (on1 (v := (Value.int .i64 (IntKind.wrap .i64 (i_1 + 1)))) rfl ?_)
  refine Rq1 ?_
  exact hK21 _ _ ⟨(IntKind.wrap .i64 (i_1 + 1)), _, rfl, ⟨(by repeat (first | with_reducible exact Out.refl _ _ | refine Out.upd ?_ rfl | refine Out.updL ?_ rfl | refine Out.mix' ?_ rfl | exact Out.refl _ _)), rfl, rfl, trivial⟩, ch28, hs43, (inK_wrap .i64 _), jnE1 hsf20 hm⟩
  replace hm := bif_f hm hc47
  refine Wx1 (Wp1 ?_)
  clear f33
  refine Wp_drawR (g0 := ([], [])) (m := 14) (fl := [13]) (TX_inv (eat := (fun t : Nat => if t = 3 then 5 else if t = 5 then 8 else if t = 8 then 10 else 1000)) hs43) rfl (.inl rfl) rfl (by decide +kernel) ?_  -- 9
  refine Du1 (Value.agg [(Value.int .i64 r_.slots), (Value.slice Aa r_.owners.length Ca), (Value.slice Ab r_.costs.length Cb)].toArray) (fun ρ48 w49 g hle hi ht => ?_) ?_
  obtain ⟨-, hst, -⟩ := hle
  obtain ⟨hi, hi2⟩ := hi
  have hsn := (Step.nxX hi).1
  refine So1 (op_loadA (cs := [(Value.int .i64 r_.slots), (Value.slice Aa r_.owners.length Ca), (Value.slice Ab r_.costs.length Cb)]) (vs := [(Value.int .i64 r_.slots), (Value.slice Aa r_.owners.length Ca), (Value.slice Ab r_.costs.length Cb)]) (i := 0) ty25 hsn (ht 5 rfl) rfl rfl rfl ?_)
  exact GoesX.same hi hi2 rfl
  refine Du1 (Value.slice Ac group.length Cc) (fun ρ51 w52 g hle hi ht => ?_) ?_
  obtain ⟨-, hst, -⟩ := hle
  obtain ⟨hi, hi2⟩ := hi
  refine So1 (ol1 (v := (Value.slice Ac group.length Cc)) (ht 1 rfl) ?_)
  exact GoesX.same hi hi2 rfl
  refine Du1 (Value.slice Ad flights.length Cd) (fun ρ54 w55 g hle hi ht => ?_) ?_
  obtain ⟨-, hst, -⟩ := hle
  obtain ⟨hi, hi2⟩ := hi
  refine So1 (ol1 (v := (Value.slice Ad flights.length Cd)) (ht 2 rfl) ?_)
  exact GoesX.same hi hi2 rfl
  refine Dw_opN (XG O [(some b1, Obj.cells [(Value.int .i64 r_.slots), (Value.slice Aa r_.owners.length Ca), (Value.slice Ab r_.costs.length Cb)].toArray 25)] (fun t : Nat => if t = 3 then 5 else if t = 5 then 8 else if t = 8 then 10 else 1000) 3 (rInt .i64) 3 ([] : List Int)) (XG.stab _ _ _ _) (fun ρ57 w58 g hle hi hk ht => ?_) ?_
  obtain ⟨-, hst, -⟩ := hle
  obtain ⟨hi, hi2⟩ := hi
  replace Fa := Fa.step hst; replace Fb := Fb.step hst; replace Fc := Fc.step hst; replace Fd := Fd.step hst; replace Fe := Fe.step hst; replace Ff := Ff.step hst
  refine So1 (og2 (cs := []) (parts := []) ty22 ty3 hi (by decide) (by simp only [List.map]; rfl) ?_)
  intro b60 w61 hx64 p62 hs63
  replace Fa := Fa.step p62; replace Fb := Fb.step p62; replace Fc := Fc.step p62; replace Fd := Fd.step p62; replace Fe := Fe.step p62; replace Ff := Ff.step p62
  exact GoesX.own (xs := ([] : List Int)) hi2 p62 hs63 (Gs.of_cells (p := (rInt .i64)) (e := 3) (bl := b60) (c := 0) (show Els (rInt .i64) _ _ [] [] from Els.nil) rfl (le_lit rfl)) rfl
  refine Du1 (Value.slice Ae begin.length Ce) (fun ρ67 w68 g hle hi ht => ?_) ?_
  obtain ⟨-, hst, -⟩ := hle
  obtain ⟨hi, hi2⟩ := hi
  refine So1 (ol1 (v := (Value.slice Ae begin.length Ce)) (ht 3 rfl) ?_)
  exact GoesX.same hi hi2 rfl
  replace hm := ck_some hm; obtain ⟨hc73, hm⟩ := hm
  refine Dw_opN (XG O [(some b1, Obj.cells [(Value.int .i64 r_.slots), (Value.slice Aa r_.owners.length Ca), (Value.slice Ab r_.costs.length Cb)].toArray 25)] (fun t : Nat => if t = 3 then 5 else if t = 5 then 8 else if t = 8 then 10 else 1000) 5 (rInt .i64) 3 (([] : List Int) ++ begin)) (XG.stab _ _ _ _) (fun ρ70 w71 g hle hi hk ht => ?_) ?_
  obtain ⟨-, hst, -⟩ := hle
  obtain ⟨hi, hi2⟩ := hi
  replace Fe := Fe.step hst
  obtain ⟨ns74, he75, hr76⟩ := Fe.src
  refine So1 (op_appendX (q := (rInt .i64)) (xs := ([] : List Int)) (ys := begin) (news := ns74) (tag := 3) ty22 ty3 rfl (by decide) hi hi2 hk rfl (le_lit rfl) (ht 61 rfl) (ht 62 rfl) hr76 he75 hc73 (by have := hc73; simp only [maxLen]; omega))
  refine Du1 (Value.int .i64 (flights.getD i_1.toNat default)) (fun ρ77 w78 g hle hi ht => ?_) ?_
  obtain ⟨-, hst, -⟩ := hle
  obtain ⟨hi, hi2⟩ := hi
  refine So1 (ol1 (v := (Value.int .i64 (flights.getD i_1.toNat default))) (ht 14 rfl) ?_)
  exact GoesX.same hi hi2 rfl
  refine Dw_op (XD O [(some b1, Obj.cells [(Value.int .i64 r_.slots), (Value.slice Aa r_.owners.length Ca), (Value.slice Ab r_.costs.length Cb)].toArray 25)] (vC (rSl (rInt .i64))) [(flights.getD i_1.toNat default)]) (XD.stab _ _) (fun ρ80 w81 g hle hi ht => ?_) ?_
  obtain ⟨-, hst, -⟩ := hle
  obtain ⟨hi, hi2⟩ := hi
  replace Fa := Fa.step hst; replace Fb := Fb.step hst; replace Fc := Fc.step hst; replace Fd := Fd.step hst; replace Fe := Fe.step hst; replace Ff := Ff.step hst
  refine So1 (og2 (cs := [(Value.int .i64 (flights.getD i_1.toNat default))]) (parts := [(0, .tmp 64)]) ty22 ty3 hi (by decide) (by simp only [List.map, (show ev _ (.tmp 64) = _ from (ht 64 rfl))]; rfl) ?_)
  intro b83 w84 hx87 p85 hs86
  replace Fa := Fa.step p85; replace Fb := Fb.step p85; replace Fc := Fc.step p85; replace Fd := Fd.step p85; replace Fe := Fe.step p85; replace Ff := Ff.step p85
  obtain ⟨hs89, p90, f91⟩ := St.publish (q := (rInt .i64)) (i := 0) (o := 0) (c := 1) (xs := [(flights.getD i_1.toNat default)]) hs86 rfl (show Els (rInt .i64) _ _ [(Value.int .i64 (flights.getD i_1.toNat default))] [(flights.getD i_1.toNat default)] from ⟨_, _, rfl, (mk_int Rc), Els.nil⟩) (le_lit rfl) (le_lit rfl) (le_lit rfl)
  exact GoesX.pub hi hi2 hs89 (Step.trans p85 p90) hx87 (show Vr.vd (vC (rSl (rInt .i64))) _ _ _ _ from mkC (mk_sl f91))
  replace hm := ck_some hm; obtain ⟨hc98, hm⟩ := hm
  refine Dw_opN (XG O [(some b1, Obj.cells [(Value.int .i64 r_.slots), (Value.slice Aa r_.owners.length Ca), (Value.slice Ab r_.costs.length Cb)].toArray 25)] (fun t : Nat => if t = 3 then 5 else if t = 5 then 8 else if t = 8 then 10 else 1000) 8 (rInt .i64) 3 ((([] : List Int) ++ begin) ++ [(flights.getD i_1.toNat default)])) (XG.stab _ _ _ _) (fun ρ92 w93 g hle hi hk ht => ?_) ?_
  obtain ⟨-, hst, -⟩ := hle
  obtain ⟨hi, hi2⟩ := hi
  have h95 : Vr.vd (vC (rSl (rInt .i64))) _ _ _ _ := ht 65 rfl
  obtain ⟨Ag, Cg, q96, Fg⟩ := un_sl h95
  obtain ⟨ns99, he100, hr101⟩ := Fg.src
  refine So1 (op_appendX (q := (rInt .i64)) (xs := (([] : List Int) ++ begin)) (ys := [(flights.getD i_1.toNat default)]) (news := ns99) (tag := 5) ty22 ty3 rfl (by decide) hi hi2 hk rfl (le_lit rfl) (ht 63 rfl) q96 hr101 he100 hc98 (by have := hc98; simp only [maxLen]; omega))
  refine Du1 (Value.slice Af than.length Cf) (fun ρ102 w103 g hle hi ht => ?_) ?_
  obtain ⟨-, hst, -⟩ := hle
  obtain ⟨hi, hi2⟩ := hi
  refine So1 (ol1 (v := (Value.slice Af than.length Cf)) (ht 4 rfl) ?_)
  exact GoesX.same hi hi2 rfl
  replace hm := bd hm; obtain ⟨r_1, hv113, hm⟩ := hm
  refine Dw_opN (XD O [(some b1, Obj.cells [(Value.int .i64 r_.slots), (Value.slice Aa r_.owners.length Ca), (Value.slice Ab r_.costs.length Cb)].toArray 25)] (vT2 (vC (rSl (rInt .i64))) vB) r_1) (XD.stab _ _) (fun ρ105 w106 g hle hi hk ht => ?_) ?_
  obtain ⟨-, hst, -⟩ := hle
  obtain ⟨hi, hi2⟩ := hi
  replace Fa := Fa.step hst; replace Fb := Fb.step hst; replace Fc := Fc.step hst; replace Fd := Fd.step hst; replace Ff := Ff.step hst
  obtain ⟨a108, c109, g, q110, hi, hi2, hlx, hdx, f111⟩ := takeX (eat := (fun t : Nat => if t = 3 then 5 else if t = 5 then 8 else if t = 8 then 10 else 1000)) (tag := 8) hi hi2 hk rfl (le_lit rfl) (ht 66 rfl)
  have px112 := hlx.2.1
  replace Fa := Fa.step px112; replace Fb := Fb.step px112; replace Fc := Fc.step px112; replace Fd := Fd.step px112; replace Ff := Ff.step px112
  refine So1 (ob2 Try.call86 (ih (O := ks (entx g ++ [(some b1, Obj.cells [(Value.int .i64 r_.slots), (Value.slice Aa r_.owners.length Ca), (Value.slice Ab r_.costs.length Cb)].toArray 25)]) O) (r_ := r_) (group := group) (flights := flights) (begin := ((([] : List Int) ++ begin) ++ [(flights.getD i_1.toNat default)])) (than := than) hi.ltw Ra Fa Fb Fc Fd f111 Ff hv113) (by simp only [List.map, Array.toList, (show ev _ (.tmp 58) = _ from (ht 58 rfl)), (show ev _ (.tmp 59) = _ from (ht 59 rfl)), (show ev _ (.tmp 60) = _ from (ht 60 rfl)), (show ev _ (.tmp 66) = _ from q110), (show ev _ (.tmp 67) = _ from (ht 67 rfl))] <;> rfl) ?_)
  rintro v114 w115 ⟨hx116, h117⟩
  exact GoesX.take hlx hdx (GoesX.call hi hi2 hx116 h117)
  refine Dw_op (XD O [(some b1, Obj.cells [(Value.int .i64 r_.slots), (Value.slice Aa r_.owners.length Ca), (Value.slice Ab r_.costs.length Cb)].toArray 25)] (vT2 (vC (rSl (rInt .i64))) vB) r_1) (XD.stab _ _) (fun ρ119 w120 g hle hi ht => ?_) ?_
  obtain ⟨-, hst, -⟩ := hle
  obtain ⟨hi, hi2⟩ := hi
  have h : Vr.vd (vT2 (vC (rSl (rInt .i64))) vB) _ _ _ _ := ht 68 rfl
  refine So1 (ol1 rfl (GoesX.same hi hi2 h))
  refine Dw_op (XD O [(some b1, Obj.cells [(Value.int .i64 r_.slots), (Value.slice Aa r_.owners.length Ca), (Value.slice Ab r_.costs.length Cb)].toArray 25)] (vC (rSl (rInt .i64))) r_1.1) (XD.stab _ _) (fun ρ130 w131 g hle hi ht => ?_) ?_
  obtain ⟨-, hst, -⟩ := hle
  obtain ⟨hi, hi2⟩ := hi
  have h133 : Vr.vd (vT2 (vC (rSl (rInt .i64))) vB) _ _ _ _ := ht 57 rfl
  obtain ⟨v135, v136, q134, h137, h138⟩ := h133
  obtain ⟨Ah, Ch, rfl, Fh⟩ := un_sl h137
  obtain rfl := h138
  refine So1 (oh2 (v := (Value.slice Ah r_1.1.length Ch)) q134 rfl ?_)
  exact GoesX.same hi hi2 (show Vr.vd (vC (rSl (rInt .i64))) _ _ _ _ from (mkC (mk_sl Fh)))
  refine Du1 (Value.bool r_1.2) (fun ρ141 w142 g hle hi ht => ?_) ?_
  obtain ⟨-, hst, -⟩ := hle
  obtain ⟨hi, hi2⟩ := hi
  have h144 : Vr.vd (vT2 (vC (rSl (rInt .i64))) vB) _ _ _ _ := ht 57 rfl
  obtain ⟨v146, v147, q145, h148, h149⟩ := h144
  obtain ⟨Ai, Ci, rfl, Fi⟩ := un_sl h148
  obtain rfl := h149
  refine So1 (oh2 (v := (Value.bool r_1.2)) q145 rfl ?_)
  exact GoesX.same hi hi2 rfl
  refine Dw_nil fun w156 g157 hl158 hi159 => ?_
  obtain ⟨-, hst160, -⟩ := hl158
  obtain ⟨hi159, hi163⟩ := hi159
  obtain ⟨hs162, p161⟩ := Step.nxX hi159
  rintro _ rfl
  rintro v164 h165
  replace h165 : Vr.vd (vC (rSl (rInt .i64))) _ _ _ _ := h165
  obtain ⟨Aj, Cj, rfl, Fj⟩ := un_sl h165
  rintro v167 h168
  replace h168 : Vr.vd (vT2 (vC (rSl (rInt .i64))) vB) _ _ _ _ := h168
  obtain ⟨v169, v170, rfl, h171, h172⟩ := h168
  obtain ⟨Ak, Ck, rfl, Fk⟩ := un_sl h171
  obtain rfl := h172
  rintro v175 h176
  replace h176 : Vr.vd (vT2 (vC (rSl (rInt .i64))) vB) _ _ _ _ := h176
  obtain ⟨v177, v178, rfl, h179, h180⟩ := h176
  obtain ⟨Al, Cl, rfl, Fl⟩ := un_sl h179
  obtain rfl := h180
  rintro _ rfl
  rintro _ -
  rintro v183 h184
  replace h184 : Vr.vd (vC (rSl (rInt .i64))) _ _ _ _ := h184
  obtain ⟨Am, Cm, rfl, Fm⟩ := un_sl h184
  rintro _ rfl
  rintro _ -
  rintro _ rfl
  rintro _ -
  rintro _ rfl
  rintro _ rfl
  rintro _ rfl
  have p186 : Step (ks [(some b1, Obj.cells [(Value.int .i64 r_.slots), (Value.slice Aa r_.owners.length Ca), (Value.slice Ab r_.costs.length Cb)].toArray 25)] O) w42 (ks [(some b1, Obj.cells [(Value.int .i64 r_.slots), (Value.slice Aa r_.owners.length Ca), (Value.slice Ab r_.costs.length Cb)].toArray 25)] O) w156 := hst160.trans p161
  replace Fj := Fj.step p161; replace Fk := Fk.step p161; replace Fl := Fl.step p161; replace Fm := Fm.step p161; replace Fa := Fa.step p186; replace Fb := Fb.step p186; replace Fc := Fc.step p186; replace Fd := Fd.step p186; replace Fe := Fe.step p186; replace Ff := Ff.step p186; replace ch28 := ch28.trans p186; clear p186 hs43
  refine Rk1 rfl (on1 (v := (Value.slice Aj r_1.1.length Cj)) rfl ?_)
  refine Rk1 rfl (on1 (v := (Value.bool r_1.2)) rfl ?_)
  refine Rq1 (Wp1 ?_)
  clear Fk Fl Fm
  refine Wp_reset2 [10, 11, 13, 14, 15, 16, 30, 31, 32, 33, 34, 35, 36, 37, 38, 39, 40, 41, 42, 43, 44, 45, 46, 47, 48, 49, 50, 51, 52, 53, 54, 55, 56, 57, 58, 59, 60, 61, 62, 63, 64, 65, 66, 67, 68, 69, 70, 71, 72] [] (updL ⟨ξ18, []⟩ [(1, (Value.slice Ac group.length Cc)), (2, (Value.slice Ad flights.length Cd)), (3, (Value.slice Ae begin.length Ce)), (4, (Value.slice Af than.length Cf)), (5, (Value.pointer (some ⟨b1, 0, none⟩))), (12, (Value.int .i64 (begin.length : Int))), (13, (Value.int .i64 0))]) [(13, (Value.int .i64 i_1)), (15, (Value.slice Aj r_1.1.length Cj)), (16, (Value.bool r_1.2))] (by repeat (first | with_reducible exact Out.refl _ _ | refine Out.upd ?_ rfl | refine Out.updL ?_ rfl | refine Out.mix' ?_ rfl | exact Out.refl _ _)) rfl ⟨rfl, rfl, rfl, trivial⟩ fun ξ187 => ?_
  refine Wm1 ?_
  refine Rk1 rfl (ol1 (v := (Value.bool r_1.2)) rfl ?_)
  refine Rq1 ?_
  refine Wy1 rfl (fun hc188 => ?_) (fun hc188 => ?_)
  replace hm := bif_t hm hc188
  refine Wp1 ?_
  clear Fc Fd Fe Ff
  refine Wm1 ?_
  refine Rk1 rfl (ol1 (v := (Value.slice Aj r_1.1.length Cj)) rfl ?_)
  refine Rk1 rfl (on1 (v := (Value.slice Aj r_1.1.length Cj)) rfl ?_)
  refine Rk1 rfl (on1 (v := (Value.bool true)) rfl ?_)
  refine Rq1 ?_
  refine Wa2 ?_
  have hz := step_all hs162
  replace Fa := Fa.step hz; replace Fb := Fb.step hz; replace Fj := Fj.step hz
  refine ⟨_, (show Closes [] _ _ from rfl), [(Value.slice Aj r_1.1.length Cj), (Value.bool true)], ⟨rfl, rfl, trivial⟩, hs162.ext, ?_⟩
  exact Vr.eq (a := (vT2 (vC (rSl (rInt .i64))) vB)) (x := (r_1.1, true)) (mkT2 (mkC (mk_sl Fj)) rfl) (Option.some.inj hm)
  replace hm := bif_f hm hc188
  refine Wx1 ?_
  clear Fj
  refine Wm1 ?_
  refine Rk1 rfl (ol1 (v := (Value.int .i64 i_1)) rfl ?_)
  refine Rk1 rfl (op_addw rfl rfl ?_)
  refine Rk1 rfl (on1 (v := (Value.int .i64 (IntKind.wrap .i64 (i_1 + 1)))) rfl ?_)
  refine Rq1 ?_
  exact hK21 _ _ ⟨(IntKind.wrap .i64 (i_1 + 1)), _, rfl, ⟨(by repeat (first | with_reducible exact Out.refl _ _ | refine Out.upd ?_ rfl | refine Out.updL ?_ rfl | refine Out.mix' ?_ rfl | exact Out.refl _ _)), rfl, rfl, trivial⟩, ch28, hs162, (inK_wrap .i64 _), jnE1 hsf20 hm⟩
  intro K41 hK41
  have ch189 := Step.refl (ks [(some b1, Obj.cells [(Value.int .i64 r_.slots), (Value.slice Aa r_.owners.length Ca), (Value.slice Ab r_.costs.length Cb)].toArray 25)] O) w23
  clear f33
  refine Wp_drawR (g0 := []) (m := 13) (fl := []) (TS_inv hs24) rfl (.inl rfl) rfl (by decide +kernel) ?_  -- 8
  refine Du1 (Value.slice Ae begin.length Ce) (fun ρ190 w191 g hle hi ht => ?_) ?_
  obtain ⟨-, hst, -⟩ := hle
  refine So1 (ol1 (v := (Value.slice Ae begin.length Ce)) (ht 3 rfl) ?_)
  exact Goes.same hi rfl
  refine Du1 (Value.int .i64 (flights.getD i_1.toNat default)) (fun ρ193 w194 g hle hi ht => ?_) ?_
  obtain ⟨-, hst, -⟩ := hle
  refine So1 (ol1 (v := (Value.int .i64 (flights.getD i_1.toNat default))) (ht 14 rfl) ?_)
  exact Goes.same hi rfl
  replace hm := bd hm; obtain ⟨has_1, hv199, hm⟩ := hm
  refine Dw_op (VD O [(some b1, Obj.cells [(Value.int .i64 r_.slots), (Value.slice Aa r_.owners.length Ca), (Value.slice Ab r_.costs.length Cb)].toArray 25)] vB has_1) (VD.stab _ _) (fun ρ196 w197 g hle hi ht => ?_) ?_
  obtain ⟨-, hst, -⟩ := hle
  replace Fe := Fe.step hst
  refine So1 (ob2 Try.call84 (c84_overflightref37_has (O := ks (ents g ++ [(some b1, Obj.cells [(Value.int .i64 r_.slots), (Value.slice Aa r_.owners.length Ca), (Value.slice Ab r_.costs.length Cb)].toArray 25)]) O) (l := begin) (n := (flights.getD i_1.toNat default)) hi.ltw Fe Rc hv199) (by simp only [List.map, Array.toList, (show ev _ (.tmp 40) = _ from (ht 40 rfl)), (show ev _ (.tmp 41) = _ from (ht 41 rfl))] <;> rfl) ?_)
  rintro v200 w201 ⟨hx202, h203⟩
  exact Goes.call hi hx202 h203
  refine Dw_opB has_1 (fun ρ205 w206 g hle hi ht => ?_) (fun hg211 => ?_) (fun hg211 => ?_)
  obtain ⟨-, hst, -⟩ := hle
  have h208 : Vr.vd vB _ _ _ _ := ht 42 rfl
  have q209 : _ = (Value.bool has_1) := h208
  refine So1 (ol1 (v := (Value.bool has_1)) q209 ?_)
  exact Goes.same hi rfl
  replace hm := bif_t hm hg211
  refine Dv1 (fun _ _ _ ht => wanted_x rfl (ht 43 rfl) rfl) ?_
  refine Dv1 (fun _ _ _ ht => wanted_x rfl (ht 43 rfl) rfl) ?_
  refine Dv1 (fun _ _ _ ht => wanted_x rfl (ht 43 rfl) rfl) ?_
  refine Dv1 (fun _ _ _ ht => wanted_x rfl (ht 43 rfl) rfl) ?_
  refine Dv1 (fun _ _ _ ht => wanted_x rfl (ht 43 rfl) rfl) ?_
  refine Dv1 (fun _ _ _ ht => wanted_x rfl (ht 43 rfl) rfl) ?_
  refine Dv1 (fun _ _ _ ht => wanted_x rfl (ht 43 rfl) rfl) ?_
  refine Dv1 (fun _ _ _ ht => wanted_x rfl (ht 43 rfl) rfl) ?_
  refine Dv1 (fun _ _ _ ht => wanted_x rfl (ht 43 rfl) rfl) ?_
  refine Dw_nil fun w216 g217 hl218 hi219 => ?_
  obtain ⟨-, hst220, -⟩ := hl218
  obtain ⟨hs222, p221⟩ := Step.nx hi219
  rintro _ rfl
  rintro _ rfl
  rintro _ rfl
  rintro _ rfl
  rintro _ rfl
  rintro _ rfl
  rintro _ rfl
  rintro _ rfl
  rintro _ rfl
  rintro _ rfl
  rintro v223 h224
  replace h224 : Vr.vd vB _ _ _ _ := h224
  obtain rfl := h224
  rintro _ rfl
  rintro _ rfl
  have p226 : Step (ks [(some b1, Obj.cells [(Value.int .i64 r_.slots), (Value.slice Aa r_.owners.length Ca), (Value.slice Ab r_.costs.length Cb)].toArray 25)] O) w23 (ks [(some b1, Obj.cells [(Value.int .i64 r_.slots), (Value.slice Aa r_.owners.length Ca), (Value.slice Ab r_.costs.length Cb)].toArray 25)] O) w216 := hst220.trans p221
  replace Fa := Fa.step p226; replace Fb := Fb.step p226; replace Fc := Fc.step p226; replace Fd := Fd.step p226; replace Fe := Fe.step p226; replace Ff := Ff.step p226; replace ch28 := ch28.trans p226; replace ch189 := ch189.trans p226; clear p226 hs24
  iterate 3 refine Rt1 rfl (asB_ne rfl rfl) rfl ?_
  refine Rk1 rfl (oc2 (v := (Value.bool true)) rfl rfl ?_)
  refine Rq1 ?_
  exact hK41 _ _ ⟨true, _, rfl, ⟨(by repeat (first | with_reducible exact Out.refl _ _ | refine Out.upd ?_ rfl | refine Out.updL ?_ rfl | refine Out.mix' ?_ rfl | exact Out.refl _ _)), rfl, rfl, trivial⟩, ch189, hs222, hm⟩
  replace hm := bif_f hm hg211
  refine Du1 (Value.pointer (some ⟨b1, 2, none⟩)) (fun ρ227 w228 g hle hi ht => ?_) ?_
  obtain ⟨-, hst, -⟩ := hle
  refine Sd2 rfl (ht 43 rfl) (oe2 ty25 rfl ty23 (by decide) (ht 5 rfl) (rfl : _ = (⟨_, 2, none⟩ : Addr)) ?_)
  exact Goes.same hi rfl
  refine Du1 (Value.slice Ab r_.costs.length Cb) (fun ρ230 w231 g hle hi ht => ?_) ?_
  obtain ⟨-, hst, -⟩ := hle
  have hsn := (Step.nx hi).1
  refine Sd2 rfl (ht 43 rfl) (op_load (cs := [(Value.int .i64 r_.slots), (Value.slice Aa r_.owners.length Ca), (Value.slice Ab r_.costs.length Cb)]) (i := 0) ty23 hsn (ht 44 rfl) rfl rfl ?_)
  exact Goes.same hi rfl
  refine Du1 (Value.slice Ad flights.length Cd) (fun ρ233 w234 g hle hi ht => ?_) ?_
  obtain ⟨-, hst, -⟩ := hle
  refine Sd2 rfl (ht 43 rfl) (ol1 (v := (Value.slice Ad flights.length Cd)) (ht 2 rfl) ?_)
  exact Goes.same hi rfl
  refine Du1 (Value.int .i64 (begin.length : Int)) (fun ρ236 w237 g hle hi ht => ?_) ?_
  obtain ⟨-, hst, -⟩ := hle
  refine Sd2 rfl (ht 43 rfl) (ol1 (v := (Value.int .i64 (begin.length : Int))) (ht 12 rfl) ?_)
  exact Goes.same hi rfl
  replace hm := ck_some hm; obtain ⟨hc242, hm⟩ := hm
  refine Dw_op (VP O [(some b1, Obj.cells [(Value.int .i64 r_.slots), (Value.slice Aa r_.owners.length Ca), (Value.slice Ab r_.costs.length Cb)].toArray 25)] (rInt .i64) (flights.getD begin.length default)) (VP.stab _ _) (fun ρ239 w240 g hle hi ht => ?_) ?_
  obtain ⟨-, hst, -⟩ := hle
  replace Fd := Fd.step hst
  refine Sd2 rfl (ht 43 rfl) (ow1 (q := (rInt .i64)) ty22 ty3 (ht 46 rfl) (ht 47 rfl) Fd rfl hc242.1 hc242.2 ?_)
  intro p243 f244
  exact Goes.same hi ⟨_, rfl, f244⟩
  refine Dw_op (VD O [(some b1, Obj.cells [(Value.int .i64 r_.slots), (Value.slice Aa r_.owners.length Ca), (Value.slice Ab r_.costs.length Cb)].toArray 25)] (vI .i64) (flights.getD begin.length default)) (VD.stab _ _) (fun ρ245 w246 g hle hi ht => ?_) ?_
  obtain ⟨-, hst, -⟩ := hle
  obtain ⟨p248, q249, f250⟩ := ht 48 rfl
  refine Sd2 rfl (ht 43 rfl) (oz1 ty3 q249 f250 rfl ?_)
  intro v251 h252
  obtain ⟨rfl, Rd⟩ := un_int h252
  exact Goes.same hi (show Vr.vd (vI .i64) _ _ _ _ from ⟨rfl, Rd⟩)
  replace hm := ck_some hm; obtain ⟨hc260, hm⟩ := hm
  refine Dw_op (VP O [(some b1, Obj.cells [(Value.int .i64 r_.slots), (Value.slice Aa r_.owners.length Ca), (Value.slice Ab r_.costs.length Cb)].toArray 25)] (rSl (rInt .i64)) (r_.costs.getD (flights.getD begin.length default).toNat default)) (VP.stab _ _) (fun ρ254 w255 g hle hi ht => ?_) ?_
  obtain ⟨-, hst, -⟩ := hle
  replace Fb := Fb.step hst
  have h257 : Vr.vd (vI .i64) _ _ _ _ := ht 49 rfl
  obtain ⟨q258, Re⟩ := h257
  refine Sd2 rfl (ht 43 rfl) (ow1 (q := (rSl (rInt .i64))) ty23 ty22 (ht 45 rfl) q258 Fb rfl hc260.1 hc260.2 ?_)
  intro p261 f262
  exact Goes.same hi ⟨_, rfl, f262⟩
  refine Dw_op (VD O [(some b1, Obj.cells [(Value.int .i64 r_.slots), (Value.slice Aa r_.owners.length Ca), (Value.slice Ab r_.costs.length Cb)].toArray 25)] (vC (rSl (rInt .i64))) (r_.costs.getD (flights.getD begin.length default).toNat default)) (VD.stab _ _) (fun ρ263 w264 g hle hi ht => ?_) ?_
  obtain ⟨-, hst, -⟩ := hle
  obtain ⟨p266, q267, f268⟩ := ht 50 rfl
  refine Sd2 rfl (ht 43 rfl) (oz1 ty22 q267 f268 rfl ?_)
  intro v269 h270
  obtain ⟨An, Cn, rfl, Fn⟩ := un_sl h270
  exact Goes.same hi (show Vr.vd (vC (rSl (rInt .i64))) _ _ _ _ from (mkC (mk_sl Fn)))
  refine Du1 (Value.int .i64 (flights.getD i_1.toNat default)) (fun ρ272 w273 g hle hi ht => ?_) ?_
  obtain ⟨-, hst, -⟩ := hle
  refine Sd2 rfl (ht 43 rfl) (ol1 (v := (Value.int .i64 (flights.getD i_1.toNat default))) (ht 14 rfl) ?_)
  exact Goes.same hi rfl
  refine Dw_nil fun w279 g280 hl281 hi282 => ?_
  obtain ⟨-, hst283, -⟩ := hl281
  obtain ⟨hs285, p284⟩ := Step.nx hi282
  rintro _ rfl
  rintro v286 h287
  replace h287 : Vr.vd (vC (rSl (rInt .i64))) _ _ _ _ := h287
  obtain ⟨Ao, Co, rfl, Fo⟩ := un_sl h287
  rintro _ ⟨p289, rfl, f290⟩
  rintro v291 h292
  replace h292 : Vr.vd (vI .i64) _ _ _ _ := h292
  obtain ⟨rfl, Rf⟩ := h292
  rintro _ ⟨p294, rfl, f295⟩
  rintro _ rfl
  rintro _ rfl
  rintro _ rfl
  rintro _ rfl
  rintro _ rfl
  rintro v296 h297
  replace h297 : Vr.vd vB _ _ _ _ := h297
  obtain rfl := h297
  rintro _ rfl
  rintro _ rfl
  have p299 : Step (ks [(some b1, Obj.cells [(Value.int .i64 r_.slots), (Value.slice Aa r_.owners.length Ca), (Value.slice Ab r_.costs.length Cb)].toArray 25)] O) w23 (ks [(some b1, Obj.cells [(Value.int .i64 r_.slots), (Value.slice Aa r_.owners.length Ca), (Value.slice Ab r_.costs.length Cb)].toArray 25)] O) w279 := hst283.trans p284
  replace Fo := Fo.step p284; replace f290 := f290.step p284; replace f295 := f295.step p284; replace Fa := Fa.step p299; replace Fb := Fb.step p299; replace Fc := Fc.step p299; replace Fd := Fd.step p299; replace Fe := Fe.step p299; replace Ff := Ff.step p299; replace ch28 := ch28.trans p299; replace ch189 := ch189.trans p299; clear p299 hs24
  replace hm := ck_some hm; obtain ⟨hc300, hm⟩ := hm
  refine Rs1 rfl rfl rfl (ow1 (q := (rInt .i64)) ty22 ty3 rfl rfl Fo rfl hc300.1 hc300.2 ?_)
  intro p301 f302
  refine Rs1 rfl rfl rfl (oz1 ty3 rfl f302 rfl ?_)
  intro v303 h304
  obtain ⟨rfl, Rg⟩ := un_int h304
  refine Rs1 rfl rfl rfl (op_lss rfl rfl ?_)
  refine Rk1 rfl (or1 (v := (Value.bool (decide (((r_.costs.getD (flights.getD begin.length default).toNat default).getD (flights.getD i_1.toNat default).toNat default) < 0)))) rfl rfl ?_)
  refine Rq1 ?_
  exact hK41 _ _ ⟨(decide (((r_.costs.getD (flights.getD begin.length default).toNat default).getD (flights.getD i_1.toNat default).toNat default) < 0)), _, rfl, ⟨(by repeat (first | with_reducible exact Out.refl _ _ | refine Out.upd ?_ rfl | refine Out.updL ?_ rfl | refine Out.mix' ?_ rfl | exact Out.refl _ _)), rfl, rfl, trivial⟩, ch189, hs285, hm⟩
  replace hm := bif_f hm hc30
  refine Wp_exit (Wp1 ?_)
  obtain ⟨hs306, p307⟩ := hs24.sub (bs' := []) (.cons _ List.Sublist.slnil)
  clear Fa Fb Fc Fd Fe Ff
  replace ch28 := ch28.trans p307; clear p307 hs24
  refine Wm1 ?_
  refine Rk1 rfl (on1 (v := (Value.slice none 0 0)) rfl ?_)
  refine Rk1 rfl (on1 (v := (Value.bool false)) rfl ?_)
  refine Rq1 ?_
  refine Wa2 ?_
  have hz := step_all hs306
  refine ⟨_, (show Closes [] _ _ from rfl), [(Value.slice none 0 0), (Value.bool false)], ⟨rfl, rfl, trivial⟩, hs306.ext, ?_⟩
  exact Vr.eq (a := (vT2 (vC (rSl (rInt .i64))) vB)) (x := (([] : List Int), false)) (mkT2 (mkC (mk_sl SlR.nil_)) rfl) (Option.some.inj hm)
theorem c86_overflightref37_search {w : World} {O : List Nat} {r_ : XRound} {group : List Int} {flights : List Int} {begin : List Int} {than : List Int} {Aa : Option Addr} {Ca : Nat} {Ab : Option Addr} {Cb : Nat} {Ac : Option Addr} {Cc : Nat} {Ad : Option Addr} {Cd : Nat} {Ae : Option Addr} {Ce : Nat} {Af : Option Addr} {Cf : Nat} (hO : ∀ k ∈ O, k < w.heap.size) (Ra : InK .i64 r_.slots) (Fa : SlR (rInt .i64) w O Aa Ca r_.owners) (Fb : SlR (rSl (rInt .i64)) w O Ab Cb r_.costs) (Fc : SlR (rInt .i64) w O Ac Cc group) (Fd : SlR (rInt .i64) w O Ad Cd flights) (Fe : SlR (rInt .i64) w O Ae Ce begin) (Ff : SlR (rInt .i64) w O Af Cf than) {x : (List Int) × Bool} (hm : m86_overflightref37_search r_ group flights begin than = some x) :
 Ok Try.prog 86 [(Value.agg [(Value.int .i64 r_.slots), (Value.slice Aa r_.owners.length Ca), (Value.slice Ab r_.costs.length Cb)].toArray), (Value.slice Ac group.length Cc), (Value.slice Ad flights.length Cd), (Value.slice Ae begin.length Ce), (Value.slice Af than.length Cf)] w O (vT2 (vC (rSl (rInt .i64))) vB) x  := c86_overflightref37_search_N 1000000 hO Ra Fa Fb Fc Fd Fe Ff hm

def m87_overflightref37_Flights_B0 (r_ : XRound) (group : List Int) (sf15 : (List Int) → Int → Option (List Int)) (out_1 : List Int) (i_1 : Int) : Option (List Int) :=
 bif (decide (i_1 < (r_.owners.length : Int))) then
  ck ((0 : Int) ≤ i_1 ∧ i_1 < (r_.owners.length : Int)) <|
  (m84_overflightref37_has group (r_.owners.getD i_1.toNat default)).bind fun has_1 =>
  bif has_1 then
   ck ((out_1.length + [i_1].length) * 8 ≤ 140737488355328) <|
   sf15 (out_1 ++ [i_1]) (IntKind.wrap .i64 (i_1 + 1))
  else
   sf15 out_1 (IntKind.wrap .i64 (i_1 + 1))
 else
  some out_1

def m87_overflightref37_Flights (r_ : XRound) (group : List Int) : Option (List Int) :=
 loop2 (m87_overflightref37_Flights_B0 r_ group) (((r_.owners.length : Int) - 0).toNat + 1) [] 0

theorem g87_overflightref37_Flights {w : World} {O : List Nat} {r_ : XRound} {group : List Int} {Aa : Option Addr} {Ca : Nat} {Ab : Option Addr} {Cb : Nat} {Ac : Option Addr} {Cc : Nat} (hO : ∀ k ∈ O, k < w.heap.size) (Ra : InK .i64 r_.slots) (Fa : SlR (rInt .i64) w O Aa Ca r_.owners) (Fb : SlR (rSl (rInt .i64)) w O Ab Cb r_.costs) (Fc : SlR (rInt .i64) w O Ac Cc group) {x : (List Int)} (hm : m87_overflightref37_Flights r_ group = some x) :
 OkG Try.prog 87 [(Value.agg [(Value.int .i64 r_.slots), (Value.slice Aa r_.owners.length Ca), (Value.slice Ab r_.costs.length Cb)].toArray), (Value.slice Ac group.length Cc)] w O (rInt .i64) 3 x := by
 unfold m87_overflightref37_Flights at hm
 refine Fn_of_Wp (n := 27) (xs := [.tmp 4]) Try.func87 rfl Try.ntmps87 Try.results87 rfl ?_
 have hs := St.start hO
 refine Wp1 (Wm1 ?_)
 refine Rk1 rfl (op_box (cs := [(Value.int .i64 r_.slots), (Value.slice Aa r_.owners.length Ca), (Value.slice Ab r_.costs.length Cb)]) hs rfl rfl ?_)
 intro b1 w2 _ p3 hs4
 replace Fa := Fa.step p3; replace Fb := Fb.step p3; replace Fc := Fc.step p3; clear p3
 refine Rk1 rfl (on1 (v := (Value.slice none 0 0)) rfl ?_)
 refine Rq1 (Wp1 (Wm1 ?_))
 refine Rk1 rfl (og2 (cs := []) (parts := []) ty22 ty3 hs4 (by decide) rfl ?_)
 intro b6 w7 hx10 p8 hs9
 replace Fa := Fa.step p8; replace Fb := Fb.step p8; replace Fc := Fc.step p8; clear p8 hs4
 refine Rk1 rfl (on1 (v := (Value.slice (some ⟨b6, 0, none⟩) 0 0)) rfl ?_)
 refine Rq1 (Wp1 (Wp1 (Wm1 ?_)))
 refine Rk1 rfl (on1 (v := (Value.int .i64 0)) rfl ?_)
 refine Rq1 (Wf2 ?_)
 refine Wp_reset [] [(1, (Value.slice Ac group.length Cc)), (2, (Value.pointer (some ⟨b1, 0, none⟩))), (5, (Value.slice (some ⟨b6, 0, none⟩) 0 0)), (6, (Value.int .i64 0))] rfl ⟨rfl, rfl, rfl, rfl, trivial⟩ fun ξ14 => ?_
 have f19 := Gs.of_cells (p := (rInt .i64)) (e := 3) (bl := b6) (c := 0) (w := w7) (O := ks [(some b6, Obj.cells [].toArray 3), (some b1, Obj.cells [(Value.int .i64 r_.slots), (Value.slice Aa r_.owners.length Ca), (Value.slice Ab r_.costs.length Cb)].toArray 25)] O) (show Els (rInt .i64) _ _ [] [] from Els.nil) rfl (le_lit rfl)
 refine Wp_loopM [5, 6, 8, 9, 10, 11, 12, 13, 14, 15, 16, 17, 18, 19, 20, 21, 22, 23, 24, 25] (fun m fr w' => ∃ (out_1 : List Int) (i_1 : Int) (Ad : Option Addr) (Cd : Nat) (k_g12 : Option Nat) (o_g12 : Obj) (Ebs : Ents), Ebs = [(k_g12, o_g12), (some b1, Obj.cells [(Value.int .i64 r_.slots), (Value.slice Aa r_.owners.length Ca), (Value.slice Ab r_.costs.length Cb)].toArray 25)] ∧ fr [] [(5, (Value.slice Ad out_1.length Cd)), (6, (Value.int .i64 i_1))] ∧ Step (ks [(some b6, Obj.cells [].toArray 3), (some b1, Obj.cells [(Value.int .i64 r_.slots), (Value.slice Aa r_.owners.length Ca), (Value.slice Ab r_.costs.length Cb)].toArray 25)] O) w7 (ks Ebs O) w' ∧ St ⟨w, [], []⟩ O w' Ebs ∧ Gs (rInt .i64) 3 w' (ks Ebs O) Ad Cd out_1 k_g12 o_g12 ∧ InK .i64 i_1 ∧ loop2 (m87_overflightref37_Flights_B0 r_ group) m out_1 i_1 = some x) (((r_.owners.length : Int) - 0).toNat + 1) ⟨[], 0, (some ⟨b6, 0, none⟩), 0, (some b6), (Obj.cells [].toArray 3), _, rfl, ⟨Out.refl _ _, rfl, rfl, rfl, trivial⟩, Step.refl _ _, hs9, f19, (show InK .i64 0 from by decide), hm⟩ ?_ ?_
 rintro _ _ ⟨_, _, _, _, _, _, _, _, _, _, _, _, _, hm⟩; exact loop2_z hm
 rintro m18 K17 hK17 ρ24 w20 ⟨out_1, i_1, Ad, Cd, k_g12, o_g12, Ebs, hEbs, hfr23, hst22, hs21, Fd, Rb, hm⟩
 obtain ⟨sf15, hsf16, hm⟩ := loop2_s hm; unfold m87_overflightref37_Flights_B0 at hm
 subst hEbs; rw [hfr23.eq]; clear hfr23
 replace Fa := Fa.step hst22; replace Fb := Fb.step hst22; replace Fc := Fc.step hst22; replace f19 := f19.step hst22
 have ch25 := hst22
 refine Wp1 (Wp1 ?_)
 clear f19
 refine Wm1 ?_
 refine Rk1 rfl (ol1 (v := (Value.int .i64 i_1)) rfl ?_)
 refine Rk1 rfl (oe2 ty25 rfl ty22 (by decide) rfl (rfl : _ = (⟨_, 1, none⟩ : Addr)) ?_)
 refine Rk1 rfl (op_load (cs := [(Value.int .i64 r_.slots), (Value.slice Aa r_.owners.length Ca), (Value.slice Ab r_.costs.length Cb)]) (i := 1) ty22 hs21 rfl rfl rfl ?_)
 refine Rk1 rfl (op_len Try.underlying22 rfl ?_)
 have rl26 := inK_len Fa
 refine Rk1 rfl (op_lss rfl rfl ?_)
 refine Rq1 ?_
 refine Wy1 rfl (fun hc27 => ?_) (fun hc27 => ?_)
 replace hm := bif_t hm hc27
 refine Wx1 (Wp1 (Wf2 (Wp1 (Wm1 ?_))))
 refine Rk1 rfl (ol1 (v := (Value.slice Ac group.length Cc)) rfl ?_)
 refine Rk1 rfl (oe2 ty25 rfl ty22 (by decide) rfl (rfl : _ = (⟨_, 1, none⟩ : Addr)) ?_)
 refine Rk1 rfl (op_load (cs := [(Value.int .i64 r_.slots), (Value.slice Aa r_.owners.length Ca), (Value.slice Ab r_.costs.length Cb)]) (i := 1) ty22 hs21 rfl rfl rfl ?_)
 refine Rk1 rfl (ol1 (v := (Value.int .i64 i_1)) rfl ?_)
 replace hm := ck_some hm; obtain ⟨hc28, hm⟩ := hm
 refine Rk1 rfl (ow1 (q := (rInt .i64)) ty22 ty3 rfl rfl Fa rfl hc28.1 hc28.2 ?_)
 intro p29 f30
 refine Rk1 rfl (oz1 ty3 rfl f30 rfl ?_)
 intro v31 h32
 obtain ⟨rfl, Rc⟩ := un_int h32
 replace hm := bd hm; obtain ⟨has_1, hv34, hm⟩ := hm
 refine Rk1 rfl (ob2 Try.call84 (c84_overflightref37_has (l := group) (n := (r_.owners.getD i_1.toNat default)) hs21.ltw Fc Rc hv34) rfl ?_)
 rintro v35 w36 ⟨hx37, h38⟩
 have hs39 := hs21.call hx37
 have p40 := Step.ext (O := ks [(k_g12, o_g12), (some b1, Obj.cells [(Value.int .i64 r_.slots), (Value.slice Aa r_.owners.length Ca), (Value.slice Ab r_.costs.length Cb)].toArray 25)] O) hx37
 clear hx37
 replace Fa := Fa.step p40; replace Fb := Fb.step p40; replace Fc := Fc.step p40; replace Fd := Fd.step p40; replace f30 := f30.step p40; replace ch25 := ch25.trans p40; clear p40 hs21
 obtain rfl := h38
 refine Rq1 ?_
 refine Wy1 rfl (fun hc42 => ?_) (fun hc42 => ?_)
 replace hm := bif_t hm hc42
 clear f30
 refine Wm1 ?_
 refine Rk1 rfl (ol1 (v := (Value.slice Ad out_1.length Cd)) rfl ?_)
 refine Rk1 rfl (ol1 (v := (Value.int .i64 i_1)) rfl ?_)
 refine Rk1 rfl (og2 (cs := [(Value.int .i64 i_1)]) (parts := [(0, .tmp 23)]) ty22 ty3 hs39 (by decide) rfl ?_)
 intro b43 w44 hx47 p45 hs46
 replace Fa := Fa.step p45; replace Fb := Fb.step p45; replace Fc := Fc.step p45; replace Fd := Fd.step p45; replace ch25 := ch25.trans p45; clear p45 hs39
 replace hm := ck_some hm; obtain ⟨hc49, hm⟩ := hm
 refine Rk1 rfl (op_append (q := (rInt .i64)) (i := 1) (xs := out_1) (ys := [i_1]) (news := [(Value.int .i64 i_1)]) ty22 ty3 rfl (by decide) hs46 rfl rfl Fd rfl (Src.owned' (len := 1) (hs46.get (i := 0) rfl) rfl) (show Els (rInt .i64) _ _ [(Value.int .i64 i_1)] [i_1] from ⟨_, _, rfl, (mk_int Rb), Els.nil⟩) hc49 (by have := hc49; simp only [maxLen]; omega) ?_)
 intro a53 c54 k55 o56 w50 p51 hs52 f57
 replace Fa := Fa.step p51; replace Fb := Fb.step p51; replace Fc := Fc.step p51; replace ch25 := ch25.trans p51; clear p51 hs46
 have hs58 := hs52.drop 0
 replace Fa := Fa.step (hs52.dropS 0)
 replace Fb := Fb.step (hs52.dropS 0)
 replace Fc := Fc.step (hs52.dropS 0)
 replace f57 := f57.step (hs52.dropS 0)
 replace ch25 := ch25.trans (hs52.dropS 0); clear hs52
 refine Rk1 rfl (on1 (v := (Value.slice a53 (out_1 ++ [i_1]).length c54)) rfl ?_)
 refine Rq1 (Wm1 ?_)
 refine Rk1 rfl (ol1 (v := (Value.int .i64 i_1)) rfl ?_)
 refine Rk1 rfl (op_addw rfl rfl ?_)
 refine Rk1 rfl (on1 (v := (Value.int .i64 (IntKind.wrap .i64 (i_1 + 1)))) rfl ?_)
 refine Rq1 ?_
 exact hK17 _ _ ⟨(out_1 ++ [i_1]), (IntKind.wrap .i64 (i_1 + 1)), a53, c54, k55, o56, _, rfl, ⟨(by repeat (first | with_reducible exact Out.refl _ _ | refine Out.upd ?_ rfl | refine Out.updL ?_ rfl | refine Out.mix' ?_ rfl | exact Out.refl _ _)), rfl, rfl, rfl, trivial⟩, ch25, hs58, f57, (inK_wrap .i64 _), jnE2 hsf16 hm⟩
 replace hm := bif_f hm hc42
 refine Wx1 ?_
 clear f30
 refine Wm1 ?_
 refine Rk1 rfl (ol1 (v := (Value.int .i64 i_1)) rfl ?_)
 refine Rk1 rfl (op_addw rfl rfl ?_)
 refine Rk1 rfl (on1 (v := (Value.int .i64 (IntKind.wrap .i64 (i_1 + 1)))) rfl ?_)
 refine Rq1 ?_
 exact hK17 _ _ ⟨out_1, (IntKind.wrap .i64 (i_1 + 1)), Ad, Cd, k_g12, o_g12, _, rfl, ⟨(by repeat (first | with_reducible exact Out.refl _ _ | refine Out.upd ?_ rfl | refine Out.updL ?_ rfl | refine Out.mix' ?_ rfl | exact Out.refl _ _)), rfl, rfl, rfl, trivial⟩, ch25, hs39, Fd, (inK_wrap .i64 _), jnE2 hsf16 hm⟩
 replace hm := bif_f hm hc27
 refine Wp_exit (Wp1 ?_)
 obtain ⟨hs59, p60⟩ := hs21.sub (bs' := [(k_g12, o_g12)]) (.cons_cons _ (.cons _ List.Sublist.slnil))
 clear Fa Fb Fc
 replace Fd := Fd.step p60; replace ch25 := ch25.trans p60; clear p60 hs21
 refine Wm1 ?_
 refine Rk1 rfl (ol1 (v := (Value.slice Ad out_1.length Cd)) rfl ?_)
 refine Rk1 rfl (on1 (v := (Value.slice Ad out_1.length Cd)) rfl ?_)
 refine Rq1 ?_
 refine Wa2 ?_
 refine ⟨_, (show Closes [] _ _ from rfl), [(Value.slice Ad out_1.length Cd)], ⟨rfl, trivial⟩, hs59.ext, ?_⟩
 exact OkG.mk (i := 0) hs59 rfl Fd (Option.some.inj hm)
theorem c87_overflightref37_Flights {w : World} {O : List Nat} {r_ : XRound} {group : List Int} {Aa : Option Addr} {Ca : Nat} {Ab : Option Addr} {Cb : Nat} {Ac : Option Addr} {Cc : Nat} (hO : ∀ k ∈ O, k < w.heap.size) (Ra : InK .i64 r_.slots) (Fa : SlR (rInt .i64) w O Aa Ca r_.owners) (Fb : SlR (rSl (rInt .i64)) w O Ab Cb r_.costs) (Fc : SlR (rInt .i64) w O Ac Cc group) {x : (List Int)} (hm : m87_overflightref37_Flights r_ group = some x) :
 Ok Try.prog 87 [(Value.agg [(Value.int .i64 r_.slots), (Value.slice Aa r_.owners.length Ca), (Value.slice Ab r_.costs.length Cb)].toArray), (Value.slice Ac group.length Cc)] w O (vC (rSl (rInt .i64))) x :=
 (g87_overflightref37_Flights hO Ra Fa Fb Fc hm).ok hO

def m67_overflightref37_Blocks (r_ : XRound) (slots : List Int) (group : List Int) : Option ((List Int) × Bool × Int) :=
 jn (fun (v_1 : Bool) =>
  bif v_1 then
   some (([] : List Int), false, 370)
  else
   (m85_overflightref37_Group group).bind fun group_1 =>
   bif (!group_1) then
    some (([] : List Int), false, 1)
   else
    (m87_overflightref37_Flights r_ group).bind fun flights_1 =>
    (m56_overflightref37_costs r_ slots).bind fun costs_1 =>
    (m86_overflightref37_search r_ group flights_1 [] costs_1).bind fun search_1 =>
    bif (!search_1.2) then
     some (([] : List Int), false, 0)
    else
     some (search_1.1, true, 0))
 (fun k8 =>
  (m54_overflightref37_Valid r_).bind fun valid_1 =>
  bif (!valid_1) then
   k8 true
  else
   (m55_overflightref37_Assignment r_ slots).bind fun assignment_1 =>
   k8 (!assignment_1))

theorem c67_overflightref37_Blocks {w : World} {O : List Nat} {r_ : XRound} {slots : List Int} {group : List Int} {Aa : Option Addr} {Ca : Nat} {Ab : Option Addr} {Cb : Nat} {Ac : Option Addr} {Cc : Nat} {Ad : Option Addr} {Cd : Nat} (hO : ∀ k ∈ O, k < w.heap.size) (Ra : InK .i64 r_.slots) (Fa : SlR (rInt .i64) w O Aa Ca r_.owners) (Fb : SlR (rSl (rInt .i64)) w O Ab Cb r_.costs) (Fc : SlR (rInt .i64) w O Ac Cc slots) (Fd : SlR (rInt .i64) w O Ad Cd group) {x : (List Int) × Bool × Int} (hm : m67_overflightref37_Blocks r_ slots group = some x) :
 Ok Try.prog 67 [(Value.agg [(Value.int .i64 r_.slots), (Value.slice Aa r_.owners.length Ca), (Value.slice Ab r_.costs.length Cb)].toArray), (Value.slice Ac slots.length Cc), (Value.slice Ad group.length Cd)] w O (vT3 (vC (rSl (rInt .i64))) vB (vI .i64)) x := by
 unfold m67_overflightref37_Blocks at hm
 refine Fn_of_Wp (n := 39) (xs := [.tmp 6, .tmp 7, .tmp 8]) Try.func67 rfl Try.ntmps67 Try.results67 rfl ?_
 have hs := St.start hO
 refine Wp1 (Wm1 ?_)
 refine Rk1 rfl (op_box (cs := [(Value.int .i64 r_.slots), (Value.slice Aa r_.owners.length Ca), (Value.slice Ab r_.costs.length Cb)]) hs rfl rfl ?_)
 intro b1 w2 _ p3 hs4
 replace Fa := Fa.step p3; replace Fb := Fb.step p3; replace Fc := Fc.step p3; replace Fd := Fd.step p3; clear p3
 refine Rk1 rfl (on1 (v := (Value.slice none 0 0)) rfl ?_)
 refine Rk1 rfl (on1 (v := (Value.bool false)) rfl ?_)
 refine Rk1 rfl (on1 (v := (Value.int .i64 0)) rfl ?_)
 refine Rq1 (Wp1 ?_)
 refine Wp_reset [] [(1, (Value.slice Ac slots.length Cc)), (2, (Value.slice Ad group.length Cd)), (3, (Value.pointer (some ⟨b1, 0, none⟩)))] rfl ⟨rfl, rfl, rfl, trivial⟩ fun ξ6 => ?_
 replace hm := jn_elim hm; obtain ⟨k8, hk9, hm⟩ := hm
 refine Wp_seqJ [11, 12, 13, 14, 15, 16, 17, 18, 19] (fun fr w' => ∃ (v_1 : Bool) (Ebs : Ents), Ebs = [(some b1, Obj.cells [(Value.int .i64 r_.slots), (Value.slice Aa r_.owners.length Ca), (Value.slice Ab r_.costs.length Cb)].toArray 25)] ∧ fr [] [(19, (Value.bool v_1))] ∧ Step (ks [(some b1, Obj.cells [(Value.int .i64 r_.slots), (Value.slice Aa r_.owners.length Ca), (Value.slice Ab r_.costs.length Cb)].toArray 25)] O) w2 (ks Ebs O) w' ∧ St ⟨w, [], []⟩ O w' Ebs ∧ k8 v_1 = some x) ?_ ?_
 rintro ρ15 w11 ⟨v_1, Ebs, hEbs, hfr14, hst13, hs12, hm⟩
 replace hm := jnE1 hk9 hm
 subst hEbs; rw [hfr14.eq]; clear hfr14
 replace Fa := Fa.step hst13; replace Fb := Fb.step hst13; replace Fc := Fc.step hst13; replace Fd := Fd.step hst13; clear hst13 hs4
 refine Wy1 rfl (fun hc16 => ?_) (fun hc16 => ?_)
 replace hm := bif_t hm hc16
 refine Wp1 ?_
 obtain ⟨hs17, p18⟩ := hs12.sub (bs' := []) (.cons _ List.Sublist.slnil)
 clear Fa Fb Fc Fd
 clear p18 hs12
 refine Wm1 ?_
 refine Rk1 rfl (on1 (v := (Value.slice none 0 0)) rfl ?_)
 refine Rk1 rfl (on1 (v := (Value.bool false)) rfl ?_)
 refine Rk1 rfl (on1 (v := (Value.int .i64 370)) rfl ?_)
 refine Rq1 ?_
 refine Wa2 ?_
 have hz := step_all hs17
 refine ⟨_, (show Closes [] _ _ from rfl), [(Value.slice none 0 0), (Value.bool false), (Value.int .i64 370)], ⟨rfl, rfl, rfl, trivial⟩, hs17.ext, ?_⟩
 exact Vr.eq (a := (vT3 (vC (rSl (rInt .i64))) vB (vI .i64))) (x := (([] : List Int), false, 370)) (mkT3 (mkC (mk_sl SlR.nil_)) rfl ⟨rfl, (show InK .i64 370 from by decide)⟩) (Option.some.inj hm)
 replace hm := bif_f hm hc16
 refine Wx1 (Wp1 (Wp1 (Wm1 ?_)))
 refine Rk1 rfl (ol1 (v := (Value.slice Ad group.length Cd)) rfl ?_)
 replace hm := bd hm; obtain ⟨group_1, hv19, hm⟩ := hm
 refine Rk1 rfl (ob2 Try.call85 (c85_overflightref37_Group (l := group) hs12.ltw Fd hv19) rfl ?_)
 rintro v20 w21 ⟨hx22, h23⟩
 have hs24 := hs12.call hx22
 have p25 := Step.ext (O := ks [(some b1, Obj.cells [(Value.int .i64 r_.slots), (Value.slice Aa r_.owners.length Ca), (Value.slice Ab r_.costs.length Cb)].toArray 25)] O) hx22
 clear hx22
 replace Fa := Fa.step p25; replace Fb := Fb.step p25; replace Fc := Fc.step p25; replace Fd := Fd.step p25; clear p25 hs12
 obtain rfl := h23
 refine Rk1 rfl (op_not rfl ?_)
 refine Rq1 ?_
 refine Wy1 rfl (fun hc27 => ?_) (fun hc27 => ?_)
 replace hm := bif_t hm hc27
 refine Wp1 ?_
 obtain ⟨hs28, p29⟩ := hs24.sub (bs' := []) (.cons _ List.Sublist.slnil)
 clear Fa Fb Fc Fd
 clear p29 hs24
 refine Wm1 ?_
 refine Rk1 rfl (on1 (v := (Value.slice none 0 0)) rfl ?_)
 refine Rk1 rfl (on1 (v := (Value.bool false)) rfl ?_)
 refine Rk1 rfl (on1 (v := (Value.int .i64 1)) rfl ?_)
 refine Rq1 ?_
 refine Wa2 ?_
 have hz := step_all hs28
 refine ⟨_, (show Closes [] _ _ from rfl), [(Value.slice none 0 0), (Value.bool false), (Value.int .i64 1)], ⟨rfl, rfl, rfl, trivial⟩, hs28.ext, ?_⟩
 exact Vr.eq (a := (vT3 (vC (rSl (rInt .i64))) vB (vI .i64))) (x := (([] : List Int), false, 1)) (mkT3 (mkC (mk_sl SlR.nil_)) rfl ⟨rfl, (show InK .i64 1 from by decide)⟩) (Option.some.inj hm)
 replace hm := bif_f hm hc27
 refine Wx1 (Wp1 ?_)
 refine Wp_drawR (g0 := []) (m := 13) (fl := [12]) (TS_inv hs24) rfl (.inl rfl) rfl (by decide +kernel) ?_  -- 5
 refine Du1 (Value.agg [(Value.int .i64 r_.slots), (Value.slice Aa r_.owners.length Ca), (Value.slice Ab r_.costs.length Cb)].toArray) (fun ρ30 w31 g hle hi ht => ?_) ?_
 obtain ⟨-, hst, -⟩ := hle
 have hsn := (Step.nx hi).1
 refine So1 (op_loadA (cs := [(Value.int .i64 r_.slots), (Value.slice Aa r_.owners.length Ca), (Value.slice Ab r_.costs.length Cb)]) (vs := [(Value.int .i64 r_.slots), (Value.slice Aa r_.owners.length Ca), (Value.slice Ab r_.costs.length Cb)]) (i := 0) ty25 hsn (ht 3 rfl) rfl rfl rfl ?_)
 exact Goes.same hi rfl
 refine Du1 (Value.slice Ad group.length Cd) (fun ρ33 w34 g hle hi ht => ?_) ?_
 obtain ⟨-, hst, -⟩ := hle
 refine So1 (ol1 (v := (Value.slice Ad group.length Cd)) (ht 2 rfl) ?_)
 exact Goes.same hi rfl
 refine Du1 (Value.agg [(Value.int .i64 r_.slots), (Value.slice Aa r_.owners.length Ca), (Value.slice Ab r_.costs.length Cb)].toArray) (fun ρ36 w37 g hle hi ht => ?_) ?_
 obtain ⟨-, hst, -⟩ := hle
 have hsn := (Step.nx hi).1
 refine So1 (op_loadA (cs := [(Value.int .i64 r_.slots), (Value.slice Aa r_.owners.length Ca), (Value.slice Ab r_.costs.length Cb)]) (vs := [(Value.int .i64 r_.slots), (Value.slice Aa r_.owners.length Ca), (Value.slice Ab r_.costs.length Cb)]) (i := 0) ty25 hsn (ht 3 rfl) rfl rfl rfl ?_)
 exact Goes.same hi rfl
 refine Du1 (Value.slice Ad group.length Cd) (fun ρ39 w40 g hle hi ht => ?_) ?_
 obtain ⟨-, hst, -⟩ := hle
 refine So1 (ol1 (v := (Value.slice Ad group.length Cd)) (ht 2 rfl) ?_)
 exact Goes.same hi rfl
 replace hm := bd hm; obtain ⟨flights_1, hv45, hm⟩ := hm
 refine Dw_op (VD O [(some b1, Obj.cells [(Value.int .i64 r_.slots), (Value.slice Aa r_.owners.length Ca), (Value.slice Ab r_.costs.length Cb)].toArray 25)] (vC (rSl (rInt .i64))) flights_1) (VD.stab _ _) (fun ρ42 w43 g hle hi ht => ?_) ?_
 obtain ⟨-, hst, -⟩ := hle
 replace Fa := Fa.step hst; replace Fb := Fb.step hst; replace Fd := Fd.step hst
 refine So1 (ob2 Try.call87 (c87_overflightref37_Flights (O := ks (ents g ++ [(some b1, Obj.cells [(Value.int .i64 r_.slots), (Value.slice Aa r_.owners.length Ca), (Value.slice Ab r_.costs.length Cb)].toArray 25)]) O) (r_ := r_) (group := group) hi.ltw Ra Fa Fb Fd hv45) (by simp only [List.map, Array.toList, (show ev _ (.tmp 26) = _ from (ht 26 rfl)), (show ev _ (.tmp 27) = _ from (ht 27 rfl))] <;> rfl) ?_)
 rintro v46 w47 ⟨hx48, h49⟩
 exact Goes.call hi hx48 h49
 refine Dw_op (VD O [(some b1, Obj.cells [(Value.int .i64 r_.slots), (Value.slice Aa r_.owners.length Ca), (Value.slice Ab r_.costs.length Cb)].toArray 25)] (vC (rSl (rInt .i64))) []) (VD.stab _ _) (fun ρ51 w52 g hle hi ht => ?_) ?_
 obtain ⟨-, hst, -⟩ := hle
 replace Fa := Fa.step hst; replace Fb := Fb.step hst; replace Fc := Fc.step hst; replace Fd := Fd.step hst
 refine So1 (og2 (cs := []) (parts := []) ty22 ty3 hi (by decide) (by simp only [List.map]; rfl) ?_)
 intro b54 w55 hx58 p56 hs57
 replace Fa := Fa.step p56; replace Fb := Fb.step p56; replace Fc := Fc.step p56; replace Fd := Fd.step p56
 obtain ⟨hs60, p61, f62⟩ := St.publish (q := (rInt .i64)) (i := 0) (o := 0) (c := 0) (xs := []) hs57 rfl (show Els (rInt .i64) _ _ [] [] from Els.nil) (le_lit rfl) (le_lit rfl) (le_lit rfl)
 exact Goes.pub hi hs60 (Step.trans p56 p61) hx58 (show Vr.vd (vC (rSl (rInt .i64))) _ _ _ _ from mkC (mk_sl f62))
 refine Du1 (Value.agg [(Value.int .i64 r_.slots), (Value.slice Aa r_.owners.length Ca), (Value.slice Ab r_.costs.length Cb)].toArray) (fun ρ63 w64 g hle hi ht => ?_) ?_
 obtain ⟨-, hst, -⟩ := hle
 have hsn := (Step.nx hi).1
 refine So1 (op_loadA (cs := [(Value.int .i64 r_.slots), (Value.slice Aa r_.owners.length Ca), (Value.slice Ab r_.costs.length Cb)]) (vs := [(Value.int .i64 r_.slots), (Value.slice Aa r_.owners.length Ca), (Value.slice Ab r_.costs.length Cb)]) (i := 0) ty25 hsn (ht 3 rfl) rfl rfl rfl ?_)
 exact Goes.same hi rfl
 refine Du1 (Value.slice Ac slots.length Cc) (fun ρ66 w67 g hle hi ht => ?_) ?_
 obtain ⟨-, hst, -⟩ := hle
 refine So1 (ol1 (v := (Value.slice Ac slots.length Cc)) (ht 1 rfl) ?_)
 exact Goes.same hi rfl
 replace hm := bd hm; obtain ⟨costs_1, hv72, hm⟩ := hm
 refine Dw_op (VD O [(some b1, Obj.cells [(Value.int .i64 r_.slots), (Value.slice Aa r_.owners.length Ca), (Value.slice Ab r_.costs.length Cb)].toArray 25)] (vC (rSl (rInt .i64))) costs_1) (VD.stab _ _) (fun ρ69 w70 g hle hi ht => ?_) ?_
 obtain ⟨-, hst, -⟩ := hle
 replace Fa := Fa.step hst; replace Fb := Fb.step hst; replace Fc := Fc.step hst
 refine So1 (ob2 Try.call56 (c56_overflightref37_costs (O := ks (ents g ++ [(some b1, Obj.cells [(Value.int .i64 r_.slots), (Value.slice Aa r_.owners.length Ca), (Value.slice Ab r_.costs.length Cb)].toArray 25)]) O) (r_ := r_) (slots := slots) hi.ltw Ra Fa Fb Fc hv72) (by simp only [List.map, Array.toList, (show ev _ (.tmp 30) = _ from (ht 30 rfl)), (show ev _ (.tmp 31) = _ from (ht 31 rfl))] <;> rfl) ?_)
 rintro v73 w74 ⟨hx75, h76⟩
 exact Goes.call hi hx75 h76
 replace hm := bd hm; obtain ⟨search_1, hv90, hm⟩ := hm
 refine Dw_op (VD O [(some b1, Obj.cells [(Value.int .i64 r_.slots), (Value.slice Aa r_.owners.length Ca), (Value.slice Ab r_.costs.length Cb)].toArray 25)] (vT2 (vC (rSl (rInt .i64))) vB) search_1) (VD.stab _ _) (fun ρ78 w79 g hle hi ht => ?_) ?_
 obtain ⟨-, hst, -⟩ := hle
 replace Fa := Fa.step hst; replace Fb := Fb.step hst; replace Fd := Fd.step hst
 have h81 : Vr.vd (vC (rSl (rInt .i64))) _ _ _ _ := ht 32 rfl
 obtain ⟨Ae, Ce, q82, Fe⟩ := un_sl h81
 have h84 : Vr.vd (vC (rSl (rInt .i64))) _ _ _ _ := ht 28 rfl
 obtain ⟨Af, Cf, q85, Ff⟩ := un_sl h84
 have h87 : Vr.vd (vC (rSl (rInt .i64))) _ _ _ _ := ht 29 rfl
 obtain ⟨Ag, Cg, q88, Fg⟩ := un_sl h87
 refine So1 (ob2 Try.call86 (c86_overflightref37_search (O := ks (ents g ++ [(some b1, Obj.cells [(Value.int .i64 r_.slots), (Value.slice Aa r_.owners.length Ca), (Value.slice Ab r_.costs.length Cb)].toArray 25)]) O) (r_ := r_) (group := group) (flights := flights_1) (begin := []) (than := costs_1) hi.ltw Ra Fa Fb Fd Ff Fg Fe hv90) (by simp only [List.map, Array.toList, (show ev _ (.tmp 24) = _ from (ht 24 rfl)), (show ev _ (.tmp 25) = _ from (ht 25 rfl)), (show ev _ (.tmp 28) = _ from q85), (show ev _ (.tmp 29) = _ from q88), (show ev _ (.tmp 32) = _ from q82)] <;> rfl) ?_)
 rintro v91 w92 ⟨hx93, h94⟩
 exact Goes.call hi hx93 h94
 refine Dw_op (VD O [(some b1, Obj.cells [(Value.int .i64 r_.slots), (Value.slice Aa r_.owners.length Ca), (Value.slice Ab r_.costs.length Cb)].toArray 25)] (vT2 (vC (rSl (rInt .i64))) vB) search_1) (VD.stab _ _) (fun ρ96 w97 g hle hi ht => ?_) ?_
 obtain ⟨-, hst, -⟩ := hle
 have h : Vr.vd (vT2 (vC (rSl (rInt .i64))) vB) _ _ _ _ := ht 33 rfl
 refine So1 (ol1 rfl (Goes.same hi h))
 refine Dw_op (VD O [(some b1, Obj.cells [(Value.int .i64 r_.slots), (Value.slice Aa r_.owners.length Ca), (Value.slice Ab r_.costs.length Cb)].toArray 25)] (vC (rSl (rInt .i64))) search_1.1) (VD.stab _ _) (fun ρ107 w108 g hle hi ht => ?_) ?_
 obtain ⟨-, hst, -⟩ := hle
 have h110 : Vr.vd (vT2 (vC (rSl (rInt .i64))) vB) _ _ _ _ := ht 23 rfl
 obtain ⟨v112, v113, q111, h114, h115⟩ := h110
 obtain ⟨Ah, Ch, rfl, Fh⟩ := un_sl h114
 obtain rfl := h115
 refine So1 (oh2 (v := (Value.slice Ah search_1.1.length Ch)) q111 rfl ?_)
 exact Goes.same hi (show Vr.vd (vC (rSl (rInt .i64))) _ _ _ _ from (mkC (mk_sl Fh)))
 refine Du1 (Value.bool search_1.2) (fun ρ118 w119 g hle hi ht => ?_) ?_
 obtain ⟨-, hst, -⟩ := hle
 have h121 : Vr.vd (vT2 (vC (rSl (rInt .i64))) vB) _ _ _ _ := ht 23 rfl
 obtain ⟨v123, v124, q122, h125, h126⟩ := h121
 obtain ⟨Ai, Ci, rfl, Fi⟩ := un_sl h125
 obtain rfl := h126
 refine So1 (oh2 (v := (Value.bool search_1.2)) q122 rfl ?_)
 exact Goes.same hi rfl
 refine Dw_nil fun w133 g134 hl135 hi136 => ?_
 obtain ⟨-, hst137, -⟩ := hl135
 obtain ⟨hs139, p138⟩ := Step.nx hi136
 rintro _ rfl
 rintro v140 h141
 replace h141 : Vr.vd (vC (rSl (rInt .i64))) _ _ _ _ := h141
 obtain ⟨Aj, Cj, rfl, Fj⟩ := un_sl h141
 rintro v143 h144
 replace h144 : Vr.vd (vT2 (vC (rSl (rInt .i64))) vB) _ _ _ _ := h144
 obtain ⟨v145, v146, rfl, h147, h148⟩ := h144
 obtain ⟨Ak, Ck, rfl, Fk⟩ := un_sl h147
 obtain rfl := h148
 rintro v151 h152
 replace h152 : Vr.vd (vT2 (vC (rSl (rInt .i64))) vB) _ _ _ _ := h152
 obtain ⟨v153, v154, rfl, h155, h156⟩ := h152
 obtain ⟨Al, Cl, rfl, Fl⟩ := un_sl h155
 obtain rfl := h156
 rintro v159 h160
 replace h160 : Vr.vd (vC (rSl (rInt .i64))) _ _ _ _ := h160
 obtain ⟨Am, Cm, rfl, Fm⟩ := un_sl h160
 rintro _ rfl
 rintro _ rfl
 rintro v162 h163
 replace h163 : Vr.vd (vC (rSl (rInt .i64))) _ _ _ _ := h163
 obtain ⟨An, Cn, rfl, Fn⟩ := un_sl h163
 rintro v165 h166
 replace h166 : Vr.vd (vC (rSl (rInt .i64))) _ _ _ _ := h166
 obtain ⟨Ao, Co, rfl, Fo⟩ := un_sl h166
 rintro _ rfl
 rintro _ rfl
 rintro _ rfl
 rintro _ rfl
 have p168 : Step (ks [(some b1, Obj.cells [(Value.int .i64 r_.slots), (Value.slice Aa r_.owners.length Ca), (Value.slice Ab r_.costs.length Cb)].toArray 25)] O) w21 (ks [(some b1, Obj.cells [(Value.int .i64 r_.slots), (Value.slice Aa r_.owners.length Ca), (Value.slice Ab r_.costs.length Cb)].toArray 25)] O) w133 := hst137.trans p138
 replace Fj := Fj.step p138; replace Fk := Fk.step p138; replace Fl := Fl.step p138; replace Fm := Fm.step p138; replace Fn := Fn.step p138; replace Fo := Fo.step p138; replace Fa := Fa.step p168; replace Fb := Fb.step p168; replace Fc := Fc.step p168; replace Fd := Fd.step p168; clear p168 hs24
 refine Rk1 rfl (on1 (v := (Value.slice Aj search_1.1.length Cj)) rfl ?_)
 refine Rk1 rfl (on1 (v := (Value.bool search_1.2)) rfl ?_)
 refine Rq1 (Wp1 (Wp1 ?_))
 obtain ⟨hs169, p170⟩ := hs139.sub (bs' := []) (.cons _ List.Sublist.slnil)
 clear Fa Fb Fc Fd Fk Fl Fm Fn Fo
 replace Fj := Fj.step p170; clear p170 hs139
 refine Wm1 ?_
 refine Rk1 rfl (ol1 (v := (Value.bool search_1.2)) rfl ?_)
 refine Rk1 rfl (op_not rfl ?_)
 refine Rq1 ?_
 refine Wy1 rfl (fun hc171 => ?_) (fun hc171 => ?_)
 replace hm := bif_t hm hc171
 refine Wp1 ?_
 clear Fj
 refine Wm1 ?_
 refine Rk1 rfl (on1 (v := (Value.slice none 0 0)) rfl ?_)
 refine Rk1 rfl (on1 (v := (Value.bool false)) rfl ?_)
 refine Rk1 rfl (on1 (v := (Value.int .i64 0)) rfl ?_)
 refine Rq1 ?_
 refine Wa2 ?_
 have hz := step_all hs169
 refine ⟨_, (show Closes [] _ _ from rfl), [(Value.slice none 0 0), (Value.bool false), (Value.int .i64 0)], ⟨rfl, rfl, rfl, trivial⟩, hs169.ext, ?_⟩
 exact Vr.eq (a := (vT3 (vC (rSl (rInt .i64))) vB (vI .i64))) (x := (([] : List Int), false, 0)) (mkT3 (mkC (mk_sl SlR.nil_)) rfl ⟨rfl, (show InK .i64 0 from by decide)⟩) (Option.some.inj hm)
 replace hm := bif_f hm hc171
 refine Wx1 (Wp1 (Wm1 ?_))
 refine Rk1 rfl (ol1 (v := (Value.slice Aj search_1.1.length Cj)) rfl ?_)
 refine Rk1 rfl (on1 (v := (Value.slice Aj search_1.1.length Cj)) rfl ?_)
 refine Rk1 rfl (on1 (v := (Value.bool true)) rfl ?_)
 refine Rk1 rfl (on1 (v := (Value.int .i64 0)) rfl ?_)
 refine Rq1 ?_
 refine Wa2 ?_
 have hz := step_all hs169
 replace Fj := Fj.step hz
 refine ⟨_, (show Closes [] _ _ from rfl), [(Value.slice Aj search_1.1.length Cj), (Value.bool true), (Value.int .i64 0)], ⟨rfl, rfl, rfl, trivial⟩, hs169.ext, ?_⟩
 exact Vr.eq (a := (vT3 (vC (rSl (rInt .i64))) vB (vI .i64))) (x := (search_1.1, true, 0)) (mkT3 (mkC (mk_sl Fj)) rfl ⟨rfl, (show InK .i64 0 from by decide)⟩) (Option.some.inj hm)
 intro K10 hK10
 have ch172 := Step.refl (ks [(some b1, Obj.cells [(Value.int .i64 r_.slots), (Value.slice Aa r_.owners.length Ca), (Value.slice Ab r_.costs.length Cb)].toArray 25)] O) w2
 refine Wm1 ?_
 refine Rk1 rfl (op_loadA (cs := [(Value.int .i64 r_.slots), (Value.slice Aa r_.owners.length Ca), (Value.slice Ab r_.costs.length Cb)]) (vs := [(Value.int .i64 r_.slots), (Value.slice Aa r_.owners.length Ca), (Value.slice Ab r_.costs.length Cb)]) (i := 0) ty25 hs4 rfl rfl rfl rfl ?_)
 replace hm := bd hm; obtain ⟨valid_1, hv173, hm⟩ := hm
 refine Rk1 rfl (ob2 Try.call54 (c54_overflightref37_Valid (r_ := r_) hs4.ltw Ra Fa Fb hv173) rfl ?_)
 rintro v174 w175 ⟨hx176, h177⟩
 have hs178 := hs4.call hx176
 have p179 := Step.ext (O := ks [(some b1, Obj.cells [(Value.int .i64 r_.slots), (Value.slice Aa r_.owners.length Ca), (Value.slice Ab r_.costs.length Cb)].toArray 25)] O) hx176
 clear hx176
 replace Fa := Fa.step p179; replace Fb := Fb.step p179; replace Fc := Fc.step p179; replace Fd := Fd.step p179; replace ch172 := ch172.trans p179; clear p179 hs4
 obtain rfl := h177
 refine Rk1 rfl (op_not rfl ?_)
 refine Rk1 rfl (ol1 (v := (Value.bool (!valid_1))) rfl ?_)
 refine Rg_case (fun hg181 => ?_) (fun hg181 => ?_)
 replace hm := bif_t hm hg181
 iterate 4 refine Rt1 rfl (asB_ne rfl rfl) rfl ?_
 refine Rk1 rfl (oc2 (v := (Value.bool true)) rfl rfl ?_)
 refine Rq1 ?_
 exact hK10 _ _ ⟨true, _, rfl, ⟨(by repeat (first | with_reducible exact Out.refl _ _ | refine Out.upd ?_ rfl | refine Out.updL ?_ rfl | refine Out.mix' ?_ rfl | exact Out.refl _ _)), rfl, rfl, trivial⟩, ch172, hs178, hm⟩
 replace hm := bif_f hm hg181
 refine Rs1 rfl rfl rfl (op_loadA (cs := [(Value.int .i64 r_.slots), (Value.slice Aa r_.owners.length Ca), (Value.slice Ab r_.costs.length Cb)]) (vs := [(Value.int .i64 r_.slots), (Value.slice Aa r_.owners.length Ca), (Value.slice Ab r_.costs.length Cb)]) (i := 0) ty25 hs178 rfl rfl rfl rfl ?_)
 refine Rs1 rfl rfl rfl (ol1 (v := (Value.slice Ac slots.length Cc)) rfl ?_)
 replace hm := bd hm; obtain ⟨assignment_1, hv182, hm⟩ := hm
 refine Rs1 rfl rfl rfl (ob2 Try.call55 (c55_overflightref37_Assignment (r_ := r_) (slots := slots) hs178.ltw Ra Fa Fb Fc hv182) rfl ?_)
 rintro v183 w184 ⟨hx185, h186⟩
 have hs187 := hs178.call hx185
 have p188 := Step.ext (O := ks [(some b1, Obj.cells [(Value.int .i64 r_.slots), (Value.slice Aa r_.owners.length Ca), (Value.slice Ab r_.costs.length Cb)].toArray 25)] O) hx185
 clear hx185
 replace Fa := Fa.step p188; replace Fb := Fb.step p188; replace Fc := Fc.step p188; replace Fd := Fd.step p188; replace ch172 := ch172.trans p188; clear p188 hs178
 obtain rfl := h186
 refine Rs1 rfl rfl rfl (op_not rfl ?_)
 refine Rk1 rfl (or1 (v := (Value.bool (!assignment_1))) rfl rfl ?_)
 refine Rq1 ?_
 exact hK10 _ _ ⟨(!assignment_1), _, rfl, ⟨(by repeat (first | with_reducible exact Out.refl _ _ | refine Out.upd ?_ rfl | refine Out.updL ?_ rfl | refine Out.mix' ?_ rfl | exact Out.refl _ _)), rfl, rfl, trivial⟩, ch172, hs187, hm⟩

def m44_overflightref37_Stable_B0 (r_ : XRound) (slots : List Int) (groups_1 : (List (List Int))) (sf36 : Int → Option (Bool × Int)) (i_1 : Int) : Option (Bool × Int) :=
 bif (decide (i_1 < (groups_1.length : Int))) then
  ck ((0 : Int) ≤ i_1 ∧ i_1 < (groups_1.length : Int)) <|
  (m67_overflightref37_Blocks r_ slots (groups_1.getD i_1.toNat default)).bind fun blocks_1 =>
  bif blocks_1.2.1 then
   some (false, 0)
  else
   sf36 (IntKind.wrap .i64 (i_1 + 1))
 else
  some (true, 0)

def m44_overflightref37_Stable (r_ : XRound) (slots : List Int) : Option (Bool × Int) :=
 (m65_overflightref37_Worse r_ slots).bind fun worse_1 =>
 bif (decide (worse_1.2 ≠ 0)) then
  some (false, worse_1.2)
 else
  bif (decide (0 < (worse_1.1.length : Int))) then
   some (false, 0)
  else
   (m66_overflightref37_Groups r_).bind fun groups_1 =>
   loop1 (m44_overflightref37_Stable_B0 r_ slots groups_1) (((groups_1.length : Int) - 0).toNat + 1) 0

theorem c44_overflightref37_Stable {w : World} {O : List Nat} {r_ : XRound} {slots : List Int} {Aa : Option Addr} {Ca : Nat} {Ab : Option Addr} {Cb : Nat} {Ac : Option Addr} {Cc : Nat} (hO : ∀ k ∈ O, k < w.heap.size) (Ra : InK .i64 r_.slots) (Fa : SlR (rInt .i64) w O Aa Ca r_.owners) (Fb : SlR (rSl (rInt .i64)) w O Ab Cb r_.costs) (Fc : SlR (rInt .i64) w O Ac Cc slots) {x : Bool × Int} (hm : m44_overflightref37_Stable r_ slots = some x) :
 Ok Try.prog 44 [(Value.agg [(Value.int .i64 r_.slots), (Value.slice Aa r_.owners.length Ca), (Value.slice Ab r_.costs.length Cb)].toArray), (Value.slice Ac slots.length Cc)] w O (vT2 vB (vI .i64)) x := by
 unfold m44_overflightref37_Stable at hm
 refine Fn_of_Wp (n := 45) (xs := [.tmp 4, .tmp 5]) Try.func44 rfl Try.ntmps44 Try.results44 rfl ?_
 have hs := St.start hO
 refine Wp1 (Wm1 ?_)
 refine Rk1 rfl (op_box (cs := [(Value.int .i64 r_.slots), (Value.slice Aa r_.owners.length Ca), (Value.slice Ab r_.costs.length Cb)]) hs rfl rfl ?_)
 intro b1 w2 _ p3 hs4
 replace Fa := Fa.step p3; replace Fb := Fb.step p3; replace Fc := Fc.step p3; clear p3
 refine Rk1 rfl (on1 (v := (Value.bool false)) rfl ?_)
 refine Rk1 rfl (on1 (v := (Value.int .i64 0)) rfl ?_)
 refine Rq1 (Wp1 (Wm1 ?_))
 refine Rk1 rfl (op_loadA (cs := [(Value.int .i64 r_.slots), (Value.slice Aa r_.owners.length Ca), (Value.slice Ab r_.costs.length Cb)]) (vs := [(Value.int .i64 r_.slots), (Value.slice Aa r_.owners.length Ca), (Value.slice Ab r_.costs.length Cb)]) (i := 0) ty25 hs4 rfl rfl rfl rfl ?_)
 refine Rk1 rfl (ol1 (v := (Value.slice Ac slots.length Cc)) rfl ?_)
 replace hm := bd hm; obtain ⟨worse_1, hv6, hm⟩ := hm
 refine Rk1 rfl (ob2 Try.call65 (c65_overflightref37_Worse (r_ := r_) (slots := slots) hs4.ltw Ra Fa Fb Fc hv6) rfl ?_)
 rintro v7 w8 ⟨hx9, h10⟩
 have hs11 := hs4.call hx9
 have p12 := Step.ext (O := ks [(some b1, Obj.cells [(Value.int .i64 r_.slots), (Value.slice Aa r_.owners.length Ca), (Value.slice Ab r_.costs.length Cb)].toArray 25)] O) hx9
 clear hx9
 replace Fa := Fa.step p12; replace Fb := Fb.step p12; replace Fc := Fc.step p12; clear p12 hs4
 obtain ⟨v13, v14, rfl, h15, h16⟩ := h10
 obtain ⟨Ad, Cd, rfl, Fd⟩ := un_sl h15
 obtain ⟨rfl, Rb⟩ := h16
 refine Rk1 rfl (ol1 (v := (Value.tuple [(Value.slice Ad worse_1.1.length Cd), (Value.int .i64 worse_1.2)].toArray)) rfl ?_)
 refine Rk1 rfl (oh2 (v := (Value.slice Ad worse_1.1.length Cd)) rfl rfl ?_)
 refine Rk1 rfl (oh2 (v := (Value.int .i64 worse_1.2)) rfl rfl ?_)
 refine Rk1 rfl (on1 (v := (Value.slice Ad worse_1.1.length Cd)) rfl ?_)
 refine Rk1 rfl (on1 (v := (Value.int .i64 worse_1.2)) rfl ?_)
 refine Rq1 (Wp1 (Wp1 (Wm1 ?_)))
 refine Rk1 rfl (ol1 (v := (Value.int .i64 worse_1.2)) rfl ?_)
 refine Rk1 rfl (op_neq rfl rfl ?_)
 refine Rq1 ?_
 refine Wy1 rfl (fun hc19 => ?_) (fun hc19 => ?_)
 replace hm := bif_t hm hc19
 refine Wp1 ?_
 obtain ⟨hs20, p21⟩ := hs11.sub (bs' := []) (.cons _ List.Sublist.slnil)
 clear Fa Fb Fc Fd
 clear p21 hs11
 refine Wm1 ?_
 refine Rk1 rfl (ol1 (v := (Value.int .i64 worse_1.2)) rfl ?_)
 refine Rk1 rfl (on1 (v := (Value.bool false)) rfl ?_)
 refine Rk1 rfl (on1 (v := (Value.int .i64 worse_1.2)) rfl ?_)
 refine Rq1 ?_
 refine Wa2 ?_
 have hz := step_all hs20
 refine ⟨_, (show Closes [] _ _ from rfl), [(Value.bool false), (Value.int .i64 worse_1.2)], ⟨rfl, rfl, trivial⟩, hs20.ext, ?_⟩
 exact Vr.eq (a := (vT2 vB (vI .i64))) (x := (false, worse_1.2)) (mkT2 rfl ⟨rfl, Rb⟩) (Option.some.inj hm)
 replace hm := bif_f hm hc19
 refine Wx1 (Wp1 (Wp1 (Wm1 ?_)))
 refine Rk1 rfl (ol1 (v := (Value.slice Ad worse_1.1.length Cd)) rfl ?_)
 refine Rk1 rfl (op_len Try.underlying22 rfl ?_)
 have rl22 := inK_len Fd
 refine Rk1 rfl (op_gtr rfl rfl ?_)
 refine Rq1 ?_
 refine Wy1 rfl (fun hc23 => ?_) (fun hc23 => ?_)
 replace hm := bif_t hm hc23
 refine Wp1 ?_
 obtain ⟨hs24, p25⟩ := hs11.sub (bs' := []) (.cons _ List.Sublist.slnil)
 clear Fa Fb Fc Fd
 clear p25 hs11
 refine Wm1 ?_
 refine Rk1 rfl (on1 (v := (Value.bool false)) rfl ?_)
 refine Rk1 rfl (on1 (v := (Value.int .i64 0)) rfl ?_)
 refine Rq1 ?_
 refine Wa2 ?_
 have hz := step_all hs24
 refine ⟨_, (show Closes [] _ _ from rfl), [(Value.bool false), (Value.int .i64 0)], ⟨rfl, rfl, trivial⟩, hs24.ext, ?_⟩
 exact Vr.eq (a := (vT2 vB (vI .i64))) (x := (false, 0)) (mkT2 rfl ⟨rfl, (show InK .i64 0 from by decide)⟩) (Option.some.inj hm)
 replace hm := bif_f hm hc23
 refine Wx1 (Wp1 ?_)
 clear Fd
 refine Wm1 ?_
 refine Rk1 rfl (op_loadA (cs := [(Value.int .i64 r_.slots), (Value.slice Aa r_.owners.length Ca), (Value.slice Ab r_.costs.length Cb)]) (vs := [(Value.int .i64 r_.slots), (Value.slice Aa r_.owners.length Ca), (Value.slice Ab r_.costs.length Cb)]) (i := 0) ty25 hs11 rfl rfl rfl rfl ?_)
 replace hm := bd hm; obtain ⟨groups_1, hv26, hm⟩ := hm
 refine Rk1 rfl (ob2 Try.call66 (c66_overflightref37_Groups (r_ := r_) hs11.ltw Ra Fa Fb hv26) rfl ?_)
 rintro v27 w28 ⟨hx29, h30⟩
 have hs31 := hs11.call hx29
 have p32 := Step.ext (O := ks [(some b1, Obj.cells [(Value.int .i64 r_.slots), (Value.slice Aa r_.owners.length Ca), (Value.slice Ab r_.costs.length Cb)].toArray 25)] O) hx29
 clear hx29
 replace Fa := Fa.step p32; replace Fb := Fb.step p32; replace Fc := Fc.step p32; clear p32 hs11
 obtain ⟨Ae, Ce, rfl, Fe⟩ := un_sl h30
 refine Rk1 rfl (on1 (v := (Value.slice Ae groups_1.length Ce)) rfl ?_)
 refine Rq1 (Wp1 (Wp1 (Wm1 ?_)))
 refine Rk1 rfl (on1 (v := (Value.int .i64 0)) rfl ?_)
 refine Rq1 (Wf2 ?_)
 refine Wp_reset [] [(1, (Value.slice Ac slots.length Cc)), (2, (Value.pointer (some ⟨b1, 0, none⟩))), (8, (Value.slice Ae groups_1.length Ce)), (9, (Value.int .i64 0))] rfl ⟨rfl, rfl, rfl, rfl, trivial⟩ fun ξ35 => ?_
 refine Wp_loopM [4, 5, 9, 10, 11, 12, 27, 28, 29, 30, 31, 32, 33, 34, 35, 36, 37, 38, 39, 40, 41, 42, 43, 44] (fun m fr w' => ∃ (i_1 : Int) (Ebs : Ents), Ebs = [(some b1, Obj.cells [(Value.int .i64 r_.slots), (Value.slice Aa r_.owners.length Ca), (Value.slice Ab r_.costs.length Cb)].toArray 25)] ∧ fr [] [(9, (Value.int .i64 i_1))] ∧ Step (ks [(some b1, Obj.cells [(Value.int .i64 r_.slots), (Value.slice Aa r_.owners.length Ca), (Value.slice Ab r_.costs.length Cb)].toArray 25)] O) w28 (ks Ebs O) w' ∧ St ⟨w, [], []⟩ O w' Ebs ∧ InK .i64 i_1 ∧ loop1 (m44_overflightref37_Stable_B0 r_ slots groups_1) m i_1 = some x) (((groups_1.length : Int) - 0).toNat + 1) ⟨0, _, rfl, ⟨Out.refl _ _, rfl, rfl, trivial⟩, Step.refl _ _, hs31, (show InK .i64 0 from by decide), hm⟩ ?_ ?_
 rintro _ _ ⟨_, _, _, _, _, _, _, hm⟩; exact loop1_z hm
 rintro m39 K38 hK38 ρ44 w40 ⟨i_1, Ebs, hEbs, hfr43, hst42, hs41, Rc, hm⟩
 obtain ⟨sf36, hsf37, hm⟩ := loop1_s hm; unfold m44_overflightref37_Stable_B0 at hm
 subst hEbs; rw [hfr43.eq]; clear hfr43
 replace Fa := Fa.step hst42; replace Fb := Fb.step hst42; replace Fc := Fc.step hst42; replace Fe := Fe.step hst42
 have ch45 := hst42
 refine Wp1 (Wp1 (Wm1 ?_))
 refine Rk1 rfl (ol1 (v := (Value.int .i64 i_1)) rfl ?_)
 refine Rk1 rfl (ol1 (v := (Value.slice Ae groups_1.length Ce)) rfl ?_)
 refine Rk1 rfl (op_len Try.underlying23 rfl ?_)
 have rl46 := inK_len Fe
 refine Rk1 rfl (op_lss rfl rfl ?_)
 refine Rq1 ?_
 refine Wy1 rfl (fun hc47 => ?_) (fun hc47 => ?_)
 replace hm := bif_t hm hc47
 refine Wx1 (Wp1 (Wf2 (Wp1 ?_)))
 refine Wp_drawR (g0 := []) (m := 11) (fl := [9, 10]) (TS_inv hs41) rfl (.inl rfl) rfl (by decide +kernel) ?_  -- 10
 refine Du1 (Value.agg [(Value.int .i64 r_.slots), (Value.slice Aa r_.owners.length Ca), (Value.slice Ab r_.costs.length Cb)].toArray) (fun ρ48 w49 g hle hi ht => ?_) ?_
 obtain ⟨-, hst, -⟩ := hle
 have hsn := (Step.nx hi).1
 refine So1 (op_loadA (cs := [(Value.int .i64 r_.slots), (Value.slice Aa r_.owners.length Ca), (Value.slice Ab r_.costs.length Cb)]) (vs := [(Value.int .i64 r_.slots), (Value.slice Aa r_.owners.length Ca), (Value.slice Ab r_.costs.length Cb)]) (i := 0) ty25 hsn (ht 2 rfl) rfl rfl rfl ?_)
 exact Goes.same hi rfl
 refine Du1 (Value.slice Ac slots.length Cc) (fun ρ51 w52 g hle hi ht => ?_) ?_
 obtain ⟨-, hst, -⟩ := hle
 refine So1 (ol1 (v := (Value.slice Ac slots.length Cc)) (ht 1 rfl) ?_)
 exact Goes.same hi rfl
 refine Du1 (Value.slice Ae groups_1.length Ce) (fun ρ54 w55 g hle hi ht => ?_) ?_
 obtain ⟨-, hst, -⟩ := hle
 refine So1 (ol1 (v := (Value.slice Ae groups_1.length Ce)) (ht 8 rfl) ?_)
 exact Goes.same hi rfl
 refine Du1 (Value.int .i64 i_1) (fun ρ57 w58 g hle hi ht => ?_) ?_
 obtain ⟨-, hst, -⟩ := hle
 refine So1 (ol1 (v := (Value.int .i64 i_1)) (ht 9 rfl) ?_)
 exact Goes.same hi rfl
 replace hm := ck_some hm; obtain ⟨hc63, hm⟩ := hm
 refine Dw_op (VP O [(some b1, Obj.cells [(Value.int .i64 r_.slots), (Value.slice Aa r_.owners.length Ca), (Value.slice Ab r_.costs.length Cb)].toArray 25)] (rSl (rInt .i64)) (groups_1.getD i_1.toNat default)) (VP.stab _ _) (fun ρ60 w61 g hle hi ht => ?_) ?_
 obtain ⟨-, hst, -⟩ := hle
 replace Fe := Fe.step hst
 refine So1 (ow1 (q := (rSl (rInt .i64))) ty23 ty22 (ht 36 rfl) (ht 37 rfl) Fe rfl hc63.1 hc63.2 ?_)
 intro p64 f65
 exact Goes.same hi ⟨_, rfl, f65⟩
 refine Dw_op (VD O [(some b1, Obj.cells [(Value.int .i64 r_.slots), (Value.slice Aa r_.owners.length Ca), (Value.slice Ab r_.costs.length Cb)].toArray 25)] (vC (rSl (rInt .i64))) (groups_1.getD i_1.toNat default)) (VD.stab _ _) (fun ρ66 w67 g hle hi ht => ?_) ?_
 obtain ⟨-, hst, -⟩ := hle
 obtain ⟨p69, q70, f71⟩ := ht 38 rfl
 refine So1 (oz1 ty22 q70 f71 rfl ?_)
 intro v72 h73
 obtain ⟨Af, Cf, rfl, Ff⟩ := un_sl h73
 exact Goes.same hi (show Vr.vd (vC (rSl (rInt .i64))) _ _ _ _ from (mkC (mk_sl Ff)))
 replace hm := bd hm; obtain ⟨blocks_1, hv81, hm⟩ := hm
 refine Dw_op (VD O [(some b1, Obj.cells [(Value.int .i64 r_.slots), (Value.slice Aa r_.owners.length Ca), (Value.slice Ab r_.costs.length Cb)].toArray 25)] (vT3 (vC (rSl (rInt .i64))) vB (vI .i64)) blocks_1) (VD.stab _ _) (fun ρ75 w76 g hle hi ht => ?_) ?_
 obtain ⟨-, hst, -⟩ := hle
 replace Fa := Fa.step hst; replace Fb := Fb.step hst; replace Fc := Fc.step hst
 have h78 : Vr.vd (vC (rSl (rInt .i64))) _ _ _ _ := ht 39 rfl
 obtain ⟨Ag, Cg, q79, Fg⟩ := un_sl h78
 refine So1 (ob2 Try.call67 (c67_overflightref37_Blocks (O := ks (ents g ++ [(some b1, Obj.cells [(Value.int .i64 r_.slots), (Value.slice Aa r_.owners.length Ca), (Value.slice Ab r_.costs.length Cb)].toArray 25)]) O) (r_ := r_) (slots := slots) (group := (groups_1.getD i_1.toNat default)) hi.ltw Ra Fa Fb Fc Fg hv81) (by simp only [List.map, Array.toList, (show ev _ (.tmp 34) = _ from (ht 34 rfl)), (show ev _ (.tmp 35) = _ from (ht 35 rfl)), (show ev _ (.tmp 39) = _ from q79)] <;> rfl) ?_)
 rintro v82 w83 ⟨hx84, h85⟩
 exact Goes.call hi hx84 h85
 refine Dw_op (VD O [(some b1, Obj.cells [(Value.int .i64 r_.slots), (Value.slice Aa r_.owners.length Ca), (Value.slice Ab r_.costs.length Cb)].toArray 25)] (vT3 (vC (rSl (rInt .i64))) vB (vI .i64)) blocks_1) (VD.stab _ _) (fun ρ87 w88 g hle hi ht => ?_) ?_
 obtain ⟨-, hst, -⟩ := hle
 have h : Vr.vd (vT3 (vC (rSl (rInt .i64))) vB (vI .i64)) _ _ _ _ := ht 40 rfl
 refine So1 (ol1 rfl (Goes.same hi h))
 refine Dw_op (VD O [(some b1, Obj.cells [(Value.int .i64 r_.slots), (Value.slice Aa r_.owners.length Ca), (Value.slice Ab r_.costs.length Cb)].toArray 25)] (vC (rSl (rInt .i64))) blocks_1.1) (VD.stab _ _) (fun ρ101 w102 g hle hi ht => ?_) ?_
 obtain ⟨-, hst, -⟩ := hle
 have h104 : Vr.vd (vT3 (vC (rSl (rInt .i64))) vB (vI .i64)) _ _ _ _ := ht 33 rfl
 obtain ⟨v106, v107, v108, q105, h109, h110, h111⟩ := h104
 obtain ⟨Ah, Ch, rfl, Fh⟩ := un_sl h109
 obtain rfl := h110
 obtain ⟨rfl, Rd⟩ := h111
 refine So1 (oh2 (v := (Value.slice Ah blocks_1.1.length Ch)) q105 rfl ?_)
 exact Goes.same hi (show Vr.vd (vC (rSl (rInt .i64))) _ _ _ _ from (mkC (mk_sl Fh)))
 refine Du1 (Value.bool blocks_1.2.1) (fun ρ115 w116 g hle hi ht => ?_) ?_
 obtain ⟨-, hst, -⟩ := hle
 have h118 : Vr.vd (vT3 (vC (rSl (rInt .i64))) vB (vI .i64)) _ _ _ _ := ht 33 rfl
 obtain ⟨v120, v121, v122, q119, h123, h124, h125⟩ := h118
 obtain ⟨Ai, Ci, rfl, Fi⟩ := un_sl h123
 obtain rfl := h124
 obtain ⟨rfl, Re⟩ := h125
 refine So1 (oh2 (v := (Value.bool blocks_1.2.1)) q119 rfl ?_)
 exact Goes.same hi rfl
 refine Dw_op (VD O [(some b1, Obj.cells [(Value.int .i64 r_.slots), (Value.slice Aa r_.owners.length Ca), (Value.slice Ab r_.costs.length Cb)].toArray 25)] (vI .i64) blocks_1.2.2) (VD.stab _ _) (fun ρ129 w130 g hle hi ht => ?_) ?_
 obtain ⟨-, hst, -⟩ := hle
 have h132 : Vr.vd (vT3 (vC (rSl (rInt .i64))) vB (vI .i64)) _ _ _ _ := ht 33 rfl
 obtain ⟨v134, v135, v136, q133, h137, h138, h139⟩ := h132
 obtain ⟨Aj, Cj, rfl, Fj⟩ := un_sl h137
 obtain rfl := h138
 obtain ⟨rfl, Rf⟩ := h139
 refine So1 (oh2 (v := (Value.int .i64 blocks_1.2.2)) q133 rfl ?_)
 exact Goes.same hi (show Vr.vd (vI .i64) _ _ _ _ from ⟨rfl, Rf⟩)
 refine Dw_nil fun w147 g148 hl149 hi150 => ?_
 obtain ⟨-, hst151, -⟩ := hl149
 obtain ⟨hs153, p152⟩ := Step.nx hi150
 rintro v154 h155
 replace h155 : Vr.vd (vI .i64) _ _ _ _ := h155
 obtain ⟨rfl, Rg⟩ := h155
 rintro _ rfl
 rintro v157 h158
 replace h158 : Vr.vd (vC (rSl (rInt .i64))) _ _ _ _ := h158
 obtain ⟨Ak, Ck, rfl, Fk⟩ := un_sl h158
 rintro v160 h161
 replace h161 : Vr.vd (vT3 (vC (rSl (rInt .i64))) vB (vI .i64)) _ _ _ _ := h161
 obtain ⟨v162, v163, v164, rfl, h165, h166, h167⟩ := h161
 obtain ⟨Al, Cl, rfl, Fl⟩ := un_sl h165
 obtain rfl := h166
 obtain ⟨rfl, Rh⟩ := h167
 rintro v171 h172
 replace h172 : Vr.vd (vT3 (vC (rSl (rInt .i64))) vB (vI .i64)) _ _ _ _ := h172
 obtain ⟨v173, v174, v175, rfl, h176, h177, h178⟩ := h172
 obtain ⟨Am, Cm, rfl, Fm⟩ := un_sl h176
 obtain rfl := h177
 obtain ⟨rfl, Ri⟩ := h178
 rintro v182 h183
 replace h183 : Vr.vd (vC (rSl (rInt .i64))) _ _ _ _ := h183
 obtain ⟨An, Cn, rfl, Fn⟩ := un_sl h183
 rintro _ ⟨p185, rfl, f186⟩
 rintro _ rfl
 rintro _ rfl
 rintro _ rfl
 rintro _ rfl
 have p187 : Step (ks [(some b1, Obj.cells [(Value.int .i64 r_.slots), (Value.slice Aa r_.owners.length Ca), (Value.slice Ab r_.costs.length Cb)].toArray 25)] O) w40 (ks [(some b1, Obj.cells [(Value.int .i64 r_.slots), (Value.slice Aa r_.owners.length Ca), (Value.slice Ab r_.costs.length Cb)].toArray 25)] O) w147 := hst151.trans p152
 replace Fk := Fk.step p152; replace Fl := Fl.step p152; replace Fm := Fm.step p152; replace Fn := Fn.step p152; replace f186 := f186.step p152; replace Fa := Fa.step p187; replace Fb := Fb.step p187; replace Fc := Fc.step p187; replace Fe := Fe.step p187; replace ch45 := ch45.trans p187; clear p187 hs41
 refine Rk1 rfl (on1 (v := (Value.slice Ak blocks_1.1.length Ck)) rfl ?_)
 refine Rk1 rfl (on1 (v := (Value.bool blocks_1.2.1)) rfl ?_)
 refine Rk1 rfl (on1 (v := (Value.int .i64 blocks_1.2.2)) rfl ?_)
 refine Rq1 (Wp1 ?_)
 clear Fk Fl Fm Fn f186
 refine Wm1 ?_
 refine Rk1 rfl (ol1 (v := (Value.bool blocks_1.2.1)) rfl ?_)
 refine Rq1 ?_
 refine Wy1 rfl (fun hc188 => ?_) (fun hc188 => ?_)
 replace hm := bif_t hm hc188
 refine Wp1 ?_
 clear Fc Fe
 refine Wm1 ?_
 refine Rk1 rfl (on1 (v := (Value.bool false)) rfl ?_)
 refine Rk1 rfl (on1 (v := (Value.int .i64 0)) rfl ?_)
 refine Rq1 ?_
 refine Wa2 ?_
 have hz := step_all hs153
 replace Fa := Fa.step hz; replace Fb := Fb.step hz
 refine ⟨_, (show Closes [] _ _ from rfl), [(Value.bool false), (Value.int .i64 0)], ⟨rfl, rfl, trivial⟩, hs153.ext, ?_⟩
 exact Vr.eq (a := (vT2 vB (vI .i64))) (x := (false, 0)) (mkT2 rfl ⟨rfl, (show InK .i64 0 from by decide)⟩) (Option.some.inj hm)
 replace hm := bif_f hm hc188
 refine Wx1 (Wm1 ?_)
 refine Rk1 rfl (ol1 (v := (Value.int .i64 i_1)) rfl ?_)
 refine Rk1 rfl (op_addw rfl rfl ?_)
 refine Rk1 rfl (on1 (v := (Value.int .i64 (IntKind.wrap .i64 (i_1 + 1)))) rfl ?_)
 refine Rq1 ?_
 exact hK38 _ _ ⟨(IntKind.wrap .i64 (i_1 + 1)), _, rfl, ⟨(by repeat (first | with_reducible exact Out.refl _ _ | refine Out.upd ?_ rfl | refine Out.updL ?_ rfl | refine Out.mix' ?_ rfl | exact Out.refl _ _)), rfl, rfl, trivial⟩, ch45, hs153, (inK_wrap .i64 _), jnE1 hsf37 hm⟩
 replace hm := bif_f hm hc47
 refine Wp_exit (Wp1 ?_)
 obtain ⟨hs189, p190⟩ := hs41.sub (bs' := []) (.cons _ List.Sublist.slnil)
 clear Fa Fb Fc Fe
 replace ch45 := ch45.trans p190; clear p190 hs41
 refine Wm1 ?_
 refine Rk1 rfl (on1 (v := (Value.bool true)) rfl ?_)
 refine Rk1 rfl (on1 (v := (Value.int .i64 0)) rfl ?_)
 refine Rq1 ?_
 refine Wa2 ?_
 have hz := step_all hs189
 refine ⟨_, (show Closes [] _ _ from rfl), [(Value.bool true), (Value.int .i64 0)], ⟨rfl, rfl, trivial⟩, hs189.ext, ?_⟩
 exact Vr.eq (a := (vT2 vB (vI .i64))) (x := (true, 0)) (mkT2 rfl ⟨rfl, (show InK .i64 0 from by decide)⟩) (Option.some.inj hm)

def m59_overflightref38_flightWith_B0 (slots : List Int) (slot : Int) (sf3 : Int → Option Int) (i_1 : Int) : Option Int :=
 bif (decide (i_1 < (slots.length : Int))) then
  ck ((0 : Int) ≤ i_1 ∧ i_1 < (slots.length : Int)) <|
  bif (decide ((slots.getD i_1.toNat default) = slot)) then
   some i_1
  else
   sf3 (IntKind.wrap .i64 (i_1 + 1))
 else
  some (-1)

def m59_overflightref38_flightWith (slots : List Int) (slot : Int) : Option Int :=
 loop1 (m59_overflightref38_flightWith_B0 slots slot) (((slots.length : Int) - 0).toNat + 1) 0

theorem c59_overflightref38_flightWith {w : World} {O : List Nat} {slots : List Int} {slot : Int} {Aa : Option Addr} {Ca : Nat} (hO : ∀ k ∈ O, k < w.heap.size) (Fa : SlR (rInt .i64) w O Aa Ca slots) (Ra : InK .i64 slot) {x : Int} (hm : m59_overflightref38_flightWith slots slot = some x) :
 Ok Try.prog 59 [(Value.slice Aa slots.length Ca), (Value.int .i64 slot)] w O (vI .i64) x := by
 unfold m59_overflightref38_flightWith at hm
 refine Fn_of_Wp (n := 19) (xs := [.tmp 4]) Try.func59 rfl Try.ntmps59 Try.results59 rfl ?_
 have hs := St.start hO
 refine Wp1 (Wm1 ?_)
 refine Rk1 rfl (on1 (v := (Value.int .i64 0)) rfl ?_)
 refine Rq1 (Wp1 (Wp1 (Wm1 ?_)))
 refine Rk1 rfl (on1 (v := (Value.int .i64 0)) rfl ?_)
 refine Rq1 (Wf2 ?_)
 refine Wp_reset [] [(0, (Value.slice Aa slots.length Ca)), (1, (Value.int .i64 slot)), (5, (Value.int .i64 0))] rfl ⟨rfl, rfl, rfl, trivial⟩ fun ξ2 => ?_
 refine Wp_loopM [4, 5, 6, 7, 8, 9, 10, 11, 12, 13, 14, 15, 16, 17, 18] (fun m fr w' => ∃ (i_1 : Int) (Ebs : Ents), Ebs = [] ∧ fr [] [(5, (Value.int .i64 i_1))] ∧ Step (ks [] O) w (ks Ebs O) w' ∧ St ⟨w, [], []⟩ O w' Ebs ∧ InK .i64 i_1 ∧ loop1 (m59_overflightref38_flightWith_B0 slots slot) m i_1 = some x) (((slots.length : Int) - 0).toNat + 1) ⟨0, _, rfl, ⟨Out.refl _ _, rfl, rfl, trivial⟩, Step.refl _ _, hs, (show InK .i64 0 from by decide), hm⟩ ?_ ?_
 rintro _ _ ⟨_, _, _, _, _, _, _, hm⟩; exact loop1_z hm
 rintro m6 K5 hK5 ρ11 w7 ⟨i_1, Ebs, hEbs, hfr10, hst9, hs8, Rb, hm⟩
 obtain ⟨sf3, hsf4, hm⟩ := loop1_s hm; unfold m59_overflightref38_flightWith_B0 at hm
 subst hEbs; rw [hfr10.eq]; clear hfr10
 replace Fa := Fa.step hst9
 have ch12 := hst9
 refine Wp1 (Wp1 (Wm1 ?_))
 refine Rk1 rfl (ol1 (v := (Value.int .i64 i_1)) rfl ?_)
 refine Rk1 rfl (ol1 (v := (Value.slice Aa slots.length Ca)) rfl ?_)
 refine Rk1 rfl (op_len Try.underlying22 rfl ?_)
 have rl13 := inK_len Fa
 refine Rk1 rfl (op_lss rfl rfl ?_)
 refine Rq1 ?_
 refine Wy1 rfl (fun hc14 => ?_) (fun hc14 => ?_)
 replace hm := bif_t hm hc14
 refine Wx1 (Wp1 (Wf2 (Wp1 (Wm1 ?_))))
 refine Rk1 rfl (ol1 (v := (Value.slice Aa slots.length Ca)) rfl ?_)
 refine Rk1 rfl (ol1 (v := (Value.int .i64 i_1)) rfl ?_)
 replace hm := ck_some hm; obtain ⟨hc15, hm⟩ := hm
 refine Rk1 rfl (ow1 (q := (rInt .i64)) ty22 ty3 rfl rfl Fa rfl hc15.1 hc15.2 ?_)
 intro p16 f17
 refine Rk1 rfl (oz1 ty3 rfl f17 rfl ?_)
 intro v18 h19
 obtain ⟨rfl, Rc⟩ := un_int h19
 refine Rk1 rfl (ol1 (v := (Value.int .i64 slot)) rfl ?_)
 refine Rk1 rfl (op_eql rfl rfl ?_)
 refine Rq1 ?_
 refine Wy1 rfl (fun hc21 => ?_) (fun hc21 => ?_)
 replace hm := bif_t hm hc21
 refine Wp1 ?_
 clear Fa f17
 refine Wm1 ?_
 refine Rk1 rfl (ol1 (v := (Value.int .i64 i_1)) rfl ?_)
 refine Rk1 rfl (on1 (v := (Value.int .i64 i_1)) rfl ?_)
 refine Rq1 ?_
 refine Wa2 ?_
 have hz := step_all hs8
 refine ⟨_, (show Closes [] _ _ from rfl), [(Value.int .i64 i_1)], ⟨rfl, trivial⟩, hs8.ext, ?_⟩
 exact Vr.eq (a := (vI .i64)) (x := i_1) ⟨rfl, Rb⟩ (Option.some.inj hm)
 replace hm := bif_f hm hc21
 refine Wx1 ?_
 clear f17
 refine Wm1 ?_
 refine Rk1 rfl (ol1 (v := (Value.int .i64 i_1)) rfl ?_)
 refine Rk1 rfl (op_addw rfl rfl ?_)
 refine Rk1 rfl (on1 (v := (Value.int .i64 (IntKind.wrap .i64 (i_1 + 1)))) rfl ?_)
 refine Rq1 ?_
 exact hK5 _ _ ⟨(IntKind.wrap .i64 (i_1 + 1)), _, rfl, ⟨(by repeat (first | with_reducible exact Out.refl _ _ | refine Out.upd ?_ rfl | refine Out.updL ?_ rfl | refine Out.mix' ?_ rfl | exact Out.refl _ _)), rfl, rfl, trivial⟩, ch12, hs8, (inK_wrap .i64 _), jnE1 hsf4 hm⟩
 replace hm := bif_f hm hc14
 refine Wp_exit (Wp1 ?_)
 clear Fa
 refine Wm1 ?_
 refine Rk1 rfl (on1 (v := (Value.int .i64 (-1))) rfl ?_)
 refine Rq1 ?_
 refine Wa2 ?_
 have hz := step_all hs8
 refine ⟨_, (show Closes [] _ _ from rfl), [(Value.int .i64 (-1))], ⟨rfl, trivial⟩, hs8.ext, ?_⟩
 exact Vr.eq (a := (vI .i64)) (x := (-1)) ⟨rfl, (show InK .i64 (-1) from by decide)⟩ (Option.some.inj hm)

def m31_overflightref37_Costs (r_ : XRound) (slots : List Int) : Option ((List Int) × Int) :=
 jn (fun (v_1 : Bool) =>
  bif v_1 then
   some (([] : List Int), 370)
  else
   (m56_overflightref37_costs r_ slots).bind fun costs_1 =>
   some (costs_1, 0))
 (fun k8 =>
  (m54_overflightref37_Valid r_).bind fun valid_1 =>
  bif (!valid_1) then
   k8 true
  else
   (m55_overflightref37_Assignment r_ slots).bind fun assignment_1 =>
   k8 (!assignment_1))

theorem c31_overflightref37_Costs {w : World} {O : List Nat} {r_ : XRound} {slots : List Int} {Aa : Option Addr} {Ca : Nat} {Ab : Option Addr} {Cb : Nat} {Ac : Option Addr} {Cc : Nat} (hO : ∀ k ∈ O, k < w.heap.size) (Ra : InK .i64 r_.slots) (Fa : SlR (rInt .i64) w O Aa Ca r_.owners) (Fb : SlR (rSl (rInt .i64)) w O Ab Cb r_.costs) (Fc : SlR (rInt .i64) w O Ac Cc slots) {x : (List Int) × Int} (hm : m31_overflightref37_Costs r_ slots = some x) :
 Ok Try.prog 31 [(Value.agg [(Value.int .i64 r_.slots), (Value.slice Aa r_.owners.length Ca), (Value.slice Ab r_.costs.length Cb)].toArray), (Value.slice Ac slots.length Cc)] w O (vT2 (vC (rSl (rInt .i64))) (vI .i64)) x := by
 unfold m31_overflightref37_Costs at hm
 refine Fn_of_Wp (n := 18) (xs := [.tmp 4, .tmp 5]) Try.func31 rfl Try.ntmps31 Try.results31 rfl ?_
 have hs := St.start hO
 refine Wp1 (Wm1 ?_)
 refine Rk1 rfl (op_box (cs := [(Value.int .i64 r_.slots), (Value.slice Aa r_.owners.length Ca), (Value.slice Ab r_.costs.length Cb)]) hs rfl rfl ?_)
 intro b1 w2 _ p3 hs4
 replace Fa := Fa.step p3; replace Fb := Fb.step p3; replace Fc := Fc.step p3; clear p3
 refine Rk1 rfl (on1 (v := (Value.slice none 0 0)) rfl ?_)
 refine Rk1 rfl (on1 (v := (Value.int .i64 0)) rfl ?_)
 refine Rq1 (Wp1 ?_)
 refine Wp_reset [] [(1, (Value.slice Ac slots.length Cc)), (2, (Value.pointer (some ⟨b1, 0, none⟩)))] rfl ⟨rfl, rfl, trivial⟩ fun ξ6 => ?_
 replace hm := jn_elim hm; obtain ⟨k8, hk9, hm⟩ := hm
 refine Wp_seqJ [6, 7, 8, 9, 10, 11, 12, 13, 14] (fun fr w' => ∃ (v_1 : Bool) (Ebs : Ents), Ebs = [(some b1, Obj.cells [(Value.int .i64 r_.slots), (Value.slice Aa r_.owners.length Ca), (Value.slice Ab r_.costs.length Cb)].toArray 25)] ∧ fr [] [(14, (Value.bool v_1))] ∧ Step (ks [(some b1, Obj.cells [(Value.int .i64 r_.slots), (Value.slice Aa r_.owners.length Ca), (Value.slice Ab r_.costs.length Cb)].toArray 25)] O) w2 (ks Ebs O) w' ∧ St ⟨w, [], []⟩ O w' Ebs ∧ k8 v_1 = some x) ?_ ?_
 rintro ρ15 w11 ⟨v_1, Ebs, hEbs, hfr14, hst13, hs12, hm⟩
 replace hm := jnE1 hk9 hm
 subst hEbs; rw [hfr14.eq]; clear hfr14
 replace Fa := Fa.step hst13; replace Fb := Fb.step hst13; replace Fc := Fc.step hst13; clear hst13 hs4
 refine Wy1 rfl (fun hc16 => ?_) (fun hc16 => ?_)
 replace hm := bif_t hm hc16
 refine Wp1 ?_
 obtain ⟨hs17, p18⟩ := hs12.sub (bs' := []) (.cons _ List.Sublist.slnil)
 clear Fa Fb Fc
 clear p18 hs12
 refine Wm1 ?_
 refine Rk1 rfl (on1 (v := (Value.slice none 0 0)) rfl ?_)
 refine Rk1 rfl (on1 (v := (Value.int .i64 370)) rfl ?_)
 refine Rq1 ?_
 refine Wa2 ?_
 have hz := step_all hs17
 refine ⟨_, (show Closes [] _ _ from rfl), [(Value.slice none 0 0), (Value.int .i64 370)], ⟨rfl, rfl, trivial⟩, hs17.ext, ?_⟩
 exact Vr.eq (a := (vT2 (vC (rSl (rInt .i64))) (vI .i64))) (x := (([] : List Int), 370)) (mkT2 (mkC (mk_sl SlR.nil_)) ⟨rfl, (show InK .i64 370 from by decide)⟩) (Option.some.inj hm)
 replace hm := bif_f hm hc16
 refine Wx1 (Wp1 (Wm1 ?_))
 refine Rk1 rfl (op_loadA (cs := [(Value.int .i64 r_.slots), (Value.slice Aa r_.owners.length Ca), (Value.slice Ab r_.costs.length Cb)]) (vs := [(Value.int .i64 r_.slots), (Value.slice Aa r_.owners.length Ca), (Value.slice Ab r_.costs.length Cb)]) (i := 0) ty25 hs12 rfl rfl rfl rfl ?_)
 refine Rk1 rfl (ol1 (v := (Value.slice Ac slots.length Cc)) rfl ?_)
 replace hm := bd hm; obtain ⟨costs_1, hv19, hm⟩ := hm
 refine Rk1 rfl (ob2 Try.call56 (g56_overflightref37_costs (r_ := r_) (slots := slots) hs12.ltw Ra Fa Fb Fc hv19) rfl ?_)
 rintro _ w21 ⟨hx22, a25, c26, k27, o28, rfl, hk29, f30⟩
 obtain ⟨hs24, p31⟩ := hs12.callG (o := o28) hx22 hk29
 rw [← ks_cons (o := o28)] at f30
 replace Fa := Fa.step p31; replace Fb := Fb.step p31; replace Fc := Fc.step p31; clear p31 hs12
 refine Rk1 rfl (on1 (v := (Value.slice a25 costs_1.length c26)) rfl ?_)
 refine Rk1 rfl (on1 (v := (Value.int .i64 0)) rfl ?_)
 refine Rq1 ?_
 refine Wa2 ?_
 obtain ⟨hs34, p35, f33⟩ := Gs.publish (i := 0) hs24 rfl f30
 replace Fa := Fa.step p35; replace Fb := Fb.step p35; replace Fc := Fc.step p35; clear p35 hs24
 have hz := step_all hs34
 replace Fa := Fa.step hz; replace Fb := Fb.step hz; replace Fc := Fc.step hz; replace f33 := f33.step hz
 refine ⟨_, (show Closes [] _ _ from rfl), [(Value.slice a25 costs_1.length c26), (Value.int .i64 0)], ⟨rfl, rfl, trivial⟩, hs34.ext, ?_⟩
 exact Vr.eq (a := (vT2 (vC (rSl (rInt .i64))) (vI .i64))) (x := (costs_1, 0)) (mkT2 (mkC (mk_sl f33)) ⟨rfl, (show InK .i64 0 from by decide)⟩) (Option.some.inj hm)
 intro K10 hK10
 have ch36 := Step.refl (ks [(some b1, Obj.cells [(Value.int .i64 r_.slots), (Value.slice Aa r_.owners.length Ca), (Value.slice Ab r_.costs.length Cb)].toArray 25)] O) w2
 refine Wm1 ?_
 refine Rk1 rfl (op_loadA (cs := [(Value.int .i64 r_.slots), (Value.slice Aa r_.owners.length Ca), (Value.slice Ab r_.costs.length Cb)]) (vs := [(Value.int .i64 r_.slots), (Value.slice Aa r_.owners.length Ca), (Value.slice Ab r_.costs.length Cb)]) (i := 0) ty25 hs4 rfl rfl rfl rfl ?_)
 replace hm := bd hm; obtain ⟨valid_1, hv37, hm⟩ := hm
 refine Rk1 rfl (ob2 Try.call54 (c54_overflightref37_Valid (r_ := r_) hs4.ltw Ra Fa Fb hv37) rfl ?_)
 rintro v38 w39 ⟨hx40, h41⟩
 have hs42 := hs4.call hx40
 have p43 := Step.ext (O := ks [(some b1, Obj.cells [(Value.int .i64 r_.slots), (Value.slice Aa r_.owners.length Ca), (Value.slice Ab r_.costs.length Cb)].toArray 25)] O) hx40
 clear hx40
 replace Fa := Fa.step p43; replace Fb := Fb.step p43; replace Fc := Fc.step p43; replace ch36 := ch36.trans p43; clear p43 hs4
 obtain rfl := h41
 refine Rk1 rfl (op_not rfl ?_)
 refine Rk1 rfl (ol1 (v := (Value.bool (!valid_1))) rfl ?_)
 refine Rg_case (fun hg45 => ?_) (fun hg45 => ?_)
 replace hm := bif_t hm hg45
 iterate 4 refine Rt1 rfl (asB_ne rfl rfl) rfl ?_
 refine Rk1 rfl (oc2 (v := (Value.bool true)) rfl rfl ?_)
 refine Rq1 ?_
 exact hK10 _ _ ⟨true, _, rfl, ⟨(by repeat (first | with_reducible exact Out.refl _ _ | refine Out.upd ?_ rfl | refine Out.updL ?_ rfl | refine Out.mix' ?_ rfl | exact Out.refl _ _)), rfl, rfl, trivial⟩, ch36, hs42, hm⟩
 replace hm := bif_f hm hg45
 refine Rs1 rfl rfl rfl (op_loadA (cs := [(Value.int .i64 r_.slots), (Value.slice Aa r_.owners.length Ca), (Value.slice Ab r_.costs.length Cb)]) (vs := [(Value.int .i64 r_.slots), (Value.slice Aa r_.owners.length Ca), (Value.slice Ab r_.costs.length Cb)]) (i := 0) ty25 hs42 rfl rfl rfl rfl ?_)
 refine Rs1 rfl rfl rfl (ol1 (v := (Value.slice Ac slots.length Cc)) rfl ?_)
 replace hm := bd hm; obtain ⟨assignment_1, hv46, hm⟩ := hm
 refine Rs1 rfl rfl rfl (ob2 Try.call55 (c55_overflightref37_Assignment (r_ := r_) (slots := slots) hs42.ltw Ra Fa Fb Fc hv46) rfl ?_)
 rintro v47 w48 ⟨hx49, h50⟩
 have hs51 := hs42.call hx49
 have p52 := Step.ext (O := ks [(some b1, Obj.cells [(Value.int .i64 r_.slots), (Value.slice Aa r_.owners.length Ca), (Value.slice Ab r_.costs.length Cb)].toArray 25)] O) hx49
 clear hx49
 replace Fa := Fa.step p52; replace Fb := Fb.step p52; replace Fc := Fc.step p52; replace ch36 := ch36.trans p52; clear p52 hs42
 obtain rfl := h50
 refine Rs1 rfl rfl rfl (op_not rfl ?_)
 refine Rk1 rfl (or1 (v := (Value.bool (!assignment_1))) rfl rfl ?_)
 refine Rq1 ?_
 exact hK10 _ _ ⟨(!assignment_1), _, rfl, ⟨(by repeat (first | with_reducible exact Out.refl _ _ | refine Out.upd ?_ rfl | refine Out.updL ?_ rfl | refine Out.mix' ?_ rfl | exact Out.refl _ _)), rfl, rfl, trivial⟩, ch36, hs51, hm⟩

def m13_overflightref38_Value_B0 (r_ : XRound) (slots : List Int) (sf26 : Int → Int → Int → Option ((List Int) × Int)) (sum_1 : Int) (moves_1 : Int) (i_1 : Int) : Option ((List Int) × Int) :=
 bif (decide (i_1 < (slots.length : Int))) then
  ck ((0 : Int) ≤ i_1 ∧ i_1 < (r_.costs.length : Int)) <|
  ck ((0 : Int) ≤ i_1 ∧ i_1 < (slots.length : Int)) <|
  ck ((0 : Int) ≤ (slots.getD i_1.toNat default) ∧ (slots.getD i_1.toNat default) < ((r_.costs.getD i_1.toNat default).length : Int)) <|
  ck ((0 : Int) ≤ i_1 ∧ i_1 < (slots.length : Int)) <|
  bif (decide ((slots.getD i_1.toNat default) ≠ i_1)) then
   sf26 (IntKind.wrap .i64 (sum_1 + ((r_.costs.getD i_1.toNat default).getD (slots.getD i_1.toNat default).toNat default))) (IntKind.wrap .i64 (moves_1 + 1)) (IntKind.wrap .i64 (i_1 + 1))
  else
   sf26 (IntKind.wrap .i64 (sum_1 + ((r_.costs.getD i_1.toNat default).getD (slots.getD i_1.toNat default).toNat default))) moves_1 (IntKind.wrap .i64 (i_1 + 1))
 else
  some ([sum_1, moves_1], 0)

def m13_overflightref38_Value (r_ : XRound) (slots : List Int) : Option ((List Int) × Int) :=
 (m31_overflightref37_Costs r_ slots).bind fun costs_1 =>
 bif (decide (costs_1.2 ≠ 0)) then
  some (([] : List Int), costs_1.2)
 else
  loop3 (m13_overflightref38_Value_B0 r_ slots) (((slots.length : Int) - 0).toNat + 1) 0 0 0

theorem c13_overflightref38_Value {w : World} {O : List Nat} {r_ : XRound} {slots : List Int} {Aa : Option Addr} {Ca : Nat} {Ab : Option Addr} {Cb : Nat} {Ac : Option Addr} {Cc : Nat} (hO : ∀ k ∈ O, k < w.heap.size) (Ra : InK .i64 r_.slots) (Fa : SlR (rInt .i64) w O Aa Ca r_.owners) (Fb : SlR (rSl (rInt .i64)) w O Ab Cb r_.costs) (Fc : SlR (rInt .i64) w O Ac Cc slots) {x : (List Int) × Int} (hm : m13_overflightref38_Value r_ slots = some x) :
 Ok Try.prog 13 [(Value.agg [(Value.int .i64 r_.slots), (Value.slice Aa r_.owners.length Ca), (Value.slice Ab r_.costs.length Cb)].toArray), (Value.slice Ac slots.length Cc)] w O (vT2 (vC (rSl (rInt .i64))) (vI .i64)) x := by
 unfold m13_overflightref38_Value at hm
 refine Fn_of_Wp (n := 50) (xs := [.tmp 4, .tmp 5]) Try.func13 rfl Try.ntmps13 Try.results13 rfl ?_
 have hs := St.start hO
 refine Wp1 (Wm1 ?_)
 refine Rk1 rfl (op_box (cs := [(Value.int .i64 r_.slots), (Value.slice Aa r_.owners.length Ca), (Value.slice Ab r_.costs.length Cb)]) hs rfl rfl ?_)
 intro b1 w2 _ p3 hs4
 replace Fa := Fa.step p3; replace Fb := Fb.step p3; replace Fc := Fc.step p3; clear p3
 refine Rk1 rfl (on1 (v := (Value.slice none 0 0)) rfl ?_)
 refine Rk1 rfl (on1 (v := (Value.int .i64 0)) rfl ?_)
 refine Rq1 (Wp1 (Wm1 ?_))
 refine Rk1 rfl (op_loadA (cs := [(Value.int .i64 r_.slots), (Value.slice Aa r_.owners.length Ca), (Value.slice Ab r_.costs.length Cb)]) (vs := [(Value.int .i64 r_.slots), (Value.slice Aa r_.owners.length Ca), (Value.slice Ab r_.costs.length Cb)]) (i := 0) ty25 hs4 rfl rfl rfl rfl ?_)
 refine Rk1 rfl (ol1 (v := (Value.slice Ac slots.length Cc)) rfl ?_)
 replace hm := bd hm; obtain ⟨costs_1, hv6, hm⟩ := hm
 refine Rk1 rfl (ob2 Try.call31 (c31_overflightref37_Costs (r_ := r_) (slots := slots) hs4.ltw Ra Fa Fb Fc hv6) rfl ?_)
 rintro v7 w8 ⟨hx9, h10⟩
 have hs11 := hs4.call hx9
 have p12 := Step.ext (O := ks [(some b1, Obj.cells [(Value.int .i64 r_.slots), (Value.slice Aa r_.owners.length Ca), (Value.slice Ab r_.costs.length Cb)].toArray 25)] O) hx9
 clear hx9
 replace Fa := Fa.step p12; replace Fb := Fb.step p12; replace Fc := Fc.step p12; clear p12 hs4
 obtain ⟨v13, v14, rfl, h15, h16⟩ := h10
 obtain ⟨Ad, Cd, rfl, Fd⟩ := un_sl h15
 obtain ⟨rfl, Rb⟩ := h16
 refine Rk1 rfl (ol1 (v := (Value.tuple [(Value.slice Ad costs_1.1.length Cd), (Value.int .i64 costs_1.2)].toArray)) rfl ?_)
 refine Rk1 rfl (oh2 (v := (Value.slice Ad costs_1.1.length Cd)) rfl rfl ?_)
 refine Rk1 rfl (oh2 (v := (Value.int .i64 costs_1.2)) rfl rfl ?_)
 refine Rk1 rfl (on1 (v := (Value.slice Ad costs_1.1.length Cd)) rfl ?_)
 refine Rk1 rfl (on1 (v := (Value.int .i64 costs_1.2)) rfl ?_)
 refine Rq1 (Wp1 (Wp1 ?_))
 clear Fd
 refine Wm1 ?_
 refine Rk1 rfl (ol1 (v := (Value.int .i64 costs_1.2)) rfl ?_)
 refine Rk1 rfl (op_neq rfl rfl ?_)
 refine Rq1 ?_
 refine Wy1 rfl (fun hc19 => ?_) (fun hc19 => ?_)
 replace hm := bif_t hm hc19
 refine Wp1 ?_
 obtain ⟨hs20, p21⟩ := hs11.sub (bs' := []) (.cons _ List.Sublist.slnil)
 clear Fa Fb Fc
 clear p21 hs11
 refine Wm1 ?_
 refine Rk1 rfl (ol1 (v := (Value.int .i64 costs_1.2)) rfl ?_)
 refine Rk1 rfl (on1 (v := (Value.slice none 0 0)) rfl ?_)
 refine Rk1 rfl (on1 (v := (Value.int .i64 costs_1.2)) rfl ?_)
 refine Rq1 ?_
 refine Wa2 ?_
 have hz := step_all hs20
 refine ⟨_, (show Closes [] _ _ from rfl), [(Value.slice none 0 0), (Value.int .i64 costs_1.2)], ⟨rfl, rfl, trivial⟩, hs20.ext, ?_⟩
 exact Vr.eq (a := (vT2 (vC (rSl (rInt .i64))) (vI .i64))) (x := (([] : List Int), costs_1.2)) (mkT2 (mkC (mk_sl SlR.nil_)) ⟨rfl, Rb⟩) (Option.some.inj hm)
 replace hm := bif_f hm hc19
 refine Wx1 (Wp1 (Wm1 ?_))
 refine Rk1 rfl (on1 (v := (Value.int .i64 0)) rfl ?_)
 refine Rq1 (Wp1 (Wm1 ?_))
 refine Rk1 rfl (on1 (v := (Value.int .i64 0)) rfl ?_)
 refine Rq1 (Wp1 (Wp1 (Wm1 ?_)))
 refine Rk1 rfl (on1 (v := (Value.int .i64 0)) rfl ?_)
 refine Rq1 (Wf2 ?_)
 refine Wp_reset [] [(1, (Value.slice Ac slots.length Cc)), (2, (Value.pointer (some ⟨b1, 0, none⟩))), (8, (Value.int .i64 0)), (9, (Value.int .i64 0)), (10, (Value.int .i64 0))] rfl ⟨rfl, rfl, rfl, rfl, rfl, trivial⟩ fun ξ25 => ?_
 refine Wp_loopM [8, 9, 10, 20, 21, 22, 23, 24, 25, 26, 27, 28, 29, 30, 31, 32, 33, 34, 35, 36, 37, 38, 39, 40, 41, 42, 43, 44, 45, 46] (fun m fr w' => ∃ (sum_1 : Int) (moves_1 : Int) (i_1 : Int) (Ebs : Ents), Ebs = [(some b1, Obj.cells [(Value.int .i64 r_.slots), (Value.slice Aa r_.owners.length Ca), (Value.slice Ab r_.costs.length Cb)].toArray 25)] ∧ fr [] [(8, (Value.int .i64 sum_1)), (9, (Value.int .i64 moves_1)), (10, (Value.int .i64 i_1))] ∧ Step (ks [(some b1, Obj.cells [(Value.int .i64 r_.slots), (Value.slice Aa r_.owners.length Ca), (Value.slice Ab r_.costs.length Cb)].toArray 25)] O) w8 (ks Ebs O) w' ∧ St ⟨w, [], []⟩ O w' Ebs ∧ InK .i64 sum_1 ∧ InK .i64 moves_1 ∧ InK .i64 i_1 ∧ loop3 (m13_overflightref38_Value_B0 r_ slots) m sum_1 moves_1 i_1 = some x) (((slots.length : Int) - 0).toNat + 1) ⟨0, 0, 0, _, rfl, ⟨Out.refl _ _, rfl, rfl, rfl, rfl, trivial⟩, Step.refl _ _, hs11, (show InK .i64 0 from by decide), (show InK .i64 0 from by decide), (show InK .i64 0 from by decide), hm⟩ ?_ ?_
 rintro _ _ ⟨_, _, _, _, _, _, _, _, _, _, _, hm⟩; exact loop3_z hm
 rintro m29 K28 hK28 ρ34 w30 ⟨sum_1, moves_1, i_1, Ebs, hEbs, hfr33, hst32, hs31, Rc, Rd, Re, hm⟩
 obtain ⟨sf26, hsf27, hm⟩ := loop3_s hm; unfold m13_overflightref38_Value_B0 at hm
 subst hEbs; rw [hfr33.eq]; clear hfr33
 replace Fa := Fa.step hst32; replace Fb := Fb.step hst32; replace Fc := Fc.step hst32
 have ch35 := hst32
 refine Wp1 (Wp1 (Wm1 ?_))
 refine Rk1 rfl (ol1 (v := (Value.int .i64 i_1)) rfl ?_)
 refine Rk1 rfl (ol1 (v := (Value.slice Ac slots.length Cc)) rfl ?_)
 refine Rk1 rfl (op_len Try.underlying22 rfl ?_)
 have rl36 := inK_len Fc
 refine Rk1 rfl (op_lss rfl rfl ?_)
 refine Rq1 ?_
 refine Wy1 rfl (fun hc37 => ?_) (fun hc37 => ?_)
 replace hm := bif_t hm hc37
 refine Wx1 (Wp1 (Wf2 (Wp1 ?_)))
 refine Wp_drawR (g0 := []) (m := 10) (fl := [0]) (TS_inv hs31) rfl (.inl rfl) rfl (by decide +kernel) ?_  -- 9
 refine Du1 (Value.int .i64 sum_1) (fun ρ38 w39 g hle hi ht => ?_) ?_
 obtain ⟨-, hst, -⟩ := hle
 refine So1 (ol1 (v := (Value.int .i64 sum_1)) (ht 8 rfl) ?_)
 exact Goes.same hi rfl
 refine Du1 (Value.pointer (some ⟨b1, 2, none⟩)) (fun ρ41 w42 g hle hi ht => ?_) ?_
 obtain ⟨-, hst, -⟩ := hle
 refine So1 (oe2 ty25 rfl ty23 (by decide) (ht 2 rfl) (rfl : _ = (⟨_, 2, none⟩ : Addr)) ?_)
 exact Goes.same hi rfl
 refine Du1 (Value.slice Ab r_.costs.length Cb) (fun ρ44 w45 g hle hi ht => ?_) ?_
 obtain ⟨-, hst, -⟩ := hle
 have hsn := (Step.nx hi).1
 refine So1 (op_load (cs := [(Value.int .i64 r_.slots), (Value.slice Aa r_.owners.length Ca), (Value.slice Ab r_.costs.length Cb)]) (i := 0) ty23 hsn (ht 27 rfl) rfl rfl ?_)
 exact Goes.same hi rfl
 refine Du1 (Value.int .i64 i_1) (fun ρ47 w48 g hle hi ht => ?_) ?_
 obtain ⟨-, hst, -⟩ := hle
 refine So1 (ol1 (v := (Value.int .i64 i_1)) (ht 10 rfl) ?_)
 exact Goes.same hi rfl
 replace hm := ck_some hm; obtain ⟨hc53, hm⟩ := hm
 refine Dw_op (VP O [(some b1, Obj.cells [(Value.int .i64 r_.slots), (Value.slice Aa r_.owners.length Ca), (Value.slice Ab r_.costs.length Cb)].toArray 25)] (rSl (rInt .i64)) (r_.costs.getD i_1.toNat default)) (VP.stab _ _) (fun ρ50 w51 g hle hi ht => ?_) ?_
 obtain ⟨-, hst, -⟩ := hle
 replace Fb := Fb.step hst
 refine So1 (ow1 (q := (rSl (rInt .i64))) ty23 ty22 (ht 28 rfl) (ht 29 rfl) Fb rfl hc53.1 hc53.2 ?_)
 intro p54 f55
 exact Goes.same hi ⟨_, rfl, f55⟩
 refine Dw_op (VD O [(some b1, Obj.cells [(Value.int .i64 r_.slots), (Value.slice Aa r_.owners.length Ca), (Value.slice Ab r_.costs.length Cb)].toArray 25)] (vC (rSl (rInt .i64))) (r_.costs.getD i_1.toNat default)) (VD.stab _ _) (fun ρ56 w57 g hle hi ht => ?_) ?_
 obtain ⟨-, hst, -⟩ := hle
 obtain ⟨p59, q60, f61⟩ := ht 30 rfl
 refine So1 (oz1 ty22 q60 f61 rfl ?_)
 intro v62 h63
 obtain ⟨Ae, Ce, rfl, Fe⟩ := un_sl h63
 exact Goes.same hi (show Vr.vd (vC (rSl (rInt .i64))) _ _ _ _ from (mkC (mk_sl Fe)))
 refine Du1 (Value.slice Ac slots.length Cc) (fun ρ65 w66 g hle hi ht => ?_) ?_
 obtain ⟨-, hst, -⟩ := hle
 refine So1 (ol1 (v := (Value.slice Ac slots.length Cc)) (ht 1 rfl) ?_)
 exact Goes.same hi rfl
 refine Du1 (Value.int .i64 i_1) (fun ρ68 w69 g hle hi ht => ?_) ?_
 obtain ⟨-, hst, -⟩ := hle
 refine So1 (ol1 (v := (Value.int .i64 i_1)) (ht 10 rfl) ?_)
 exact Goes.same hi rfl
 replace hm := ck_some hm; obtain ⟨hc74, hm⟩ := hm
 refine Dw_op (VP O [(some b1, Obj.cells [(Value.int .i64 r_.slots), (Value.slice Aa r_.owners.length Ca), (Value.slice Ab r_.costs.length Cb)].toArray 25)] (rInt .i64) (slots.getD i_1.toNat default)) (VP.stab _ _) (fun ρ71 w72 g hle hi ht => ?_) ?_
 obtain ⟨-, hst, -⟩ := hle
 replace Fc := Fc.step hst
 refine So1 (ow1 (q := (rInt .i64)) ty22 ty3 (ht 32 rfl) (ht 33 rfl) Fc rfl hc74.1 hc74.2 ?_)
 intro p75 f76
 exact Goes.same hi ⟨_, rfl, f76⟩
 refine Dw_op (VD O [(some b1, Obj.cells [(Value.int .i64 r_.slots), (Value.slice Aa r_.owners.length Ca), (Value.slice Ab r_.costs.length Cb)].toArray 25)] (vI .i64) (slots.getD i_1.toNat default)) (VD.stab _ _) (fun ρ77 w78 g hle hi ht => ?_) ?_
 obtain ⟨-, hst, -⟩ := hle
 obtain ⟨p80, q81, f82⟩ := ht 34 rfl
 refine So1 (oz1 ty3 q81 f82 rfl ?_)
 intro v83 h84
 obtain ⟨rfl, Rf⟩ := un_int h84
 exact Goes.same hi (show Vr.vd (vI .i64) _ _ _ _ from ⟨rfl, Rf⟩)
 refine Dw_nil fun w90 g91 hl92 hi93 => ?_
 obtain ⟨-, hst94, -⟩ := hl92
 obtain ⟨hs96, p95⟩ := Step.nx hi93
 rintro v97 h98
 replace h98 : Vr.vd (vI .i64) _ _ _ _ := h98
 obtain ⟨rfl, Rg⟩ := h98
 rintro _ ⟨p100, rfl, f101⟩
 rintro _ rfl
 rintro _ rfl
 rintro v102 h103
 replace h103 : Vr.vd (vC (rSl (rInt .i64))) _ _ _ _ := h103
 obtain ⟨Af, Cf, rfl, Ff⟩ := un_sl h103
 rintro _ ⟨p105, rfl, f106⟩
 rintro _ rfl
 rintro _ rfl
 rintro _ rfl
 rintro _ rfl
 have p107 : Step (ks [(some b1, Obj.cells [(Value.int .i64 r_.slots), (Value.slice Aa r_.owners.length Ca), (Value.slice Ab r_.costs.length Cb)].toArray 25)] O) w30 (ks [(some b1, Obj.cells [(Value.int .i64 r_.slots), (Value.slice Aa r_.owners.length Ca), (Value.slice Ab r_.costs.length Cb)].toArray 25)] O) w90 := hst94.trans p95
 replace f101 := f101.step p95; replace Ff := Ff.step p95; replace f106 := f106.step p95; replace Fa := Fa.step p107; replace Fb := Fb.step p107; replace Fc := Fc.step p107; replace ch35 := ch35.trans p107; clear p107 hs31
 replace hm := ck_some hm; obtain ⟨hc108, hm⟩ := hm
 refine Rk1 rfl (ow1 (q := (rInt .i64)) ty22 ty3 rfl rfl Ff rfl hc108.1 hc108.2 ?_)
 intro p109 f110
 refine Rk1 rfl (oz1 ty3 rfl f110 rfl ?_)
 intro v111 h112
 obtain ⟨rfl, Rh⟩ := un_int h112
 refine Rk1 rfl (op_addw rfl rfl ?_)
 refine Rk1 rfl (on1 (v := (Value.int .i64 (IntKind.wrap .i64 (sum_1 + ((r_.costs.getD i_1.toNat default).getD (slots.getD i_1.toNat default).toNat default))))) rfl ?_)
 refine Rq1 (Wp1 ?_)
 clear f101 Ff f106 f110
 refine Wm1 ?_
 refine Rk1 rfl (ol1 (v := (Value.slice Ac slots.length Cc)) rfl ?_)
 refine Rk1 rfl (ol1 (v := (Value.int .i64 i_1)) rfl ?_)
 replace hm := ck_some hm; obtain ⟨hc114, hm⟩ := hm
 refine Rk1 rfl (ow1 (q := (rInt .i64)) ty22 ty3 rfl rfl Fc rfl hc114.1 hc114.2 ?_)
 intro p115 f116
 refine Rk1 rfl (oz1 ty3 rfl f116 rfl ?_)
 intro v117 h118
 obtain ⟨rfl, Ri⟩ := un_int h118
 refine Rk1 rfl (ol1 (v := (Value.int .i64 i_1)) rfl ?_)
 refine Rk1 rfl (op_neq rfl rfl ?_)
 refine Rq1 ?_
 refine Wy1 rfl (fun hc120 => ?_) (fun hc120 => ?_)
 replace hm := bif_t hm hc120
 clear f116
 refine Wm1 ?_
 refine Rk1 rfl (ol1 (v := (Value.int .i64 moves_1)) rfl ?_)
 refine Rk1 rfl (op_addw rfl rfl ?_)
 refine Rk1 rfl (on1 (v := (Value.int .i64 (IntKind.wrap .i64 (moves_1 + 1)))) rfl ?_)
 refine Rq1 ?_
 refine Wp_reset2 [8, 9, 10, 20, 21, 22, 23, 24, 25, 26, 27, 28, 29, 30, 31, 32, 33, 34, 35, 36, 37, 38, 39, 40, 41, 42, 43, 44, 45, 46] [] (updL ⟨ξ25, []⟩ [(1, (Value.slice Ac slots.length Cc)), (2, (Value.pointer (some ⟨b1, 0, none⟩))), (8, (Value.int .i64 0)), (9, (Value.int .i64 0)), (10, (Value.int .i64 0))]) [(8, (Value.int .i64 (IntKind.wrap .i64 (sum_1 + ((r_.costs.getD i_1.toNat default).getD (slots.getD i_1.toNat default).toNat default))))), (9, (Value.int .i64 (IntKind.wrap .i64 (moves_1 + 1)))), (10, (Value.int .i64 i_1))] (by repeat (first | with_reducible exact Out.refl _ _ | refine Out.upd ?_ rfl | refine Out.updL ?_ rfl | refine Out.mix' ?_ rfl | exact Out.refl _ _)) rfl ⟨rfl, rfl, rfl, trivial⟩ fun ξ121 => ?_
 refine Wm1 ?_
 refine Rk1 rfl (ol1 (v := (Value.int .i64 i_1)) rfl ?_)
 refine Rk1 rfl (op_addw rfl rfl ?_)
 refine Rk1 rfl (on1 (v := (Value.int .i64 (IntKind.wrap .i64 (i_1 + 1)))) rfl ?_)
 refine Rq1 ?_
 exact hK28 _ _ ⟨(IntKind.wrap .i64 (sum_1 + ((r_.costs.getD i_1.toNat default).getD (slots.getD i_1.toNat default).toNat default))), (IntKind.wrap .i64 (moves_1 + 1)), (IntKind.wrap .i64 (i_1 + 1)), _, rfl, ⟨(by repeat (first | with_reducible exact Out.refl _ _ | refine Out.upd ?_ rfl | refine Out.updL ?_ rfl | refine Out.mix' ?_ rfl | exact Out.refl _ _)), rfl, rfl, rfl, rfl, trivial⟩, ch35, hs96, (inK_wrap .i64 _), (inK_wrap .i64 _), (inK_wrap .i64 _), jnE3 hsf27 hm⟩
 replace hm := bif_f hm hc120
 refine Wx1 ?_
 clear f116
 refine Wm1 ?_
 refine Rk1 rfl (ol1 (v := (Value.int .i64 i_1)) rfl ?_)
 refine Rk1 rfl (op_addw rfl rfl ?_)
 refine Rk1 rfl (on1 (v := (Value.int .i64 (IntKind.wrap .i64 (i_1 + 1)))) rfl ?_)
 refine Rq1 ?_
 exact hK28 _ _ ⟨(IntKind.wrap .i64 (sum_1 + ((r_.costs.getD i_1.toNat default).getD (slots.getD i_1.toNat default).toNat default))), moves_1, (IntKind.wrap .i64 (i_1 + 1)), _, rfl, ⟨(by repeat (first | with_reducible exact Out.refl _ _ | refine Out.upd ?_ rfl | refine Out.updL ?_ rfl | refine Out.mix' ?_ rfl | exact Out.refl _ _)), rfl, rfl, rfl, rfl, trivial⟩, ch35, hs96, (inK_wrap .i64 _), Rd, (inK_wrap .i64 _), jnE3 hsf27 hm⟩
 replace hm := bif_f hm hc37
 refine Wp_exit (Wp1 ?_)
 obtain ⟨hs122, p123⟩ := hs31.sub (bs' := []) (.cons _ List.Sublist.slnil)
 clear Fa Fb Fc
 replace ch35 := ch35.trans p123; clear p123 hs31
 refine Wm1 ?_
 refine Rk1 rfl (ol1 (v := (Value.int .i64 sum_1)) rfl ?_)
 refine Rk1 rfl (ol1 (v := (Value.int .i64 moves_1)) rfl ?_)
 refine Rk1 rfl (og2 (cs := [(Value.int .i64 sum_1), (Value.int .i64 moves_1)]) (parts := [(0, .tmp 47), (1, .tmp 48)]) ty22 ty3 hs122 (by decide) rfl ?_)
 intro b124 w125 hx128 p126 hs127
 replace ch35 := ch35.trans p126; clear p126 hs122
 refine Rk1 rfl (on1 (v := (Value.slice (some ⟨b124, 0, none⟩) 2 2)) rfl ?_)
 refine Rk1 rfl (on1 (v := (Value.int .i64 0)) rfl ?_)
 refine Rq1 ?_
 refine Wa2 ?_
 obtain ⟨hs131, p132, f130⟩ := St.publish (i := 0) (o := 0) (c := 2) (xs := [sum_1, moves_1]) hs127 rfl (show Els (rInt .i64) _ _ [(Value.int .i64 sum_1), (Value.int .i64 moves_1)] [sum_1, moves_1] from ⟨_, _, rfl, (mk_int Rc), ⟨_, _, rfl, (mk_int Rd), Els.nil⟩⟩) (le_lit rfl) (le_lit rfl) (le_lit rfl)
 replace ch35 := ch35.trans p132; clear p132 hs127
 have hz := step_all hs131
 replace f130 := f130.step hz
 refine ⟨_, (show Closes [] _ _ from rfl), [(Value.slice (some ⟨b124, 0, none⟩) [sum_1, moves_1].length 2), (Value.int .i64 0)], ⟨rfl, rfl, trivial⟩, hs131.ext, ?_⟩
 exact Vr.eq (a := (vT2 (vC (rSl (rInt .i64))) (vI .i64))) (x := ([sum_1, moves_1], 0)) (mkT2 (mkC (mk_sl f130)) ⟨rfl, (show InK .i64 0 from by decide)⟩) (Option.some.inj hm)

def m82_overflightref06_Order_B0 (a : List Int) (b : List Int) (sf3 : Int → Option Int) (i_1 : Int) : Option Int :=
 bif (decide (i_1 < (a.length : Int))) then
  ck ((0 : Int) ≤ i_1 ∧ i_1 < (a.length : Int)) <|
  ck ((0 : Int) ≤ i_1 ∧ i_1 < (b.length : Int)) <|
  bif (decide ((a.getD i_1.toNat default) < (b.getD i_1.toNat default))) then
   some (-1)
  else
   ck ((0 : Int) ≤ i_1 ∧ i_1 < (a.length : Int)) <|
   ck ((0 : Int) ≤ i_1 ∧ i_1 < (b.length : Int)) <|
   bif (decide ((b.getD i_1.toNat default) < (a.getD i_1.toNat default))) then
    some 1
   else
    sf3 (IntKind.wrap .i64 (i_1 + 1))
 else
  some 0

def m82_overflightref06_Order (a : List Int) (b : List Int) : Option Int :=
 loop1 (m82_overflightref06_Order_B0 a b) (((a.length : Int) - 0).toNat + 1) 0

theorem c82_overflightref06_Order {w : World} {O : List Nat} {a : List Int} {b : List Int} {Aa : Option Addr} {Ca : Nat} {Ab : Option Addr} {Cb : Nat} (hO : ∀ k ∈ O, k < w.heap.size) (Fa : SlR (rInt .i64) w O Aa Ca a) (Fb : SlR (rInt .i64) w O Ab Cb b) {x : Int} (hm : m82_overflightref06_Order a b = some x) :
 Ok Try.prog 82 [(Value.slice Aa a.length Ca), (Value.slice Ab b.length Cb)] w O (vI .i64) x := by
 unfold m82_overflightref06_Order at hm
 refine Fn_of_Wp (n := 30) (xs := [.tmp 4]) Try.func82 rfl Try.ntmps82 Try.results82 rfl ?_
 have hs := St.start hO
 refine Wp1 (Wm1 ?_)
 refine Rk1 rfl (on1 (v := (Value.int .i64 0)) rfl ?_)
 refine Rq1 (Wp1 (Wp1 (Wm1 ?_)))
 refine Rk1 rfl (on1 (v := (Value.int .i64 0)) rfl ?_)
 refine Rq1 (Wf2 ?_)
 refine Wp_reset [] [(0, (Value.slice Aa a.length Ca)), (1, (Value.slice Ab b.length Cb)), (5, (Value.int .i64 0))] rfl ⟨rfl, rfl, rfl, trivial⟩ fun ξ2 => ?_
 refine Wp_loopM [4, 5, 6, 7, 8, 9, 10, 11, 12, 13, 14, 15, 16, 17, 18, 19, 20, 21, 22, 23, 24, 25, 26, 27, 28, 29] (fun m fr w' => ∃ (i_1 : Int) (Ebs : Ents), Ebs = [] ∧ fr [] [(5, (Value.int .i64 i_1))] ∧ Step (ks [] O) w (ks Ebs O) w' ∧ St ⟨w, [], []⟩ O w' Ebs ∧ InK .i64 i_1 ∧ loop1 (m82_overflightref06_Order_B0 a b) m i_1 = some x) (((a.length : Int) - 0).toNat + 1) ⟨0, _, rfl, ⟨Out.refl _ _, rfl, rfl, trivial⟩, Step.refl _ _, hs, (show InK .i64 0 from by decide), hm⟩ ?_ ?_
 rintro _ _ ⟨_, _, _, _, _, _, _, hm⟩; exact loop1_z hm
 rintro m6 K5 hK5 ρ11 w7 ⟨i_1, Ebs, hEbs, hfr10, hst9, hs8, Ra, hm⟩
 obtain ⟨sf3, hsf4, hm⟩ := loop1_s hm; unfold m82_overflightref06_Order_B0 at hm
 subst hEbs; rw [hfr10.eq]; clear hfr10
 replace Fa := Fa.step hst9; replace Fb := Fb.step hst9
 have ch12 := hst9
 refine Wp1 (Wp1 (Wm1 ?_))
 refine Rk1 rfl (ol1 (v := (Value.int .i64 i_1)) rfl ?_)
 refine Rk1 rfl (ol1 (v := (Value.slice Aa a.length Ca)) rfl ?_)
 refine Rk1 rfl (op_len Try.underlying22 rfl ?_)
 have rl13 := inK_len Fa
 refine Rk1 rfl (op_lss rfl rfl ?_)
 refine Rq1 ?_
 refine Wy1 rfl (fun hc14 => ?_) (fun hc14 => ?_)
 replace hm := bif_t hm hc14
 refine Wx1 (Wp1 (Wf2 (Wp1 (Wp1 ?_))))
 refine Wp_drawR (g0 := []) (m := 8) (fl := []) (TS_inv hs8) rfl (.inl rfl) rfl (by decide +kernel) ?_  -- 4
 refine Du1 (Value.slice Aa a.length Ca) (fun ρ15 w16 g hle hi ht => ?_) ?_
 obtain ⟨-, hst, -⟩ := hle
 refine So1 (ol1 (v := (Value.slice Aa a.length Ca)) (ht 0 rfl) ?_)
 exact Goes.same hi rfl
 refine Du1 (Value.int .i64 i_1) (fun ρ18 w19 g hle hi ht => ?_) ?_
 obtain ⟨-, hst, -⟩ := hle
 refine So1 (ol1 (v := (Value.int .i64 i_1)) (ht 5 rfl) ?_)
 exact Goes.same hi rfl
 replace hm := ck_some hm; obtain ⟨hc24, hm⟩ := hm
 refine Dw_op (VP O [] (rInt .i64) (a.getD i_1.toNat default)) (VP.stab _ _) (fun ρ21 w22 g hle hi ht => ?_) ?_
 obtain ⟨-, hst, -⟩ := hle
 replace Fa := Fa.step hst
 refine So1 (ow1 (q := (rInt .i64)) ty22 ty3 (ht 12 rfl) (ht 13 rfl) Fa rfl hc24.1 hc24.2 ?_)
 intro p25 f26
 exact Goes.same hi ⟨_, rfl, f26⟩
 refine Dw_op (VD O [] (vI .i64) (a.getD i_1.toNat default)) (VD.stab _ _) (fun ρ27 w28 g hle hi ht => ?_) ?_
 obtain ⟨-, hst, -⟩ := hle
 obtain ⟨p30, q31, f32⟩ := ht 14 rfl
 refine So1 (oz1 ty3 q31 f32 rfl ?_)
 intro v33 h34
 obtain ⟨rfl, Rb⟩ := un_int h34
 exact Goes.same hi (show Vr.vd (vI .i64) _ _ _ _ from ⟨rfl, Rb⟩)
 refine Du1 (Value.slice Ab b.length Cb) (fun ρ36 w37 g hle hi ht => ?_) ?_
 obtain ⟨-, hst, -⟩ := hle
 refine So1 (ol1 (v := (Value.slice Ab b.length Cb)) (ht 1 rfl) ?_)
 exact Goes.same hi rfl
 refine Du1 (Value.int .i64 i_1) (fun ρ39 w40 g hle hi ht => ?_) ?_
 obtain ⟨-, hst, -⟩ := hle
 refine So1 (ol1 (v := (Value.int .i64 i_1)) (ht 5 rfl) ?_)
 exact Goes.same hi rfl
 replace hm := ck_some hm; obtain ⟨hc45, hm⟩ := hm
 refine Dw_op (VP O [] (rInt .i64) (b.getD i_1.toNat default)) (VP.stab _ _) (fun ρ42 w43 g hle hi ht => ?_) ?_
 obtain ⟨-, hst, -⟩ := hle
 replace Fb := Fb.step hst
 refine So1 (ow1 (q := (rInt .i64)) ty22 ty3 (ht 16 rfl) (ht 17 rfl) Fb rfl hc45.1 hc45.2 ?_)
 intro p46 f47
 exact Goes.same hi ⟨_, rfl, f47⟩
 refine Dw_op (VD O [] (vI .i64) (b.getD i_1.toNat default)) (VD.stab _ _) (fun ρ48 w49 g hle hi ht => ?_) ?_
 obtain ⟨-, hst, -⟩ := hle
 obtain ⟨p51, q52, f53⟩ := ht 18 rfl
 refine So1 (oz1 ty3 q52 f53 rfl ?_)
 intro v54 h55
 obtain ⟨rfl, Rc⟩ := un_int h55
 exact Goes.same hi (show Vr.vd (vI .i64) _ _ _ _ from ⟨rfl, Rc⟩)
 refine Dw_nil fun w61 g62 hl63 hi64 => ?_
 obtain ⟨-, hst65, -⟩ := hl63
 obtain ⟨hs67, p66⟩ := Step.nx hi64
 rintro v68 h69
 replace h69 : Vr.vd (vI .i64) _ _ _ _ := h69
 obtain ⟨rfl, Rd⟩ := h69
 rintro _ ⟨p71, rfl, f72⟩
 rintro _ rfl
 rintro _ rfl
 rintro v73 h74
 replace h74 : Vr.vd (vI .i64) _ _ _ _ := h74
 obtain ⟨rfl, Re⟩ := h74
 rintro _ ⟨p76, rfl, f77⟩
 rintro _ rfl
 rintro _ rfl
 have p78 : Step (ks [] O) w7 (ks [] O) w61 := hst65.trans p66
 replace f72 := f72.step p66; replace f77 := f77.step p66; replace Fa := Fa.step p78; replace Fb := Fb.step p78; replace ch12 := ch12.trans p78; clear p78 hs8
 refine Rk1 rfl (op_lss rfl rfl ?_)
 refine Rq1 ?_
 refine Wy1 rfl (fun hc79 => ?_) (fun hc79 => ?_)
 replace hm := bif_t hm hc79
 refine Wp1 ?_
 clear Fa Fb f72 f77
 refine Wm1 ?_
 refine Rk1 rfl (on1 (v := (Value.int .i64 (-1))) rfl ?_)
 refine Rq1 ?_
 refine Wa2 ?_
 have hz := step_all hs67
 refine ⟨_, (show Closes [] _ _ from rfl), [(Value.int .i64 (-1))], ⟨rfl, trivial⟩, hs67.ext, ?_⟩
 exact Vr.eq (a := (vI .i64)) (x := (-1)) ⟨rfl, (show InK .i64 (-1) from by decide)⟩ (Option.some.inj hm)
 replace hm := bif_f hm hc79
 refine Wx1 (Wp1 ?_)
 clear f72 f77
 refine Wp_drawR (g0 := []) (m := 8) (fl := []) (TS_inv hs67) rfl (.inl rfl) rfl (by decide +kernel) ?_  -- 6
 refine Du1 (Value.slice Aa a.length Ca) (fun ρ80 w81 g hle hi ht => ?_) ?_
 obtain ⟨-, hst, -⟩ := hle
 refine So1 (ol1 (v := (Value.slice Aa a.length Ca)) (ht 0 rfl) ?_)
 exact Goes.same hi rfl
 refine Du1 (Value.int .i64 i_1) (fun ρ83 w84 g hle hi ht => ?_) ?_
 obtain ⟨-, hst, -⟩ := hle
 refine So1 (ol1 (v := (Value.int .i64 i_1)) (ht 5 rfl) ?_)
 exact Goes.same hi rfl
 replace hm := ck_some hm; obtain ⟨hc89, hm⟩ := hm
 refine Dw_op (VP O [] (rInt .i64) (a.getD i_1.toNat default)) (VP.stab _ _) (fun ρ86 w87 g hle hi ht => ?_) ?_
 obtain ⟨-, hst, -⟩ := hle
 replace Fa := Fa.step hst
 refine So1 (ow1 (q := (rInt .i64)) ty22 ty3 (ht 21 rfl) (ht 22 rfl) Fa rfl hc89.1 hc89.2 ?_)
 intro p90 f91
 exact Goes.same hi ⟨_, rfl, f91⟩
 refine Dw_op (VD O [] (vI .i64) (a.getD i_1.toNat default)) (VD.stab _ _) (fun ρ92 w93 g hle hi ht => ?_) ?_
 obtain ⟨-, hst, -⟩ := hle
 obtain ⟨p95, q96, f97⟩ := ht 23 rfl
 refine So1 (oz1 ty3 q96 f97 rfl ?_)
 intro v98 h99
 obtain ⟨rfl, Rf⟩ := un_int h99
 exact Goes.same hi (show Vr.vd (vI .i64) _ _ _ _ from ⟨rfl, Rf⟩)
 refine Du1 (Value.slice Ab b.length Cb) (fun ρ101 w102 g hle hi ht => ?_) ?_
 obtain ⟨-, hst, -⟩ := hle
 refine So1 (ol1 (v := (Value.slice Ab b.length Cb)) (ht 1 rfl) ?_)
 exact Goes.same hi rfl
 refine Du1 (Value.int .i64 i_1) (fun ρ104 w105 g hle hi ht => ?_) ?_
 obtain ⟨-, hst, -⟩ := hle
 refine So1 (ol1 (v := (Value.int .i64 i_1)) (ht 5 rfl) ?_)
 exact Goes.same hi rfl
 replace hm := ck_some hm; obtain ⟨hc110, hm⟩ := hm
 refine Dw_op (VP O [] (rInt .i64) (b.getD i_1.toNat default)) (VP.stab _ _) (fun ρ107 w108 g hle hi ht => ?_) ?_
 obtain ⟨-, hst, -⟩ := hle
 replace Fb := Fb.step hst
 refine So1 (ow1 (q := (rInt .i64)) ty22 ty3 (ht 25 rfl) (ht 26 rfl) Fb rfl hc110.1 hc110.2 ?_)
 intro p111 f112
 exact Goes.same hi ⟨_, rfl, f112⟩
 refine Dw_op (VD O [] (vI .i64) (b.getD i_1.toNat default)) (VD.stab _ _) (fun ρ113 w114 g hle hi ht => ?_) ?_
 obtain ⟨-, hst, -⟩ := hle
 obtain ⟨p116, q117, f118⟩ := ht 27 rfl
 refine So1 (oz1 ty3 q117 f118 rfl ?_)
 intro v119 h120
 obtain ⟨rfl, Rg⟩ := un_int h120
 exact Goes.same hi (show Vr.vd (vI .i64) _ _ _ _ from ⟨rfl, Rg⟩)
 refine Dw_nil fun w126 g127 hl128 hi129 => ?_
 obtain ⟨-, hst130, -⟩ := hl128
 obtain ⟨hs132, p131⟩ := Step.nx hi129
 rintro v133 h134
 replace h134 : Vr.vd (vI .i64) _ _ _ _ := h134
 obtain ⟨rfl, Rh⟩ := h134
 rintro _ ⟨p136, rfl, f137⟩
 rintro _ rfl
 rintro _ rfl
 rintro v138 h139
 replace h139 : Vr.vd (vI .i64) _ _ _ _ := h139
 obtain ⟨rfl, Ri⟩ := h139
 rintro _ ⟨p141, rfl, f142⟩
 rintro _ rfl
 rintro _ rfl
 have p143 : Step (ks [] O) w61 (ks [] O) w126 := hst130.trans p131
 replace f137 := f137.step p131; replace f142 := f142.step p131; replace Fa := Fa.step p143; replace Fb := Fb.step p143; replace ch12 := ch12.trans p143; clear p143 hs67
 refine Rk1 rfl (op_gtr rfl rfl ?_)
 refine Rq1 ?_
 refine Wy1 rfl (fun hc144 => ?_) (fun hc144 => ?_)
 replace hm := bif_t hm hc144
 refine Wp1 ?_
 clear Fa Fb f137 f142
 refine Wm1 ?_
 refine Rk1 rfl (on1 (v := (Value.int .i64 1)) rfl ?_)
 refine Rq1 ?_
 refine Wa2 ?_
 have hz := step_all hs132
 refine ⟨_, (show Closes [] _ _ from rfl), [(Value.int .i64 1)], ⟨rfl, trivial⟩, hs132.ext, ?_⟩
 exact Vr.eq (a := (vI .i64)) (x := 1) ⟨rfl, (show InK .i64 1 from by decide)⟩ (Option.some.inj hm)
 replace hm := bif_f hm hc144
 refine Wx1 ?_
 clear f137 f142
 refine Wm1 ?_
 refine Rk1 rfl (ol1 (v := (Value.int .i64 i_1)) rfl ?_)
 refine Rk1 rfl (op_addw rfl rfl ?_)
 refine Rk1 rfl (on1 (v := (Value.int .i64 (IntKind.wrap .i64 (i_1 + 1)))) rfl ?_)
 refine Rq1 ?_
 exact hK5 _ _ ⟨(IntKind.wrap .i64 (i_1 + 1)), _, rfl, ⟨(by repeat (first | with_reducible exact Out.refl _ _ | refine Out.upd ?_ rfl | refine Out.updL ?_ rfl | refine Out.mix' ?_ rfl | exact Out.refl _ _)), rfl, rfl, trivial⟩, ch12, hs132, (inK_wrap .i64 _), jnE1 hsf4 hm⟩
 replace hm := bif_f hm hc14
 refine Wp_exit (Wp1 ?_)
 clear Fa Fb
 refine Wm1 ?_
 refine Rk1 rfl (on1 (v := (Value.int .i64 0)) rfl ?_)
 refine Rq1 ?_
 refine Wa2 ?_
 have hz := step_all hs8
 refine ⟨_, (show Closes [] _ _ from rfl), [(Value.int .i64 0)], ⟨rfl, trivial⟩, hs8.ext, ?_⟩
 exact Vr.eq (a := (vI .i64)) (x := 0) ⟨rfl, (show InK .i64 0 from by decide)⟩ (Option.some.inj hm)

def m64_overflightref38_before (r_ : XRound) (a : List Int) (b : List Int) : Option Bool :=
 (m13_overflightref38_Value r_ a).bind fun value_1 =>
 (m13_overflightref38_Value r_ b).bind fun value_2 =>
 (m82_overflightref06_Order value_1.1 value_2.1).bind fun order_1 =>
 bif (decide (order_1 < 0)) then
  some true
 else
  bif (decide (order_1 = 0)) then
   (m82_overflightref06_Order a b).bind fun order_2 =>
   some (decide (order_2 < 0))
  else
   some false

theorem c64_overflightref38_before {w : World} {O : List Nat} {r_ : XRound} {a : List Int} {b : List Int} {Aa : Option Addr} {Ca : Nat} {Ab : Option Addr} {Cb : Nat} {Ac : Option Addr} {Cc : Nat} {Ad : Option Addr} {Cd : Nat} (hO : ∀ k ∈ O, k < w.heap.size) (Ra : InK .i64 r_.slots) (Fa : SlR (rInt .i64) w O Aa Ca r_.owners) (Fb : SlR (rSl (rInt .i64)) w O Ab Cb r_.costs) (Fc : SlR (rInt .i64) w O Ac Cc a) (Fd : SlR (rInt .i64) w O Ad Cd b) {x : Bool} (hm : m64_overflightref38_before r_ a b = some x) :
 Ok Try.prog 64 [(Value.agg [(Value.int .i64 r_.slots), (Value.slice Aa r_.owners.length Ca), (Value.slice Ab r_.costs.length Cb)].toArray), (Value.slice Ac a.length Cc), (Value.slice Ad b.length Cd)] w O vB x := by
 unfold m64_overflightref38_before at hm
 refine Fn_of_Wp (n := 39) (xs := [.tmp 6]) Try.func64 rfl Try.ntmps64 Try.results64 rfl ?_
 have hs := St.start hO
 refine Wp1 (Wm1 ?_)
 refine Rk1 rfl (op_box (cs := [(Value.int .i64 r_.slots), (Value.slice Aa r_.owners.length Ca), (Value.slice Ab r_.costs.length Cb)]) hs rfl rfl ?_)
 intro b1 w2 _ p3 hs4
 replace Fa := Fa.step p3; replace Fb := Fb.step p3; replace Fc := Fc.step p3; replace Fd := Fd.step p3; clear p3
 refine Rk1 rfl (on1 (v := (Value.bool false)) rfl ?_)
 refine Rq1 (Wp1 (Wm1 ?_))
 refine Rk1 rfl (op_loadA (cs := [(Value.int .i64 r_.slots), (Value.slice Aa r_.owners.length Ca), (Value.slice Ab r_.costs.length Cb)]) (vs := [(Value.int .i64 r_.slots), (Value.slice Aa r_.owners.length Ca), (Value.slice Ab r_.costs.length Cb)]) (i := 0) ty25 hs4 rfl rfl rfl rfl ?_)
 refine Rk1 rfl (ol1 (v := (Value.slice Ac a.length Cc)) rfl ?_)
 replace hm := bd hm; obtain ⟨value_1, hv6, hm⟩ := hm
 refine Rk1 rfl (ob2 Try.call13 (c13_overflightref38_Value (r_ := r_) (slots := a) hs4.ltw Ra Fa Fb Fc hv6) rfl ?_)
 rintro v7 w8 ⟨hx9, h10⟩
 have hs11 := hs4.call hx9
 have p12 := Step.ext (O := ks [(some b1, Obj.cells [(Value.int .i64 r_.slots), (Value.slice Aa r_.owners.length Ca), (Value.slice Ab r_.costs.length Cb)].toArray 25)] O) hx9
 clear hx9
 replace Fa := Fa.step p12; replace Fb := Fb.step p12; replace Fc := Fc.step p12; replace Fd := Fd.step p12; clear p12 hs4
 obtain ⟨v13, v14, rfl, h15, h16⟩ := h10
 obtain ⟨Ae, Ce, rfl, Fe⟩ := un_sl h15
 obtain ⟨rfl, Rb⟩ := h16
 refine Rk1 rfl (ol1 (v := (Value.tuple [(Value.slice Ae value_1.1.length Ce), (Value.int .i64 value_1.2)].toArray)) rfl ?_)
 refine Rk1 rfl (oh2 (v := (Value.slice Ae value_1.1.length Ce)) rfl rfl ?_)
 refine Rk1 rfl (oh2 (v := (Value.int .i64 value_1.2)) rfl rfl ?_)
 refine Rk1 rfl (on1 (v := (Value.slice Ae value_1.1.length Ce)) rfl ?_)
 refine Rk1 rfl (on1 (v := (Value.int .i64 value_1.2)) rfl ?_)
 refine Rq1 (Wp1 (Wm1 ?_))
 refine Rk1 rfl (op_loadA (cs := [(Value.int .i64 r_.slots), (Value.slice Aa r_.owners.length Ca), (Value.slice Ab r_.costs.length Cb)]) (vs := [(Value.int .i64 r_.slots), (Value.slice Aa r_.owners.length Ca), (Value.slice Ab r_.costs.length Cb)]) (i := 0) ty25 hs11 rfl rfl rfl rfl ?_)
 refine Rk1 rfl (ol1 (v := (Value.slice Ad b.length Cd)) rfl ?_)
 replace hm := bd hm; obtain ⟨value_2, hv19, hm⟩ := hm
 refine Rk1 rfl (ob2 Try.call13 (c13_overflightref38_Value (r_ := r_) (slots := b) hs11.ltw Ra Fa Fb Fd hv19) rfl ?_)
 rintro v20 w21 ⟨hx22, h23⟩
 have hs24 := hs11.call hx22
 have p25 := Step.ext (O := ks [(some b1, Obj.cells [(Value.int .i64 r_.slots), (Value.slice Aa r_.owners.length Ca), (Value.slice Ab r_.costs.length Cb)].toArray 25)] O) hx22
 clear hx22
 replace Fa := Fa.step p25; replace Fb := Fb.step p25; replace Fc := Fc.step p25; replace Fd := Fd.step p25; replace Fe := Fe.step p25; clear p25 hs11
 obtain ⟨v26, v27, rfl, h28, h29⟩ := h23
 obtain ⟨Af, Cf, rfl, Ff⟩ := un_sl h28
 obtain ⟨rfl, Rc⟩ := h29
 refine Rk1 rfl (ol1 (v := (Value.tuple [(Value.slice Af value_2.1.length Cf), (Value.int .i64 value_2.2)].toArray)) rfl ?_)
 refine Rk1 rfl (oh2 (v := (Value.slice Af value_2.1.length Cf)) rfl rfl ?_)
 refine Rk1 rfl (oh2 (v := (Value.int .i64 value_2.2)) rfl rfl ?_)
 refine Rk1 rfl (on1 (v := (Value.slice Af value_2.1.length Cf)) rfl ?_)
 refine Rk1 rfl (on1 (v := (Value.int .i64 value_2.2)) rfl ?_)
 refine Rq1 (Wp1 ?_)
 obtain ⟨hs32, p33⟩ := hs24.sub (bs' := []) (.cons _ List.Sublist.slnil)
 clear Fa Fb
 replace Fc := Fc.step p33; replace Fd := Fd.step p33; replace Fe := Fe.step p33; replace Ff := Ff.step p33; clear p33 hs24
 refine Wm1 ?_
 refine Rk1 rfl (ol1 (v := (Value.slice Ae value_1.1.length Ce)) rfl ?_)
 refine Rk1 rfl (ol1 (v := (Value.slice Af value_2.1.length Cf)) rfl ?_)
 replace hm := bd hm; obtain ⟨order_1, hv34, hm⟩ := hm
 refine Rk1 rfl (ob2 Try.call82 (c82_overflightref06_Order (a := value_1.1) (b := value_2.1) hs32.ltw Fe Ff hv34) rfl ?_)
 rintro v35 w36 ⟨hx37, h38⟩
 have hs39 := hs32.call hx37
 have p40 := Step.ext (O := ks [] O) hx37
 clear hx37
 replace Fc := Fc.step p40; replace Fd := Fd.step p40; replace Fe := Fe.step p40; replace Ff := Ff.step p40; clear p40 hs32
 obtain ⟨rfl, Rd⟩ := h38
 refine Rk1 rfl (on1 (v := (Value.int .i64 order_1)) rfl ?_)
 refine Rq1 (Wp1 ?_)
 clear Fe Ff
 refine Wp_reset [] [(1, (Value.slice Ac a.length Cc)), (2, (Value.slice Ad b.length Cd)), (11, (Value.int .i64 order_1))] rfl ⟨rfl, rfl, rfl, trivial⟩ fun ξ42 => ?_
 refine Wm1 ?_
 refine Rk1 rfl (ol1 (v := (Value.int .i64 order_1)) rfl ?_)
 refine Rk1 rfl (op_lss rfl rfl ?_)
 refine Rk1 rfl (ol1 (v := (Value.bool (decide (order_1 < 0)))) rfl ?_)
 refine Rg_case (fun hg43 => ?_) (fun hg43 => ?_)
 replace hm := bif_t hm hg43
 iterate 8 refine Rt1 rfl (asB_ne rfl rfl) rfl ?_
 refine Rk1 rfl (oc2 (v := (Value.bool true)) rfl rfl ?_)
 refine Rk1 rfl (on1 (v := (Value.bool true)) rfl ?_)
 refine Rq1 ?_
 refine Wa2 ?_
 have hz := step_all hs39
 replace Fc := Fc.step hz; replace Fd := Fd.step hz
 refine ⟨_, (show Closes [] _ _ from rfl), [(Value.bool true)], ⟨rfl, trivial⟩, hs39.ext, ?_⟩
 exact Vr.eq (a := vB) (x := true) rfl (Option.some.inj hm)
 replace hm := bif_f hm hg43
 refine Rs1 rfl rfl rfl (ol1 (v := (Value.int .i64 order_1)) rfl ?_)
 refine Rs1 rfl rfl rfl (op_eql rfl rfl ?_)
 refine Rs1 rfl rfl rfl (ol1 (v := (Value.bool (decide (order_1 = 0)))) rfl ?_)
 refine Rg_case (fun hg44 => ?_) (fun hg44 => ?_)
 replace hm := bif_t hm hg44
 refine Rs1 rfl rfl rfl (ol1 (v := (Value.slice Ac a.length Cc)) rfl ?_)
 refine Rs1 rfl rfl rfl (ol1 (v := (Value.slice Ad b.length Cd)) rfl ?_)
 replace hm := bd hm; obtain ⟨order_2, hv45, hm⟩ := hm
 refine Rs1 rfl rfl rfl (ob2 Try.call82 (c82_overflightref06_Order (a := a) (b := b) hs39.ltw Fc Fd hv45) rfl ?_)
 rintro v46 w47 ⟨hx48, h49⟩
 have hs50 := hs39.call hx48
 have p51 := Step.ext (O := ks [] O) hx48
 clear hx48
 replace Fc := Fc.step p51; replace Fd := Fd.step p51; clear p51 hs39
 obtain ⟨rfl, Re⟩ := h49
 refine Rs1 rfl rfl rfl (op_lss rfl rfl ?_)
 refine Rs1 rfl rfl rfl (oc2 (v := (Value.bool (decide (order_2 < 0)))) rfl rfl ?_)
 refine Rk1 rfl (or1 (v := (Value.bool (decide (order_2 < 0)))) rfl rfl ?_)
 refine Rk1 rfl (on1 (v := (Value.bool (decide (order_2 < 0)))) rfl ?_)
 refine Rq1 ?_
 refine Wa2 ?_
 have hz := step_all hs50
 replace Fc := Fc.step hz; replace Fd := Fd.step hz
 refine ⟨_, (show Closes [] _ _ from rfl), [(Value.bool (decide (order_2 < 0)))], ⟨rfl, trivial⟩, hs50.ext, ?_⟩
 exact Vr.eq (a := vB) (x := (decide (order_2 < 0))) rfl (Option.some.inj hm)
 replace hm := bif_f hm hg44
 iterate 4 refine Rt1 rfl (asB_ne rfl rfl) rfl ?_
 refine Rs1 rfl rfl rfl (or1 (v := (Value.bool false)) rfl rfl ?_)
 refine Rk1 rfl (or1 (v := (Value.bool false)) rfl rfl ?_)
 refine Rk1 rfl (on1 (v := (Value.bool false)) rfl ?_)
 refine Rq1 ?_
 refine Wa2 ?_
 have hz := step_all hs39
 replace Fc := Fc.step hz; replace Fd := Fd.step hz
 refine ⟨_, (show Closes [] _ _ from rfl), [(Value.bool false)], ⟨rfl, trivial⟩, hs39.ext, ?_⟩
 exact Vr.eq (a := vB) (x := false) rfl (Option.some.inj hm)

def m42_overflightref38_best_B0 (rec_ : XRound → (List Int) → Option (List Int × Bool)) (r_ : XRound) (slots : List Int) (sf28 : (List Int) → Bool → Int → Option (List Int × Bool)) (out_1 : List Int) (out_1n : Bool) (s_1 : Int) : Option (List Int × Bool) :=
 bif (decide (s_1 < r_.slots)) then
  jn (fun (v_1 : Bool) =>
   bif v_1 then
    sf28 out_1 out_1n (IntKind.wrap .i64 (s_1 + 1))
   else
    ck ((([] : List Int).length + slots.length) * 8 ≤ 140737488355328) <|
    ck (((([] : List Int) ++ slots).length + [s_1].length) * 8 ≤ 140737488355328) <|
    (rec_ r_ ((([] : List Int) ++ slots) ++ [s_1])).bind fun r_1 =>
    jn (fun (v_2 : Bool) =>
     bif v_2 then
      sf28 r_1.1 r_1.2 (IntKind.wrap .i64 (s_1 + 1))
     else
      sf28 out_1 out_1n (IntKind.wrap .i64 (s_1 + 1)))
    (fun k139 =>
     bif (!r_1.2) then
      bif out_1n then
       k139 true
      else
       (m64_overflightref38_before r_ r_1.1 out_1).bind fun before_1 =>
       k139 before_1
     else
      k139 false))
  (fun k41 =>
   (m59_overflightref38_flightWith slots s_1).bind fun flightwith_1 =>
   bif (decide (0 ≤ flightwith_1)) then
    k41 true
   else
    ck ((0 : Int) ≤ (slots.length : Int) ∧ (slots.length : Int) < (r_.costs.length : Int)) <|
    ck ((0 : Int) ≤ s_1 ∧ s_1 < ((r_.costs.getD slots.length default).length : Int)) <|
    k41 (decide (((r_.costs.getD slots.length default).getD s_1.toNat default) < 0)))
 else
  some (out_1, out_1n)

def m42_overflightref38_best_F (rec_ : XRound → (List Int) → Option (List Int × Bool)) (r_ : XRound) (slots : List Int) : Option (List Int × Bool) :=
 bif (decide ((slots.length : Int) = (r_.owners.length : Int))) then
  (m44_overflightref37_Stable r_ slots).bind fun stable_1 =>
  bif stable_1.1 then
   some (slots, false)
  else
   some (([] : List Int), true)
 else
  loop3 (m42_overflightref38_best_B0 rec_ r_ slots) ((r_.slots - 0).toNat + 1) ([] : List Int) true 0
def m42_overflightref38_best_N : Nat → XRound → (List Int) → Option (List Int × Bool)
 | 0 => fun _ _ => none
 | n_ + 1 => m42_overflightref38_best_F (m42_overflightref38_best_N n_)
def m42_overflightref38_best (r_ : XRound) (slots : List Int) : Option (List Int × Bool) := m42_overflightref38_best_N 1000000 r_ slots

theorem c42_overflightref38_best_N : ∀ (n_ : Nat) {w : World} {O : List Nat} {r_ : XRound} {slots : List Int} {Aa : Option Addr} {Ca : Nat} {Ab : Option Addr} {Cb : Nat} {Ac : Option Addr} {Cc : Nat} (hO : ∀ k ∈ O, k < w.heap.size) (Ra : InK .i64 r_.slots) (Fa : SlR (rInt .i64) w O Aa Ca r_.owners) (Fb : SlR (rSl (rInt .i64)) w O Ab Cb r_.costs) (Fc : SlR (rInt .i64) w O Ac Cc slots) (hnn_slots : Ac.isNone = false) {x : List Int × Bool} (hm : m42_overflightref38_best_N n_ r_ slots = some x),
 Ok Try.prog 42 [(Value.agg [(Value.int .i64 r_.slots), (Value.slice Aa r_.owners.length Ca), (Value.slice Ab r_.costs.length Cb)].toArray), (Value.slice Ac slots.length Cc)] w O (vCN (rInt .i64)) x := by
 intro n_
 induction n_ with
 | zero => intros; rename_i hm; exact absurd hm (by simp [m42_overflightref38_best_N])
 | succ n_ ih =>
  intro w O r_ slots Aa Ca Ab Cb Ac Cc hO Ra Fa Fb Fc hnn_slots x hm
  replace hm : m42_overflightref38_best_F (m42_overflightref38_best_N n_) r_ slots = some x := hm
  generalize m42_overflightref38_best_N n_ = rec_ at hm ih
  unfold m42_overflightref38_best_F at hm
  refine Fn_of_Wp (n := 68) (xs := [.tmp 4]) Try.func42 rfl Try.ntmps42 Try.results42 rfl ?_
  have hs := St.start hO
  refine Wp1 (Wm1 ?_)
  refine Rk1 rfl (op_box (cs := [(Value.int .i64 r_.slots), (Value.slice Aa r_.owners.length Ca), (Value.slice Ab r_.costs.length Cb)]) hs rfl rfl ?_)
  intro b1 w2 _ p3 hs4
  replace Fa := Fa.step p3; replace Fb := Fb.step p3; replace Fc := Fc.step p3; clear p3
  refine Rk1 rfl (on1 (v := (Value.slice none 0 0)) rfl ?_)
  refine Rq1 (Wp1 (Wp1 (Wm1 ?_)))
  refine Rk1 rfl (ol1 (v := (Value.slice Ac slots.length Cc)) rfl ?_)
  refine Rk1 rfl (op_len Try.underlying22 rfl ?_)
  have rl6 := inK_len Fc
  refine Rk1 rfl (oe2 ty25 rfl ty22 (by decide) rfl (rfl : _ = (⟨_, 1, none⟩ : Addr)) ?_)
  refine Rk1 rfl (op_load (cs := [(Value.int .i64 r_.slots), (Value.slice Aa r_.owners.length Ca), (Value.slice Ab r_.costs.length Cb)]) (i := 0) ty22 hs4 rfl rfl rfl ?_)
  refine Rk1 rfl (op_len Try.underlying22 rfl ?_)
  have rl7 := inK_len Fa
  refine Rk1 rfl (op_eql rfl rfl ?_)
  refine Rq1 ?_
  refine Wy1 rfl (fun hc8 => ?_) (fun hc8 => ?_)
  replace hm := bif_t hm hc8
  refine Wp1 (Wm1 ?_)
  refine Rk1 rfl (op_loadA (cs := [(Value.int .i64 r_.slots), (Value.slice Aa r_.owners.length Ca), (Value.slice Ab r_.costs.length Cb)]) (vs := [(Value.int .i64 r_.slots), (Value.slice Aa r_.owners.length Ca), (Value.slice Ab r_.costs.length Cb)]) (i := 0) ty25 hs4 rfl rfl rfl rfl ?_)
  refine Rk1 rfl (ol1 (v := (Value.slice Ac slots.length Cc)) rfl ?_)
  replace hm := bd hm; obtain ⟨stable_1, hv9, hm⟩ := hm
  refine Rk1 rfl (ob2 Try.call44 (c44_overflightref37_Stable (r_ := r_) (slots := slots) hs4.ltw Ra Fa Fb Fc hv9) rfl ?_)
  rintro v10 w11 ⟨hx12, h13⟩
  have hs14 := hs4.call hx12
  have p15 := Step.ext (O := ks [(some b1, Obj.cells [(Value.int .i64 r_.slots), (Value.slice Aa r_.owners.length Ca), (Value.slice Ab r_.costs.length Cb)].toArray 25)] O) hx12
  clear hx12
  replace Fa := Fa.step p15; replace Fb := Fb.step p15; replace Fc := Fc.step p15; clear p15 hs4
  obtain ⟨v16, v17, rfl, h18, h19⟩ := h13
  obtain rfl := h18
  obtain ⟨rfl, Rb⟩ := h19
  refine Rk1 rfl (ol1 (v := (Value.tuple [(Value.bool stable_1.1), (Value.int .i64 stable_1.2)].toArray)) rfl ?_)
  refine Rk1 rfl (oh2 (v := (Value.bool stable_1.1)) rfl rfl ?_)
  refine Rk1 rfl (oh2 (v := (Value.int .i64 stable_1.2)) rfl rfl ?_)
  refine Rk1 rfl (on1 (v := (Value.bool stable_1.1)) rfl ?_)
  refine Rk1 rfl (on1 (v := (Value.int .i64 stable_1.2)) rfl ?_)
  refine Rq1 (Wp1 (Wp1 ?_))
  obtain ⟨hs22, p23⟩ := hs14.sub (bs' := []) (.cons _ List.Sublist.slnil)
  clear Fa Fb
  replace Fc := Fc.step p23; clear p23 hs14
  refine Wm1 ?_
  refine Rk1 rfl (ol1 (v := (Value.bool stable_1.1)) rfl ?_)
  refine Rq1 ?_
  refine Wy1 rfl (fun hc24 => ?_) (fun hc24 => ?_)
  replace hm := bif_t hm hc24
  refine Wp1 (Wm1 ?_)
  refine Rk1 rfl (ol1 (v := (Value.slice Ac slots.length Cc)) rfl ?_)
  refine Rk1 rfl (on1 (v := (Value.slice Ac slots.length Cc)) rfl ?_)
  refine Rq1 ?_
  refine Wa2 ?_
  have hz := step_all hs22
  replace Fc := Fc.step hz
  refine ⟨_, (show Closes [] _ _ from rfl), [(Value.slice Ac slots.length Cc)], ⟨rfl, trivial⟩, hs22.ext, ?_⟩
  exact Vr.eq (a := (vCN (rInt .i64))) (x := (slots, false)) (mkCN Fc hnn_slots) (Option.some.inj hm)
  replace hm := bif_f hm hc24
  refine Wx1 (Wp1 ?_)
  clear Fc
  refine Wm1 ?_
  refine Rk1 rfl (on1 (v := (Value.slice none 0 0)) rfl ?_)
  refine Rq1 ?_
  refine Wa2 ?_
  have hz := step_all hs22
  refine ⟨_, (show Closes [] _ _ from rfl), [(Value.slice none 0 0)], ⟨rfl, trivial⟩, hs22.ext, ?_⟩
  exact Vr.eq (a := (vCN (rInt .i64))) (x := (([] : List Int), true)) (mkCN SlR.nil_ rfl) (Option.some.inj hm)
  replace hm := bif_f hm hc8
  refine Wx1 (Wp1 (Wm1 ?_))
  refine Rk1 rfl (on1 (v := (Value.slice none 0 0)) rfl ?_)
  refine Rq1 (Wp1 (Wp1 (Wm1 ?_)))
  refine Rk1 rfl (on1 (v := (Value.int .i64 0)) rfl ?_)
  refine Rq1 (Wf2 ?_)
  refine Wp_reset [] [(1, (Value.slice Ac slots.length Cc)), (2, (Value.pointer (some ⟨b1, 0, none⟩))), (7, (Value.slice none 0 0)), (8, (Value.int .i64 0))] rfl ⟨rfl, rfl, rfl, rfl, trivial⟩ fun ξ27 => ?_
  refine Wp_loopM [7, 8, 9, 24, 25, 26, 27, 28, 29, 30, 31, 32, 33, 34, 35, 36, 37, 38, 39, 40, 41, 42, 43, 44, 45, 46, 47, 48, 49, 50, 51, 52, 53, 54, 55, 56, 57, 58, 59, 60, 61, 62, 63, 64, 65, 66] (fun m fr w' => ∃ (out_1 : List Int) (out_1n : Bool) (s_1 : Int) (Ad : Option Addr) (Cd : Nat) (Ebs : Ents), Ebs = [(some b1, Obj.cells [(Value.int .i64 r_.slots), (Value.slice Aa r_.owners.length Ca), (Value.slice Ab r_.costs.length Cb)].toArray 25)] ∧ fr [] [(7, (Value.slice Ad out_1.length Cd)), (8, (Value.int .i64 s_1))] ∧ Step (ks [(some b1, Obj.cells [(Value.int .i64 r_.slots), (Value.slice Aa r_.owners.length Ca), (Value.slice Ab r_.costs.length Cb)].toArray 25)] O) w2 (ks Ebs O) w' ∧ St ⟨w, [], []⟩ O w' Ebs ∧ SlR (rInt .i64) w' (ks Ebs O) Ad Cd out_1 ∧ Ad.isNone = out_1n ∧ InK .i64 s_1 ∧ loop3 (m42_overflightref38_best_B0 rec_ r_ slots) m out_1 out_1n s_1 = some x) ((r_.slots - 0).toNat + 1) ⟨([] : List Int), true, 0, none, 0, _, rfl, ⟨Out.refl _ _, rfl, rfl, rfl, trivial⟩, Step.refl _ _, hs4, SlR.nil_, rfl, (show InK .i64 0 from by decide), hm⟩ ?_ ?_
  rintro _ _ ⟨_, _, _, _, _, _, _, _, _, _, _, _, _, hm⟩; exact loop3_z hm
  rintro m31 K30 hK30 ρ36 w32 ⟨out_1, out_1n, s_1, Ad, Cd, Ebs, hEbs, hfr35, hst34, hs33, Fd, hn_out_1, Rc, hm⟩
  obtain ⟨sf28, hsf29, hm⟩ := loop3_s hm; unfold m42_overflightref38_best_B0 at hm
  subst hEbs; rw [hfr35.eq]; clear hfr35
  replace Fa := Fa.step hst34; replace Fb := Fb.step hst34; replace Fc := Fc.step hst34
  have ch37 := hst34
  refine Wp1 (Wp1 (Wm1 ?_))
  refine Rk1 rfl (ol1 (v := (Value.int .i64 s_1)) rfl ?_)
  refine Rk1 rfl (oe2 ty25 rfl ty3 (by decide) rfl (rfl : _ = (⟨_, 0, none⟩ : Addr)) ?_)
  refine Rk1 rfl (op_load (cs := [(Value.int .i64 r_.slots), (Value.slice Aa r_.owners.length Ca), (Value.slice Ab r_.costs.length Cb)]) (i := 0) ty3 hs33 rfl rfl rfl ?_)
  refine Rk1 rfl (op_lss rfl rfl ?_)
  refine Rq1 ?_
  refine Wy1 rfl (fun hc38 => ?_) (fun hc38 => ?_)
  replace hm := bif_t hm hc38
  refine Wx1 (Wp1 (Wf2 (Wp1 ?_)))
  refine Wp_reset2 [7, 8, 9, 24, 25, 26, 27, 28, 29, 30, 31, 32, 33, 34, 35, 36, 37, 38, 39, 40, 41, 42, 43, 44, 45, 46, 47, 48, 49, 50, 51, 52, 53, 54, 55, 56, 57, 58, 59, 60, 61, 62, 63, 64, 65, 66] [] (updL ⟨ξ27, []⟩ [(1, (Value.slice Ac slots.length Cc)), (2, (Value.pointer (some ⟨b1, 0, none⟩))), (7, (Value.slice none 0 0)), (8, (Value.int .i64 0))]) [(7, (Value.slice Ad out_1.length Cd)), (8, (Value.int .i64 s_1))] (by repeat (first | with_reducible exact Out.refl _ _ | refine Out.upd ?_ rfl | refine Out.updL ?_ rfl | refine Out.mix' ?_ rfl | exact Out.refl _ _)) rfl ⟨rfl, rfl, trivial⟩ fun ξ39 => ?_
  replace hm := jn_elim hm; obtain ⟨k41, hk42, hm⟩ := hm
  refine Wp_seqJ [30, 31, 32, 33, 34, 35, 36, 37, 38, 39, 40, 41, 42, 43, 44, 45] (fun fr w' => ∃ (v_1 : Bool) (Ebs : Ents), Ebs = [(some b1, Obj.cells [(Value.int .i64 r_.slots), (Value.slice Aa r_.owners.length Ca), (Value.slice Ab r_.costs.length Cb)].toArray 25)] ∧ fr [] [(45, (Value.bool v_1))] ∧ Step (ks [(some b1, Obj.cells [(Value.int .i64 r_.slots), (Value.slice Aa r_.owners.length Ca), (Value.slice Ab r_.costs.length Cb)].toArray 25)] O) w32 (ks Ebs O) w' ∧ St ⟨w, [], []⟩ O w' Ebs ∧ k41 v_1 = some x) ?_ ?_
  rintro ρ48 w44 ⟨v_1, Ebs, hEbs, hfr47, hst46, hs45, hm⟩
  replace hm := jnE1 hk42 hm
  subst hEbs; rw [hfr47.eq]; clear hfr47
  replace Fa := Fa.step hst46; replace Fb := Fb.step hst46; replace Fc := Fc.step hst46; replace Fd := Fd.step hst46; replace ch37 := ch37.trans hst46; clear hst46 hs33
  refine Wy1 rfl (fun hc49 => ?_) (fun hc49 => ?_)
  replace hm := bif_t hm hc49
  refine Wp_exit (Wm1 ?_)
  refine Rk1 rfl (ol1 (v := (Value.int .i64 s_1)) rfl ?_)
  refine Rk1 rfl (op_addw rfl rfl ?_)
  refine Rk1 rfl (on1 (v := (Value.int .i64 (IntKind.wrap .i64 (s_1 + 1)))) rfl ?_)
  refine Rq1 ?_
  exact hK30 _ _ ⟨out_1, out_1n, (IntKind.wrap .i64 (s_1 + 1)), Ad, Cd, _, rfl, ⟨(by repeat (first | with_reducible exact Out.refl _ _ | refine Out.upd ?_ rfl | refine Out.updL ?_ rfl | refine Out.mix' ?_ rfl | exact Out.refl _ _)), rfl, rfl, rfl, trivial⟩, ch37, hs45, Fd, hn_out_1, (inK_wrap .i64 _), jnE3 hsf29 hm⟩
  replace hm := bif_f hm hc49
  refine Wx1 (Wp1 ?_)
  refine Wp_drawR (g0 := ([], [])) (m := 7) (fl := []) (TX_inv (eat := (fun t : Nat => if t = 1 then 3 else if t = 3 then 6 else 1000)) hs45) rfl (.inl rfl) rfl (by decide +kernel) ?_  -- 11
  refine Du1 (Value.agg [(Value.int .i64 r_.slots), (Value.slice Aa r_.owners.length Ca), (Value.slice Ab r_.costs.length Cb)].toArray) (fun ρ50 w51 g hle hi ht => ?_) ?_
  obtain ⟨-, hst, -⟩ := hle
  obtain ⟨hi, hi2⟩ := hi
  have hsn := (Step.nxX hi).1
  refine So1 (op_loadA (cs := [(Value.int .i64 r_.slots), (Value.slice Aa r_.owners.length Ca), (Value.slice Ab r_.costs.length Cb)]) (vs := [(Value.int .i64 r_.slots), (Value.slice Aa r_.owners.length Ca), (Value.slice Ab r_.costs.length Cb)]) (i := 0) ty25 hsn (ht 2 rfl) rfl rfl rfl ?_)
  exact GoesX.same hi hi2 rfl
  refine Dw_opN (XG O [(some b1, Obj.cells [(Value.int .i64 r_.slots), (Value.slice Aa r_.owners.length Ca), (Value.slice Ab r_.costs.length Cb)].toArray 25)] (fun t : Nat => if t = 1 then 3 else if t = 3 then 6 else 1000) 1 (rInt .i64) 3 ([] : List Int)) (XG.stab _ _ _ _) (fun ρ53 w54 g hle hi hk ht => ?_) ?_
  obtain ⟨-, hst, -⟩ := hle
  obtain ⟨hi, hi2⟩ := hi
  replace Fa := Fa.step hst; replace Fb := Fb.step hst; replace Fc := Fc.step hst; replace Fd := Fd.step hst
  refine So1 (og2 (cs := []) (parts := []) ty22 ty3 hi (by decide) (by simp only [List.map]; rfl) ?_)
  intro b56 w57 hx60 p58 hs59
  replace Fa := Fa.step p58; replace Fb := Fb.step p58; replace Fc := Fc.step p58; replace Fd := Fd.step p58
  exact GoesX.own (xs := ([] : List Int)) hi2 p58 hs59 (Gs.of_cells (p := (rInt .i64)) (e := 3) (bl := b56) (c := 0) (show Els (rInt .i64) _ _ [] [] from Els.nil) rfl (le_lit rfl)) rfl
  refine Du1 (Value.slice Ac slots.length Cc) (fun ρ63 w64 g hle hi ht => ?_) ?_
  obtain ⟨-, hst, -⟩ := hle
  obtain ⟨hi, hi2⟩ := hi
  refine So1 (ol1 (v := (Value.slice Ac slots.length Cc)) (ht 1 rfl) ?_)
  exact GoesX.same hi hi2 rfl
  replace hm := ck_some hm; obtain ⟨hc69, hm⟩ := hm
  refine Dw_opN (XG O [(some b1, Obj.cells [(Value.int .i64 r_.slots), (Value.slice Aa r_.owners.length Ca), (Value.slice Ab r_.costs.length Cb)].toArray 25)] (fun t : Nat => if t = 1 then 3 else if t = 3 then 6 else 1000) 3 (rInt .i64) 3 (([] : List Int) ++ slots)) (XG.stab _ _ _ _) (fun ρ66 w67 g hle hi hk ht => ?_) ?_
  obtain ⟨-, hst, -⟩ := hle
  obtain ⟨hi, hi2⟩ := hi
  replace Fc := Fc.step hst
  obtain ⟨ns70, he71, hr72⟩ := Fc.src
  refine So1 (op_appendX (q := (rInt .i64)) (xs := ([] : List Int)) (ys := slots) (news := ns70) (tag := 1) ty22 ty3 rfl (by decide) hi hi2 hk rfl (le_lit rfl) (ht 47 rfl) (ht 48 rfl) hr72 he71 hc69 (by have := hc69; simp only [maxLen]; omega))
  refine Du1 (Value.int .i64 s_1) (fun ρ73 w74 g hle hi ht => ?_) ?_
  obtain ⟨-, hst, -⟩ := hle
  obtain ⟨hi, hi2⟩ := hi
  refine So1 (ol1 (v := (Value.int .i64 s_1)) (ht 8 rfl) ?_)
  exact GoesX.same hi hi2 rfl
  refine Dw_op (XD O [(some b1, Obj.cells [(Value.int .i64 r_.slots), (Value.slice Aa r_.owners.length Ca), (Value.slice Ab r_.costs.length Cb)].toArray 25)] (vC (rSl (rInt .i64))) [s_1]) (XD.stab _ _) (fun ρ76 w77 g hle hi ht => ?_) ?_
  obtain ⟨-, hst, -⟩ := hle
  obtain ⟨hi, hi2⟩ := hi
  replace Fa := Fa.step hst; replace Fb := Fb.step hst; replace Fc := Fc.step hst; replace Fd := Fd.step hst
  refine So1 (og2 (cs := [(Value.int .i64 s_1)]) (parts := [(0, .tmp 50)]) ty22 ty3 hi (by decide) (by simp only [List.map, (show ev _ (.tmp 50) = _ from (ht 50 rfl))]; rfl) ?_)
  intro b79 w80 hx83 p81 hs82
  replace Fa := Fa.step p81; replace Fb := Fb.step p81; replace Fc := Fc.step p81; replace Fd := Fd.step p81
  obtain ⟨hs85, p86, f87⟩ := St.publish (q := (rInt .i64)) (i := 0) (o := 0) (c := 1) (xs := [s_1]) hs82 rfl (show Els (rInt .i64) _ _ [(Value.int .i64 s_1)] [s_1] from ⟨_, _, rfl, (mk_int Rc), Els.nil⟩) (le_lit rfl) (le_lit rfl) (le_lit rfl)
  exact GoesX.pub hi hi2 hs85 (Step.trans p81 p86) hx83 (show Vr.vd (vC (rSl (rInt .i64))) _ _ _ _ from mkC (mk_sl f87))
  replace hm := ck_some hm; obtain ⟨hc94, hm⟩ := hm
  refine Dw_opN (XG O [(some b1, Obj.cells [(Value.int .i64 r_.slots), (Value.slice Aa r_.owners.length Ca), (Value.slice Ab r_.costs.length Cb)].toArray 25)] (fun t : Nat => if t = 1 then 3 else if t = 3 then 6 else 1000) 6 (rInt .i64) 3 ((([] : List Int) ++ slots) ++ [s_1])) (XG.stab _ _ _ _) (fun ρ88 w89 g hle hi hk ht => ?_) ?_
  obtain ⟨-, hst, -⟩ := hle
  obtain ⟨hi, hi2⟩ := hi
  have h91 : Vr.vd (vC (rSl (rInt .i64))) _ _ _ _ := ht 51 rfl
  obtain ⟨Ae, Ce, q92, Fe⟩ := un_sl h91
  obtain ⟨ns95, he96, hr97⟩ := Fe.src
  refine So1 (op_appendX (q := (rInt .i64)) (xs := (([] : List Int) ++ slots)) (ys := [s_1]) (news := ns95) (tag := 3) ty22 ty3 rfl (by decide) hi hi2 hk rfl (le_lit rfl) (ht 49 rfl) q92 hr97 he96 hc94 (by have := hc94; simp only [maxLen]; omega))
  refine Dw_nil fun w102 g103 hl104 hi105 => ?_
  obtain ⟨-, hst106, -⟩ := hl104
  obtain ⟨hi105, hi109⟩ := hi105
  rintro v110 hm115
  obtain ⟨a111, c112, k113, o114, rfl, hm115, f116⟩ := hm115.resolve_left (fun h => absurd (hi109 _ h) (by decide))
  rintro v118 h119
  replace h119 : Vr.vd (vC (rSl (rInt .i64))) _ _ _ _ := h119
  obtain ⟨Af, Cf, rfl, Ff⟩ := un_sl h119
  rintro _ rfl
  rintro _ -
  rintro _ rfl
  rintro _ -
  rintro _ rfl
  obtain ⟨hs108, p107⟩ := Step.nxX1 hi105 hm115; clear hm115
  have p121 : Step (ks [(some b1, Obj.cells [(Value.int .i64 r_.slots), (Value.slice Aa r_.owners.length Ca), (Value.slice Ab r_.costs.length Cb)].toArray 25)] O) w44 (ks [(k113, o114), (some b1, Obj.cells [(Value.int .i64 r_.slots), (Value.slice Aa r_.owners.length Ca), (Value.slice Ab r_.costs.length Cb)].toArray 25)] O) w102 := hst106.trans p107
  replace f116 := f116.step p107; replace Ff := Ff.step p107; replace Fa := Fa.step p121; replace Fb := Fb.step p121; replace Fc := Fc.step p121; replace Fd := Fd.step p121; replace ch37 := ch37.trans p121; clear p121 hs45
  obtain ⟨hs123, p124, f122⟩ := Gs.publish (i := 0) hs108 rfl f116
  replace Fa := Fa.step p124; replace Fb := Fb.step p124; replace Fc := Fc.step p124; replace Fd := Fd.step p124; replace Ff := Ff.step p124; replace ch37 := ch37.trans p124; clear p124 hs108
  have hn125 : a111.isNone = false := f122.nonnil (by simp)
  replace hm := bd hm; obtain ⟨r_1, hv126, hm⟩ := hm
  refine Rk1 rfl (ob2 Try.call42 (ih (r_ := r_) (slots := ((([] : List Int) ++ slots) ++ [s_1])) hs123.ltw Ra Fa Fb f122 hn125 hv126) rfl ?_)
  rintro v127 w128 ⟨hx129, h130⟩
  have hs131 := hs123.call hx129
  have p132 := Step.ext (O := ks [(some b1, Obj.cells [(Value.int .i64 r_.slots), (Value.slice Aa r_.owners.length Ca), (Value.slice Ab r_.costs.length Cb)].toArray 25)] O) hx129
  clear hx129
  replace Fa := Fa.step p132; replace Fb := Fb.step p132; replace Fc := Fc.step p132; replace Fd := Fd.step p132; replace Ff := Ff.step p132; replace f122 := f122.step p132; replace ch37 := ch37.trans p132; clear p132 hs123
  obtain ⟨a133, c134, rfl, f135, hn136⟩ := h130
  refine Rk1 rfl (on1 (v := (Value.slice a133 r_1.1.length c134)) rfl ?_)
  refine Rq1 ?_
  refine Wp_reset2 [7, 8, 9, 24, 25, 26, 27, 28, 29, 30, 31, 32, 33, 34, 35, 36, 37, 38, 39, 40, 41, 42, 43, 44, 45, 46, 47, 48, 49, 50, 51, 52, 53, 54, 55, 56, 57, 58, 59, 60, 61, 62, 63, 64, 65, 66] [] (updL ⟨ξ27, []⟩ [(1, (Value.slice Ac slots.length Cc)), (2, (Value.pointer (some ⟨b1, 0, none⟩))), (7, (Value.slice none 0 0)), (8, (Value.int .i64 0))]) [(7, (Value.slice Ad out_1.length Cd)), (8, (Value.int .i64 s_1)), (9, (Value.slice a133 r_1.1.length c134))] (by repeat (first | with_reducible exact Out.refl _ _ | refine Out.upd ?_ rfl | refine Out.updL ?_ rfl | refine Out.mix' ?_ rfl | exact Out.refl _ _)) rfl ⟨rfl, rfl, rfl, trivial⟩ fun ξ137 => ?_
  replace hm := jn_elim hm; obtain ⟨k139, hk140, hm⟩ := hm
  refine Wp_seqJ [54, 55, 56, 57, 58, 59, 60, 61, 62, 63, 64, 65] (fun fr w' => ∃ (v_2 : Bool) (Ebs : Ents), Ebs = [(some b1, Obj.cells [(Value.int .i64 r_.slots), (Value.slice Aa r_.owners.length Ca), (Value.slice Ab r_.costs.length Cb)].toArray 25)] ∧ fr [] [(65, (Value.bool v_2))] ∧ Step (ks [(some b1, Obj.cells [(Value.int .i64 r_.slots), (Value.slice Aa r_.owners.length Ca), (Value.slice Ab r_.costs.length Cb)].toArray 25)] O) w128 (ks Ebs O) w' ∧ St ⟨w, [], []⟩ O w' Ebs ∧ k139 v_2 = some x) ?_ ?_
  rintro ρ146 w142 ⟨v_2, Ebs, hEbs, hfr145, hst144, hs143, hm⟩
  replace hm := jnE1 hk140 hm
  subst hEbs; rw [hfr145.eq]; clear hfr145
  replace Fa := Fa.step hst144; replace Fb := Fb.step hst144; replace Fc := Fc.step hst144; replace Fd := Fd.step hst144; replace Ff := Ff.step hst144; replace f122 := f122.step hst144; replace f135 := f135.step hst144; replace ch37 := ch37.trans hst144; clear hst144 hs131
  refine Wy1 rfl (fun hc147 => ?_) (fun hc147 => ?_)
  replace hm := bif_t hm hc147
  clear Fd Ff f122
  refine Wm1 ?_
  refine Rk1 rfl (ol1 (v := (Value.slice a133 r_1.1.length c134)) rfl ?_)
  refine Rk1 rfl (on1 (v := (Value.slice a133 r_1.1.length c134)) rfl ?_)
  refine Rq1 (Wm1 ?_)
  refine Rk1 rfl (ol1 (v := (Value.int .i64 s_1)) rfl ?_)
  refine Rk1 rfl (op_addw rfl rfl ?_)
  refine Rk1 rfl (on1 (v := (Value.int .i64 (IntKind.wrap .i64 (s_1 + 1)))) rfl ?_)
  refine Rq1 ?_
  exact hK30 _ _ ⟨r_1.1, r_1.2, (IntKind.wrap .i64 (s_1 + 1)), a133, c134, _, rfl, ⟨(by repeat (first | with_reducible exact Out.refl _ _ | refine Out.upd ?_ rfl | refine Out.updL ?_ rfl | refine Out.mix' ?_ rfl | exact Out.refl _ _)), rfl, rfl, rfl, trivial⟩, ch37, hs143, f135, hn136, (inK_wrap .i64 _), jnE3 hsf29 hm⟩
  replace hm := bif_f hm hc147
  refine Wx1 ?_
  clear Ff f122 f135
  refine Wm1 ?_
  refine Rk1 rfl (ol1 (v := (Value.int .i64 s_1)) rfl ?_)
  refine Rk1 rfl (op_addw rfl rfl ?_)
  refine Rk1 rfl (on1 (v := (Value.int .i64 (IntKind.wrap .i64 (s_1 + 1)))) rfl ?_)
  refine Rq1 ?_
  exact hK30 _ _ ⟨out_1, out_1n, (IntKind.wrap .i64 (s_1 + 1)), Ad, Cd, _, rfl, ⟨(by repeat (first | with_reducible exact Out.refl _ _ | refine Out.upd ?_ rfl | refine Out.updL ?_ rfl | refine Out.mix' ?_ rfl | exact Out.refl _ _)), rfl, rfl, rfl, trivial⟩, ch37, hs143, Fd, hn_out_1, (inK_wrap .i64 _), jnE3 hsf29 hm⟩
  intro K141 hK141
  have ch148 := Step.refl (ks [(some b1, Obj.cells [(Value.int .i64 r_.slots), (Value.slice Aa r_.owners.length Ca), (Value.slice Ab r_.costs.length Cb)].toArray 25)] O) w128
  clear Ff f122
  refine Wm1 ?_
  refine Rk1 rfl (ol1 (v := (Value.slice a133 r_1.1.length c134)) rfl ?_)
  refine Rk1 rfl (op_neqnilB Try.underlying22 rfl rfl hn136 ?_)
  refine Rk1 rfl (ol1 (v := (Value.bool (!r_1.2))) rfl ?_)
  refine Rg_case (fun hg149 => ?_) (fun hg149 => ?_)
  replace hm := bif_t hm hg149
  refine Rs1 rfl rfl rfl (ol1 (v := (Value.slice Ad out_1.length Cd)) rfl ?_)
  refine Rs1 rfl rfl rfl (op_eqnilB Try.underlying22 rfl rfl hn_out_1 ?_)
  refine Rs1 rfl rfl rfl (ol1 (v := (Value.bool out_1n)) rfl ?_)
  refine Rg_case (fun hg150 => ?_) (fun hg150 => ?_)
  replace hm := bif_t hm hg150
  iterate 4 refine Rt1 rfl (asB_ne rfl rfl) rfl ?_
  refine Rs1 rfl rfl rfl (oc2 (v := (Value.bool true)) rfl rfl ?_)
  refine Rk1 rfl (oc2 (v := (Value.bool true)) rfl rfl ?_)
  refine Rq1 ?_
  exact hK141 _ _ ⟨true, _, rfl, ⟨(by repeat (first | with_reducible exact Out.refl _ _ | refine Out.upd ?_ rfl | refine Out.updL ?_ rfl | refine Out.mix' ?_ rfl | exact Out.refl _ _)), rfl, rfl, trivial⟩, ch148, hs131, hm⟩
  replace hm := bif_f hm hg150
  refine Rs1 rfl rfl rfl (op_loadA (cs := [(Value.int .i64 r_.slots), (Value.slice Aa r_.owners.length Ca), (Value.slice Ab r_.costs.length Cb)]) (vs := [(Value.int .i64 r_.slots), (Value.slice Aa r_.owners.length Ca), (Value.slice Ab r_.costs.length Cb)]) (i := 0) ty25 hs131 rfl rfl rfl rfl ?_)
  refine Rs1 rfl rfl rfl (ol1 (v := (Value.slice a133 r_1.1.length c134)) rfl ?_)
  refine Rs1 rfl rfl rfl (ol1 (v := (Value.slice Ad out_1.length Cd)) rfl ?_)
  replace hm := bd hm; obtain ⟨before_1, hv151, hm⟩ := hm
  refine Rs1 rfl rfl rfl (ob2 Try.call64 (c64_overflightref38_before (r_ := r_) (a := r_1.1) (b := out_1) hs131.ltw Ra Fa Fb f135 Fd hv151) rfl ?_)
  rintro v152 w153 ⟨hx154, h155⟩
  have hs156 := hs131.call hx154
  have p157 := Step.ext (O := ks [(some b1, Obj.cells [(Value.int .i64 r_.slots), (Value.slice Aa r_.owners.length Ca), (Value.slice Ab r_.costs.length Cb)].toArray 25)] O) hx154
  clear hx154
  replace Fa := Fa.step p157; replace Fb := Fb.step p157; replace Fc := Fc.step p157; replace Fd := Fd.step p157; replace f135 := f135.step p157; replace ch37 := ch37.trans p157; replace ch148 := ch148.trans p157; clear p157 hs131
  obtain rfl := h155
  refine Rs1 rfl rfl rfl (or1 (v := (Value.bool before_1)) rfl rfl ?_)
  refine Rk1 rfl (oc2 (v := (Value.bool before_1)) rfl rfl ?_)
  refine Rq1 ?_
  exact hK141 _ _ ⟨before_1, _, rfl, ⟨(by repeat (first | with_reducible exact Out.refl _ _ | refine Out.upd ?_ rfl | refine Out.updL ?_ rfl | refine Out.mix' ?_ rfl | exact Out.refl _ _)), rfl, rfl, trivial⟩, ch148, hs156, hm⟩
  replace hm := bif_f hm hg149
  iterate 8 refine Rt1 rfl (asB_ne rfl rfl) rfl ?_
  refine Rk1 rfl (or1 (v := (Value.bool false)) rfl rfl ?_)
  refine Rq1 ?_
  exact hK141 _ _ ⟨false, _, rfl, ⟨(by repeat (first | with_reducible exact Out.refl _ _ | refine Out.upd ?_ rfl | refine Out.updL ?_ rfl | refine Out.mix' ?_ rfl | exact Out.refl _ _)), rfl, rfl, trivial⟩, ch148, hs131, hm⟩
  intro K43 hK43
  have ch159 := Step.refl (ks [(some b1, Obj.cells [(Value.int .i64 r_.slots), (Value.slice Aa r_.owners.length Ca), (Value.slice Ab r_.costs.length Cb)].toArray 25)] O) w32
  refine Wm1 ?_
  refine Rk1 rfl (ol1 (v := (Value.slice Ac slots.length Cc)) rfl ?_)
  refine Rk1 rfl (ol1 (v := (Value.int .i64 s_1)) rfl ?_)
  replace hm := bd hm; obtain ⟨flightwith_1, hv160, hm⟩ := hm
  refine Rk1 rfl (ob2 Try.call59 (c59_overflightref38_flightWith (slots := slots) (slot := s_1) hs33.ltw Fc Rc hv160) rfl ?_)
  rintro v161 w162 ⟨hx163, h164⟩
  have hs165 := hs33.call hx163
  have p166 := Step.ext (O := ks [(some b1, Obj.cells [(Value.int .i64 r_.slots), (Value.slice Aa r_.owners.length Ca), (Value.slice Ab r_.costs.length Cb)].toArray 25)] O) hx163
  clear hx163
  replace Fa := Fa.step p166; replace Fb := Fb.step p166; replace Fc := Fc.step p166; replace Fd := Fd.step p166; replace ch37 := ch37.trans p166; replace ch159 := ch159.trans p166; clear p166 hs33
  obtain ⟨rfl, Rd⟩ := h164
  refine Rk1 rfl (op_geq rfl rfl ?_)
  refine Rk1 rfl (ol1 (v := (Value.bool (decide (0 ≤ flightwith_1)))) rfl ?_)
  refine Rg_case (fun hg168 => ?_) (fun hg168 => ?_)
  replace hm := bif_t hm hg168
  iterate 10 refine Rt1 rfl (asB_ne rfl rfl) rfl ?_
  refine Rk1 rfl (oc2 (v := (Value.bool true)) rfl rfl ?_)
  refine Rq1 ?_
  exact hK43 _ _ ⟨true, _, rfl, ⟨(by repeat (first | with_reducible exact Out.refl _ _ | refine Out.upd ?_ rfl | refine Out.updL ?_ rfl | refine Out.mix' ?_ rfl | exact Out.refl _ _)), rfl, rfl, trivial⟩, ch159, hs165, hm⟩
  replace hm := bif_f hm hg168
  refine Rs1 rfl rfl rfl (oe2 ty25 rfl ty23 (by decide) rfl (rfl : _ = (⟨_, 2, none⟩ : Addr)) ?_)
  refine Rs1 rfl rfl rfl (op_load (cs := [(Value.int .i64 r_.slots), (Value.slice Aa r_.owners.length Ca), (Value.slice Ab r_.costs.length Cb)]) (i := 0) ty23 hs165 rfl rfl rfl ?_)
  refine Rs1 rfl rfl rfl (ol1 (v := (Value.slice Ac slots.length Cc)) rfl ?_)
  refine Rs1 rfl rfl rfl (op_len Try.underlying22 rfl ?_)
  have rl169 := inK_len Fc
  replace hm := ck_some hm; obtain ⟨hc170, hm⟩ := hm
  refine Rs1 rfl rfl rfl (ow1 (q := (rSl (rInt .i64))) ty23 ty22 rfl rfl Fb rfl hc170.1 hc170.2 ?_)
  intro p171 f172
  refine Rs1 rfl rfl rfl (oz1 ty22 rfl f172 rfl ?_)
  intro v173 h174
  obtain ⟨Ag, Cg, rfl, Fg⟩ := un_sl h174
  refine Rs1 rfl rfl rfl (ol1 (v := (Value.int .i64 s_1)) rfl ?_)
  replace hm := ck_some hm; obtain ⟨hc176, hm⟩ := hm
  refine Rs1 rfl rfl rfl (ow1 (q := (rInt .i64)) ty22 ty3 rfl rfl Fg rfl hc176.1 hc176.2 ?_)
  intro p177 f178
  refine Rs1 rfl rfl rfl (oz1 ty3 rfl f178 rfl ?_)
  intro v179 h180
  obtain ⟨rfl, Re⟩ := un_int h180
  refine Rs1 rfl rfl rfl (op_lss rfl rfl ?_)
  refine Rk1 rfl (or1 (v := (Value.bool (decide (((r_.costs.getD slots.length default).getD s_1.toNat default) < 0)))) rfl rfl ?_)
  refine Rq1 ?_
  exact hK43 _ _ ⟨(decide (((r_.costs.getD slots.length default).getD s_1.toNat default) < 0)), _, rfl, ⟨(by repeat (first | with_reducible exact Out.refl _ _ | refine Out.upd ?_ rfl | refine Out.updL ?_ rfl | refine Out.mix' ?_ rfl | exact Out.refl _ _)), rfl, rfl, trivial⟩, ch159, hs165, hm⟩
  replace hm := bif_f hm hc38
  refine Wp_exit (Wp1 ?_)
  obtain ⟨hs182, p183⟩ := hs33.sub (bs' := []) (.cons _ List.Sublist.slnil)
  clear Fa Fb Fc
  replace Fd := Fd.step p183; replace ch37 := ch37.trans p183; clear p183 hs33
  refine Wm1 ?_
  refine Rk1 rfl (ol1 (v := (Value.slice Ad out_1.length Cd)) rfl ?_)
  refine Rk1 rfl (on1 (v := (Value.slice Ad out_1.length Cd)) rfl ?_)
  refine Rq1 ?_
  refine Wa2 ?_
  have hz := step_all hs182
  replace Fd := Fd.step hz
  refine ⟨_, (show Closes [] _ _ from rfl), [(Value.slice Ad out_1.length Cd)], ⟨rfl, trivial⟩, hs182.ext, ?_⟩
  exact Vr.eq (a := (vCN (rInt .i64))) (x := (out_1, out_1n)) (mkCN Fd hn_out_1) (Option.some.inj hm)
theorem c42_overflightref38_best {w : World} {O : List Nat} {r_ : XRound} {slots : List Int} {Aa : Option Addr} {Ca : Nat} {Ab : Option Addr} {Cb : Nat} {Ac : Option Addr} {Cc : Nat} (hO : ∀ k ∈ O, k < w.heap.size) (Ra : InK .i64 r_.slots) (Fa : SlR (rInt .i64) w O Aa Ca r_.owners) (Fb : SlR (rSl (rInt .i64)) w O Ab Cb r_.costs) (Fc : SlR (rInt .i64) w O Ac Cc slots) (hnn_slots : Ac.isNone = false) {x : List Int × Bool} (hm : m42_overflightref38_best r_ slots = some x) :
 Ok Try.prog 42 [(Value.agg [(Value.int .i64 r_.slots), (Value.slice Aa r_.owners.length Ca), (Value.slice Ab r_.costs.length Cb)].toArray), (Value.slice Ac slots.length Cc)] w O (vCN (rInt .i64)) x  := c42_overflightref38_best_N 1000000 hO Ra Fa Fb Fc hnn_slots hm

def m19_overflightref38_Best (r_ : XRound) : Option ((List Int) × Int) :=
 (m41_overflightref37_Check r_).bind fun check_1 =>
 bif (decide (check_1 ≠ 0)) then
  some (([] : List Int), check_1)
 else
  (m42_overflightref38_best r_ ([] : List Int)).bind fun best_1 =>
  bif best_1.2 then
   some (([] : List Int), 380)
  else
   some (best_1.1, 0)

theorem c19_overflightref38_Best {w : World} {O : List Nat} {r_ : XRound} {Aa : Option Addr} {Ca : Nat} {Ab : Option Addr} {Cb : Nat} (hO : ∀ k ∈ O, k < w.heap.size) (Ra : InK .i64 r_.slots) (Fa : SlR (rInt .i64) w O Aa Ca r_.owners) (Fb : SlR (rSl (rInt .i64)) w O Ab Cb r_.costs) {x : (List Int) × Int} (hm : m19_overflightref38_Best r_ = some x) :
 Ok Try.prog 19 [(Value.agg [(Value.int .i64 r_.slots), (Value.slice Aa r_.owners.length Ca), (Value.slice Ab r_.costs.length Cb)].toArray)] w O (vT2 (vC (rSl (rInt .i64))) (vI .i64)) x := by
 unfold m19_overflightref38_Best at hm
 refine Fn_of_Wp (n := 17) (xs := [.tmp 2, .tmp 3]) Try.func19 rfl Try.ntmps19 Try.results19 rfl ?_
 have hs := St.start hO
 refine Wp1 (Wm1 ?_)
 refine Rk1 rfl (op_box (cs := [(Value.int .i64 r_.slots), (Value.slice Aa r_.owners.length Ca), (Value.slice Ab r_.costs.length Cb)]) hs rfl rfl ?_)
 intro b1 w2 _ p3 hs4
 replace Fa := Fa.step p3; replace Fb := Fb.step p3; clear p3
 refine Rk1 rfl (on1 (v := (Value.slice none 0 0)) rfl ?_)
 refine Rk1 rfl (on1 (v := (Value.int .i64 0)) rfl ?_)
 refine Rq1 (Wp1 (Wm1 ?_))
 refine Rk1 rfl (op_loadA (cs := [(Value.int .i64 r_.slots), (Value.slice Aa r_.owners.length Ca), (Value.slice Ab r_.costs.length Cb)]) (vs := [(Value.int .i64 r_.slots), (Value.slice Aa r_.owners.length Ca), (Value.slice Ab r_.costs.length Cb)]) (i := 0) ty25 hs4 rfl rfl rfl rfl ?_)
 replace hm := bd hm; obtain ⟨check_1, hv6, hm⟩ := hm
 refine Rk1 rfl (ob2 Try.call41 (c41_overflightref37_Check (r_ := r_) hs4.ltw Ra Fa Fb hv6) rfl ?_)
 rintro v7 w8 ⟨hx9, h10⟩
 have hs11 := hs4.call hx9
 have p12 := Step.ext (O := ks [(some b1, Obj.cells [(Value.int .i64 r_.slots), (Value.slice Aa r_.owners.length Ca), (Value.slice Ab r_.costs.length Cb)].toArray 25)] O) hx9
 clear hx9
 replace Fa := Fa.step p12; replace Fb := Fb.step p12; clear p12 hs4
 obtain ⟨rfl, Rb⟩ := h10
 refine Rk1 rfl (on1 (v := (Value.int .i64 check_1)) rfl ?_)
 refine Rq1 (Wp1 (Wp1 (Wm1 ?_)))
 refine Rk1 rfl (ol1 (v := (Value.int .i64 check_1)) rfl ?_)
 refine Rk1 rfl (op_neq rfl rfl ?_)
 refine Rq1 ?_
 refine Wy1 rfl (fun hc14 => ?_) (fun hc14 => ?_)
 replace hm := bif_t hm hc14
 refine Wp1 ?_
 obtain ⟨hs15, p16⟩ := hs11.sub (bs' := []) (.cons _ List.Sublist.slnil)
 clear Fa Fb
 clear p16 hs11
 refine Wm1 ?_
 refine Rk1 rfl (ol1 (v := (Value.int .i64 check_1)) rfl ?_)
 refine Rk1 rfl (on1 (v := (Value.slice none 0 0)) rfl ?_)
 refine Rk1 rfl (on1 (v := (Value.int .i64 check_1)) rfl ?_)
 refine Rq1 ?_
 refine Wa2 ?_
 have hz := step_all hs15
 refine ⟨_, (show Closes [] _ _ from rfl), [(Value.slice none 0 0), (Value.int .i64 check_1)], ⟨rfl, rfl, trivial⟩, hs15.ext, ?_⟩
 exact Vr.eq (a := (vT2 (vC (rSl (rInt .i64))) (vI .i64))) (x := (([] : List Int), check_1)) (mkT2 (mkC (mk_sl SlR.nil_)) ⟨rfl, Rb⟩) (Option.some.inj hm)
 replace hm := bif_f hm hc14
 refine Wx1 (Wp1 (Wm1 ?_))
 refine Rk1 rfl (op_loadA (cs := [(Value.int .i64 r_.slots), (Value.slice Aa r_.owners.length Ca), (Value.slice Ab r_.costs.length Cb)]) (vs := [(Value.int .i64 r_.slots), (Value.slice Aa r_.owners.length Ca), (Value.slice Ab r_.costs.length Cb)]) (i := 0) ty25 hs11 rfl rfl rfl rfl ?_)
 refine Rk1 rfl (og2 (cs := []) (parts := []) ty22 ty3 hs11 (by decide) rfl ?_)
 intro b17 w18 hx21 p19 hs20
 replace Fa := Fa.step p19; replace Fb := Fb.step p19; clear p19 hs11
 obtain ⟨hs24, p25, f23⟩ := St.publish (i := 0) (o := 0) (c := 0) (xs := []) hs20 rfl (show Els (rInt .i64) _ _ [] [] from Els.nil) (le_lit rfl) (le_lit rfl) (le_lit rfl)
 replace Fa := Fa.step p25; replace Fb := Fb.step p25; clear p25 hs20
 replace hm := bd hm; obtain ⟨best_1, hv26, hm⟩ := hm
 refine Rk1 rfl (ob2 Try.call42 (c42_overflightref38_best (r_ := r_) (slots := ([] : List Int)) hs24.ltw Ra Fa Fb f23 rfl hv26) rfl ?_)
 rintro v27 w28 ⟨hx29, h30⟩
 have hs31 := hs24.call hx29
 have p32 := Step.ext (O := ks [(some b1, Obj.cells [(Value.int .i64 r_.slots), (Value.slice Aa r_.owners.length Ca), (Value.slice Ab r_.costs.length Cb)].toArray 25)] O) hx29
 clear hx29
 replace Fa := Fa.step p32; replace Fb := Fb.step p32; replace f23 := f23.step p32; clear p32 hs24
 obtain ⟨a33, c34, rfl, f35, hn36⟩ := h30
 refine Rk1 rfl (on1 (v := (Value.slice a33 best_1.1.length c34)) rfl ?_)
 refine Rq1 (Wp1 (Wp1 ?_))
 obtain ⟨hs37, p38⟩ := hs31.sub (bs' := []) (.cons _ List.Sublist.slnil)
 clear Fa Fb f23
 replace f35 := f35.step p38; clear p38 hs31
 refine Wm1 ?_
 refine Rk1 rfl (ol1 (v := (Value.slice a33 best_1.1.length c34)) rfl ?_)
 refine Rk1 rfl (op_eqnilB Try.underlying22 rfl rfl hn36 ?_)
 refine Rq1 ?_
 refine Wy1 rfl (fun hc39 => ?_) (fun hc39 => ?_)
 replace hm := bif_t hm hc39
 refine Wp1 ?_
 clear f35
 refine Wm1 ?_
 refine Rk1 rfl (on1 (v := (Value.slice none 0 0)) rfl ?_)
 refine Rk1 rfl (on1 (v := (Value.int .i64 380)) rfl ?_)
 refine Rq1 ?_
 refine Wa2 ?_
 have hz := step_all hs37
 refine ⟨_, (show Closes [] _ _ from rfl), [(Value.slice none 0 0), (Value.int .i64 380)], ⟨rfl, rfl, trivial⟩, hs37.ext, ?_⟩
 exact Vr.eq (a := (vT2 (vC (rSl (rInt .i64))) (vI .i64))) (x := (([] : List Int), 380)) (mkT2 (mkC (mk_sl SlR.nil_)) ⟨rfl, (show InK .i64 380 from by decide)⟩) (Option.some.inj hm)
 replace hm := bif_f hm hc39
 refine Wx1 (Wp1 (Wm1 ?_))
 refine Rk1 rfl (ol1 (v := (Value.slice a33 best_1.1.length c34)) rfl ?_)
 refine Rk1 rfl (on1 (v := (Value.slice a33 best_1.1.length c34)) rfl ?_)
 refine Rk1 rfl (on1 (v := (Value.int .i64 0)) rfl ?_)
 refine Rq1 ?_
 refine Wa2 ?_
 have hz := step_all hs37
 replace f35 := f35.step hz
 refine ⟨_, (show Closes [] _ _ from rfl), [(Value.slice a33 best_1.1.length c34), (Value.int .i64 0)], ⟨rfl, rfl, trivial⟩, hs37.ext, ?_⟩
 exact Vr.eq (a := (vT2 (vC (rSl (rInt .i64))) (vI .i64))) (x := (best_1.1, 0)) (mkT2 (mkC (mk_sl f35)) ⟨rfl, (show InK .i64 0 from by decide)⟩) (Option.some.inj hm)

def m21_overflightref38_Verify (r_ : XRound) (slots : List Int) : Option Int :=
 (m44_overflightref37_Stable r_ slots).bind fun stable_1 =>
 bif (decide (stable_1.2 ≠ 0)) then
  some stable_1.2
 else
  bif (!stable_1.1) then
   some 380
  else
   (m19_overflightref38_Best r_).bind fun best_1 =>
   (m16_overflightref37_SameInts best_1.1 slots).bind fun sameints_1 =>
   bif (!sameints_1) then
    some 380
   else
    some 0

theorem c21_overflightref38_Verify {w : World} {O : List Nat} {r_ : XRound} {slots : List Int} {Aa : Option Addr} {Ca : Nat} {Ab : Option Addr} {Cb : Nat} {Ac : Option Addr} {Cc : Nat} (hO : ∀ k ∈ O, k < w.heap.size) (Ra : InK .i64 r_.slots) (Fa : SlR (rInt .i64) w O Aa Ca r_.owners) (Fb : SlR (rSl (rInt .i64)) w O Ab Cb r_.costs) (Fc : SlR (rInt .i64) w O Ac Cc slots) {x : Int} (hm : m21_overflightref38_Verify r_ slots = some x) :
 Ok Try.prog 21 [(Value.agg [(Value.int .i64 r_.slots), (Value.slice Aa r_.owners.length Ca), (Value.slice Ab r_.costs.length Cb)].toArray), (Value.slice Ac slots.length Cc)] w O (vI .i64) x := by
 unfold m21_overflightref38_Verify at hm
 refine Fn_of_Wp (n := 29) (xs := [.tmp 4]) Try.func21 rfl Try.ntmps21 Try.results21 rfl ?_
 have hs := St.start hO
 refine Wp1 (Wm1 ?_)
 refine Rk1 rfl (op_box (cs := [(Value.int .i64 r_.slots), (Value.slice Aa r_.owners.length Ca), (Value.slice Ab r_.costs.length Cb)]) hs rfl rfl ?_)
 intro b1 w2 _ p3 hs4
 replace Fa := Fa.step p3; replace Fb := Fb.step p3; replace Fc := Fc.step p3; clear p3
 refine Rk1 rfl (on1 (v := (Value.int .i64 0)) rfl ?_)
 refine Rq1 (Wp1 (Wm1 ?_))
 refine Rk1 rfl (op_loadA (cs := [(Value.int .i64 r_.slots), (Value.slice Aa r_.owners.length Ca), (Value.slice Ab r_.costs.length Cb)]) (vs := [(Value.int .i64 r_.slots), (Value.slice Aa r_.owners.length Ca), (Value.slice Ab r_.costs.length Cb)]) (i := 0) ty25 hs4 rfl rfl rfl rfl ?_)
 refine Rk1 rfl (ol1 (v := (Value.slice Ac slots.length Cc)) rfl ?_)
 replace hm := bd hm; obtain ⟨stable_1, hv6, hm⟩ := hm
 refine Rk1 rfl (ob2 Try.call44 (c44_overflightref37_Stable (r_ := r_) (slots := slots) hs4.ltw Ra Fa Fb Fc hv6) rfl ?_)
 rintro v7 w8 ⟨hx9, h10⟩
 have hs11 := hs4.call hx9
 have p12 := Step.ext (O := ks [(some b1, Obj.cells [(Value.int .i64 r_.slots), (Value.slice Aa r_.owners.length Ca), (Value.slice Ab r_.costs.length Cb)].toArray 25)] O) hx9
 clear hx9
 replace Fa := Fa.step p12; replace Fb := Fb.step p12; replace Fc := Fc.step p12; clear p12 hs4
 obtain ⟨v13, v14, rfl, h15, h16⟩ := h10
 obtain rfl := h15
 obtain ⟨rfl, Rb⟩ := h16
 refine Rk1 rfl (ol1 (v := (Value.tuple [(Value.bool stable_1.1), (Value.int .i64 stable_1.2)].toArray)) rfl ?_)
 refine Rk1 rfl (oh2 (v := (Value.bool stable_1.1)) rfl rfl ?_)
 refine Rk1 rfl (oh2 (v := (Value.int .i64 stable_1.2)) rfl rfl ?_)
 refine Rk1 rfl (on1 (v := (Value.bool stable_1.1)) rfl ?_)
 refine Rk1 rfl (on1 (v := (Value.int .i64 stable_1.2)) rfl ?_)
 refine Rq1 (Wp1 (Wp1 (Wm1 ?_)))
 refine Rk1 rfl (ol1 (v := (Value.int .i64 stable_1.2)) rfl ?_)
 refine Rk1 rfl (op_neq rfl rfl ?_)
 refine Rq1 ?_
 refine Wy1 rfl (fun hc19 => ?_) (fun hc19 => ?_)
 replace hm := bif_t hm hc19
 refine Wp1 ?_
 obtain ⟨hs20, p21⟩ := hs11.sub (bs' := []) (.cons _ List.Sublist.slnil)
 clear Fa Fb Fc
 clear p21 hs11
 refine Wm1 ?_
 refine Rk1 rfl (ol1 (v := (Value.int .i64 stable_1.2)) rfl ?_)
 refine Rk1 rfl (on1 (v := (Value.int .i64 stable_1.2)) rfl ?_)
 refine Rq1 ?_
 refine Wa2 ?_
 have hz := step_all hs20
 refine ⟨_, (show Closes [] _ _ from rfl), [(Value.int .i64 stable_1.2)], ⟨rfl, trivial⟩, hs20.ext, ?_⟩
 exact Vr.eq (a := (vI .i64)) (x := stable_1.2) ⟨rfl, Rb⟩ (Option.some.inj hm)
 replace hm := bif_f hm hc19
 refine Wx1 (Wp1 (Wp1 (Wm1 ?_)))
 refine Rk1 rfl (ol1 (v := (Value.bool stable_1.1)) rfl ?_)
 refine Rk1 rfl (op_not rfl ?_)
 refine Rq1 ?_
 refine Wy1 rfl (fun hc22 => ?_) (fun hc22 => ?_)
 replace hm := bif_t hm hc22
 refine Wp1 ?_
 obtain ⟨hs23, p24⟩ := hs11.sub (bs' := []) (.cons _ List.Sublist.slnil)
 clear Fa Fb Fc
 clear p24 hs11
 refine Wm1 ?_
 refine Rk1 rfl (on1 (v := (Value.int .i64 380)) rfl ?_)
 refine Rq1 ?_
 refine Wa2 ?_
 have hz := step_all hs23
 refine ⟨_, (show Closes [] _ _ from rfl), [(Value.int .i64 380)], ⟨rfl, trivial⟩, hs23.ext, ?_⟩
 exact Vr.eq (a := (vI .i64)) (x := 380) ⟨rfl, (show InK .i64 380 from by decide)⟩ (Option.some.inj hm)
 replace hm := bif_f hm hc22
 refine Wx1 (Wp1 (Wm1 ?_))
 refine Rk1 rfl (op_loadA (cs := [(Value.int .i64 r_.slots), (Value.slice Aa r_.owners.length Ca), (Value.slice Ab r_.costs.length Cb)]) (vs := [(Value.int .i64 r_.slots), (Value.slice Aa r_.owners.length Ca), (Value.slice Ab r_.costs.length Cb)]) (i := 0) ty25 hs11 rfl rfl rfl rfl ?_)
 replace hm := bd hm; obtain ⟨best_1, hv25, hm⟩ := hm
 refine Rk1 rfl (ob2 Try.call19 (c19_overflightref38_Best (r_ := r_) hs11.ltw Ra Fa Fb hv25) rfl ?_)
 rintro v26 w27 ⟨hx28, h29⟩
 have hs30 := hs11.call hx28
 have p31 := Step.ext (O := ks [(some b1, Obj.cells [(Value.int .i64 r_.slots), (Value.slice Aa r_.owners.length Ca), (Value.slice Ab r_.costs.length Cb)].toArray 25)] O) hx28
 clear hx28
 replace Fa := Fa.step p31; replace Fb := Fb.step p31; replace Fc := Fc.step p31; clear p31 hs11
 obtain ⟨v32, v33, rfl, h34, h35⟩ := h29
 obtain ⟨Ad, Cd, rfl, Fd⟩ := un_sl h34
 obtain ⟨rfl, Rc⟩ := h35
 refine Rk1 rfl (ol1 (v := (Value.tuple [(Value.slice Ad best_1.1.length Cd), (Value.int .i64 best_1.2)].toArray)) rfl ?_)
 refine Rk1 rfl (oh2 (v := (Value.slice Ad best_1.1.length Cd)) rfl rfl ?_)
 refine Rk1 rfl (oh2 (v := (Value.int .i64 best_1.2)) rfl rfl ?_)
 refine Rk1 rfl (on1 (v := (Value.slice Ad best_1.1.length Cd)) rfl ?_)
 refine Rk1 rfl (on1 (v := (Value.int .i64 best_1.2)) rfl ?_)
 refine Rq1 (Wp1 (Wp1 ?_))
 obtain ⟨hs38, p39⟩ := hs30.sub (bs' := []) (.cons _ List.Sublist.slnil)
 clear Fa Fb
 replace Fc := Fc.step p39; replace Fd := Fd.step p39; clear p39 hs30
 refine Wm1 ?_
 refine Rk1 rfl (ol1 (v := (Value.slice Ad best_1.1.length Cd)) rfl ?_)
 refine Rk1 rfl (ol1 (v := (Value.slice Ac slots.length Cc)) rfl ?_)
 replace hm := bd hm; obtain ⟨sameints_1, hv40, hm⟩ := hm
 refine Rk1 rfl (ob2 Try.call16 (c16_overflightref37_SameInts (a := best_1.1) (b := slots) hs38.ltw Fd Fc hv40) rfl ?_)
 rintro v41 w42 ⟨hx43, h44⟩
 have hs45 := hs38.call hx43
 have p46 := Step.ext (O := ks [] O) hx43
 clear hx43
 replace Fc := Fc.step p46; replace Fd := Fd.step p46; clear p46 hs38
 obtain rfl := h44
 refine Rk1 rfl (op_not rfl ?_)
 refine Rq1 ?_
 refine Wy1 rfl (fun hc48 => ?_) (fun hc48 => ?_)
 replace hm := bif_t hm hc48
 refine Wp1 ?_
 clear Fc Fd
 refine Wp_reset [] [] rfl trivial fun ξ49 => ?_
 refine Wm1 ?_
 refine Rk1 rfl (on1 (v := (Value.int .i64 380)) rfl ?_)
 refine Rq1 ?_
 refine Wa2 ?_
 have hz := step_all hs45
 refine ⟨_, (show Closes [] _ _ from rfl), [(Value.int .i64 380)], ⟨rfl, trivial⟩, hs45.ext, ?_⟩
 exact Vr.eq (a := (vI .i64)) (x := 380) ⟨rfl, (show InK .i64 380 from by decide)⟩ (Option.some.inj hm)
 replace hm := bif_f hm hc48
 refine Wx1 (Wp1 ?_)
 clear Fc Fd
 refine Wp_reset [] [] rfl trivial fun ξ50 => ?_
 refine Wm1 ?_
 refine Rk1 rfl (on1 (v := (Value.int .i64 0)) rfl ?_)
 refine Rq1 ?_
 refine Wa2 ?_
 have hz := step_all hs45
 refine ⟨_, (show Closes [] _ _ from rfl), [(Value.int .i64 0)], ⟨rfl, trivial⟩, hs45.ext, ?_⟩
 exact Vr.eq (a := (vI .i64)) (x := 0) ⟨rfl, (show InK .i64 0 from by decide)⟩ (Option.some.inj hm)

def m4_overflightlaw38_ClearingBestSpec (r_ : XRound) (slots : List Int) : Option Bool :=
 (m10_overflightlaw38_sane).bind fun sane_1 =>
 bif (!sane_1) then
  some false
 else
  jn (fun (v_1 : Bool) =>
   bif v_1 then
    some true
   else
    (m18_clearing_Best r_).bind fun best_1 =>
    (m19_overflightref38_Best r_).bind fun best_2 =>
    jn (fun (v_2 : Bool) =>
     some v_2)
    (fun k58 =>
     (m16_overflightref37_SameInts best_1.1 best_2.1).bind fun sameints_1 =>
     bif sameints_1 then
      bif (decide (best_1.2 = best_2.2)) then
       (m20_clearing_Verify r_ slots).bind fun verify_1 =>
       (m21_overflightref38_Verify r_ slots).bind fun verify_2 =>
       bif (decide (verify_1 = verify_2)) then
        (m20_clearing_Verify r_ best_2.1).bind fun verify_3 =>
        (m21_overflightref38_Verify r_ best_2.1).bind fun verify_4 =>
        k58 (decide (verify_3 = verify_4))
       else
        k58 false
      else
       k58 false
     else
      k58 false))
  (fun k19 =>
   (m11_overflightref38_Few r_).bind fun few_1 =>
   bif (!few_1) then
    k19 true
   else
    k19 (decide (20 < (slots.length : Int))))

theorem c4_overflightlaw38_ClearingBestSpec {w : World} {O : List Nat} {r_ : XRound} {slots : List Int} {Aa : Option Addr} {Ca : Nat} {Ab : Option Addr} {Cb : Nat} {Ac : Option Addr} {Cc : Nat} (hO : ∀ k ∈ O, k < w.heap.size) (Ra : InK .i64 r_.slots) (Fa : SlR (rInt .i64) w O Aa Ca r_.owners) (Fb : SlR (rSl (rInt .i64)) w O Ab Cb r_.costs) (Fc : SlR (rInt .i64) w O Ac Cc slots) {x : Bool} (hm : m4_overflightlaw38_ClearingBestSpec r_ slots = some x) :
 Ok Try.prog 4 [(Value.agg [(Value.int .i64 r_.slots), (Value.slice Aa r_.owners.length Ca), (Value.slice Ab r_.costs.length Cb)].toArray), (Value.slice Ac slots.length Cc)] w O vB x := by
 unfold m4_overflightlaw38_ClearingBestSpec at hm
 refine Fn_of_Wp (n := 55) (xs := [.tmp 4]) Try.func4 rfl Try.ntmps4 Try.results4 rfl ?_
 have hs := St.start hO
 refine Wp1 (Wm1 ?_)
 refine Rk1 rfl (op_box (cs := [(Value.int .i64 r_.slots), (Value.slice Aa r_.owners.length Ca), (Value.slice Ab r_.costs.length Cb)]) hs rfl rfl ?_)
 intro b1 w2 _ p3 hs4
 replace Fa := Fa.step p3; replace Fb := Fb.step p3; replace Fc := Fc.step p3; clear p3
 refine Rk1 rfl (on1 (v := (Value.bool false)) rfl ?_)
 refine Rq1 (Wp1 (Wp1 (Wm1 ?_)))
 replace hm := bd hm; obtain ⟨sane_1, hv6, hm⟩ := hm
 refine Rk1 rfl (ob2 Try.call10 (c10_overflightlaw38_sane  hs4.ltw  hv6) rfl ?_)
 rintro v7 w8 ⟨hx9, h10⟩
 have hs11 := hs4.call hx9
 have p12 := Step.ext (O := ks [(some b1, Obj.cells [(Value.int .i64 r_.slots), (Value.slice Aa r_.owners.length Ca), (Value.slice Ab r_.costs.length Cb)].toArray 25)] O) hx9
 clear hx9
 replace Fa := Fa.step p12; replace Fb := Fb.step p12; replace Fc := Fc.step p12; clear p12 hs4
 obtain rfl := h10
 refine Rk1 rfl (op_not rfl ?_)
 refine Rq1 ?_
 refine Wy1 rfl (fun hc14 => ?_) (fun hc14 => ?_)
 replace hm := bif_t hm hc14
 refine Wp1 ?_
 obtain ⟨hs15, p16⟩ := hs11.sub (bs' := []) (.cons _ List.Sublist.slnil)
 clear Fa Fb Fc
 clear p16 hs11
 refine Wm1 ?_
 refine Rk1 rfl (on1 (v := (Value.bool false)) rfl ?_)
 refine Rq1 ?_
 refine Wa2 ?_
 have hz := step_all hs15
 refine ⟨_, (show Closes [] _ _ from rfl), [(Value.bool false)], ⟨rfl, trivial⟩, hs15.ext, ?_⟩
 exact Vr.eq (a := vB) (x := false) rfl (Option.some.inj hm)
 replace hm := bif_f hm hc14
 refine Wx1 (Wp1 ?_)
 refine Wp_reset [] [(1, (Value.slice Ac slots.length Cc)), (2, (Value.pointer (some ⟨b1, 0, none⟩)))] rfl ⟨rfl, rfl, trivial⟩ fun ξ17 => ?_
 replace hm := jn_elim hm; obtain ⟨k19, hk20, hm⟩ := hm
 refine Wp_seqJ [11, 12, 13, 14, 15, 16, 17, 18] (fun fr w' => ∃ (v_1 : Bool) (Ebs : Ents), Ebs = [(some b1, Obj.cells [(Value.int .i64 r_.slots), (Value.slice Aa r_.owners.length Ca), (Value.slice Ab r_.costs.length Cb)].toArray 25)] ∧ fr [] [(18, (Value.bool v_1))] ∧ Step (ks [(some b1, Obj.cells [(Value.int .i64 r_.slots), (Value.slice Aa r_.owners.length Ca), (Value.slice Ab r_.costs.length Cb)].toArray 25)] O) w8 (ks Ebs O) w' ∧ St ⟨w, [], []⟩ O w' Ebs ∧ k19 v_1 = some x) ?_ ?_
 rintro ρ26 w22 ⟨v_1, Ebs, hEbs, hfr25, hst24, hs23, hm⟩
 replace hm := jnE1 hk20 hm
 subst hEbs; rw [hfr25.eq]; clear hfr25
 replace Fa := Fa.step hst24; replace Fb := Fb.step hst24; replace Fc := Fc.step hst24; clear hst24 hs11
 refine Wy1 rfl (fun hc27 => ?_) (fun hc27 => ?_)
 replace hm := bif_t hm hc27
 refine Wp1 ?_
 obtain ⟨hs28, p29⟩ := hs23.sub (bs' := []) (.cons _ List.Sublist.slnil)
 clear Fa Fb Fc
 clear p29 hs23
 refine Wm1 ?_
 refine Rk1 rfl (on1 (v := (Value.bool true)) rfl ?_)
 refine Rq1 ?_
 refine Wa2 ?_
 have hz := step_all hs28
 refine ⟨_, (show Closes [] _ _ from rfl), [(Value.bool true)], ⟨rfl, trivial⟩, hs28.ext, ?_⟩
 exact Vr.eq (a := vB) (x := true) rfl (Option.some.inj hm)
 replace hm := bif_f hm hc27
 refine Wx1 (Wp1 (Wm1 ?_))
 refine Rk1 rfl (op_loadA (cs := [(Value.int .i64 r_.slots), (Value.slice Aa r_.owners.length Ca), (Value.slice Ab r_.costs.length Cb)]) (vs := [(Value.int .i64 r_.slots), (Value.slice Aa r_.owners.length Ca), (Value.slice Ab r_.costs.length Cb)]) (i := 0) ty25 hs23 rfl rfl rfl rfl ?_)
 replace hm := bd hm; obtain ⟨best_1, hv30, hm⟩ := hm
 refine Rk1 rfl (ob2 Try.call18 (c18_clearing_Best (r_ := r_) hs23.ltw Ra Fa Fb hv30) rfl ?_)
 rintro v31 w32 ⟨hx33, h34⟩
 have hs35 := hs23.call hx33
 have p36 := Step.ext (O := ks [(some b1, Obj.cells [(Value.int .i64 r_.slots), (Value.slice Aa r_.owners.length Ca), (Value.slice Ab r_.costs.length Cb)].toArray 25)] O) hx33
 clear hx33
 replace Fa := Fa.step p36; replace Fb := Fb.step p36; replace Fc := Fc.step p36; clear p36 hs23
 obtain ⟨v37, v38, rfl, h39, h40⟩ := h34
 obtain ⟨Ad, Cd, rfl, Fd⟩ := un_sl h39
 obtain ⟨rfl, Rb⟩ := h40
 refine Rk1 rfl (ol1 (v := (Value.tuple [(Value.slice Ad best_1.1.length Cd), (Value.int .i64 best_1.2)].toArray)) rfl ?_)
 refine Rk1 rfl (oh2 (v := (Value.slice Ad best_1.1.length Cd)) rfl rfl ?_)
 refine Rk1 rfl (oh2 (v := (Value.int .i64 best_1.2)) rfl rfl ?_)
 refine Rk1 rfl (on1 (v := (Value.slice Ad best_1.1.length Cd)) rfl ?_)
 refine Rk1 rfl (on1 (v := (Value.int .i64 best_1.2)) rfl ?_)
 refine Rq1 (Wp1 (Wm1 ?_))
 refine Rk1 rfl (op_loadA (cs := [(Value.int .i64 r_.slots), (Value.slice Aa r_.owners.length Ca), (Value.slice Ab r_.costs.length Cb)]) (vs := [(Value.int .i64 r_.slots), (Value.slice Aa r_.owners.length Ca), (Value.slice Ab r_.costs.length Cb)]) (i := 0) ty25 hs35 rfl rfl rfl rfl ?_)
 replace hm := bd hm; obtain ⟨best_2, hv43, hm⟩ := hm
 refine Rk1 rfl (ob2 Try.call19 (c19_overflightref38_Best (r_ := r_) hs35.ltw Ra Fa Fb hv43) rfl ?_)
 rintro v44 w45 ⟨hx46, h47⟩
 have hs48 := hs35.call hx46
 have p49 := Step.ext (O := ks [(some b1, Obj.cells [(Value.int .i64 r_.slots), (Value.slice Aa r_.owners.length Ca), (Value.slice Ab r_.costs.length Cb)].toArray 25)] O) hx46
 clear hx46
 replace Fa := Fa.step p49; replace Fb := Fb.step p49; replace Fc := Fc.step p49; replace Fd := Fd.step p49; clear p49 hs35
 obtain ⟨v50, v51, rfl, h52, h53⟩ := h47
 obtain ⟨Ae, Ce, rfl, Fe⟩ := un_sl h52
 obtain ⟨rfl, Rc⟩ := h53
 refine Rk1 rfl (ol1 (v := (Value.tuple [(Value.slice Ae best_2.1.length Ce), (Value.int .i64 best_2.2)].toArray)) rfl ?_)
 refine Rk1 rfl (oh2 (v := (Value.slice Ae best_2.1.length Ce)) rfl rfl ?_)
 refine Rk1 rfl (oh2 (v := (Value.int .i64 best_2.2)) rfl rfl ?_)
 refine Rk1 rfl (on1 (v := (Value.slice Ae best_2.1.length Ce)) rfl ?_)
 refine Rk1 rfl (on1 (v := (Value.int .i64 best_2.2)) rfl ?_)
 refine Rq1 ?_
 refine Wp_reset [] [(1, (Value.slice Ac slots.length Cc)), (2, (Value.pointer (some ⟨b1, 0, none⟩))), (5, (Value.slice Ad best_1.1.length Cd)), (6, (Value.int .i64 best_1.2)), (7, (Value.slice Ae best_2.1.length Ce)), (8, (Value.int .i64 best_2.2))] rfl ⟨rfl, rfl, rfl, rfl, rfl, rfl, trivial⟩ fun ξ56 => ?_
 replace hm := jn_elim hm; obtain ⟨k58, hk59, hm⟩ := hm
 refine Wp_seqJ [4, 29, 30, 31, 32, 33, 34, 35, 36, 37, 38, 39, 40, 41, 42, 43, 44, 45, 46, 47, 48, 49, 50, 51, 52, 53, 54] (fun fr w' => ∃ (v_2 : Bool) (Ebs : Ents), Ebs = [(some b1, Obj.cells [(Value.int .i64 r_.slots), (Value.slice Aa r_.owners.length Ca), (Value.slice Ab r_.costs.length Cb)].toArray 25)] ∧ fr [] [(4, (Value.bool v_2))] ∧ Step (ks [(some b1, Obj.cells [(Value.int .i64 r_.slots), (Value.slice Aa r_.owners.length Ca), (Value.slice Ab r_.costs.length Cb)].toArray 25)] O) w45 (ks Ebs O) w' ∧ St ⟨w, [], []⟩ O w' Ebs ∧ k58 v_2 = some x) ?_ ?_
 rintro ρ65 w61 ⟨v_2, Ebs, hEbs, hfr64, hst63, hs62, hm⟩
 replace hm := jnE1 hk59 hm
 subst hEbs; rw [hfr64.eq]; clear hfr64
 replace Fa := Fa.step hst63; replace Fb := Fb.step hst63; replace Fc := Fc.step hst63; replace Fd := Fd.step hst63; replace Fe := Fe.step hst63; clear hst63 hs48
 refine Wa2 ?_
 have hz := step_all hs62
 replace Fa := Fa.step hz; replace Fb := Fb.step hz; replace Fc := Fc.step hz; replace Fd := Fd.step hz; replace Fe := Fe.step hz
 refine ⟨_, (show Closes [] _ _ from rfl), [(Value.bool v_2)], ⟨rfl, trivial⟩, hs62.ext, ?_⟩
 exact Vr.eq (a := vB) (x := v_2) rfl (Option.some.inj hm)
 intro K60 hK60
 have ch66 := Step.refl (ks [(some b1, Obj.cells [(Value.int .i64 r_.slots), (Value.slice Aa r_.owners.length Ca), (Value.slice Ab r_.costs.length Cb)].toArray 25)] O) w45
 refine Wp_drawR (g0 := []) (m := 23) (fl := []) (TS_inv hs48) rfl (.inl rfl) rfl (by decide +kernel) ?_  -- 7
 refine Du1 (Value.slice Ad best_1.1.length Cd) (fun ρ67 w68 g hle hi ht => ?_) ?_
 obtain ⟨-, hst, -⟩ := hle
 refine So1 (ol1 (v := (Value.slice Ad best_1.1.length Cd)) (ht 5 rfl) ?_)
 exact Goes.same hi rfl
 refine Du1 (Value.slice Ae best_2.1.length Ce) (fun ρ70 w71 g hle hi ht => ?_) ?_
 obtain ⟨-, hst, -⟩ := hle
 refine So1 (ol1 (v := (Value.slice Ae best_2.1.length Ce)) (ht 7 rfl) ?_)
 exact Goes.same hi rfl
 replace hm := bd hm; obtain ⟨sameints_1, hv76, hm⟩ := hm
 refine Dw_op (VD O [(some b1, Obj.cells [(Value.int .i64 r_.slots), (Value.slice Aa r_.owners.length Ca), (Value.slice Ab r_.costs.length Cb)].toArray 25)] vB sameints_1) (VD.stab _ _) (fun ρ73 w74 g hle hi ht => ?_) ?_
 obtain ⟨-, hst, -⟩ := hle
 replace Fd := Fd.step hst; replace Fe := Fe.step hst
 refine So1 (ob2 Try.call16 (c16_overflightref37_SameInts (O := ks (ents g ++ [(some b1, Obj.cells [(Value.int .i64 r_.slots), (Value.slice Aa r_.owners.length Ca), (Value.slice Ab r_.costs.length Cb)].toArray 25)]) O) (a := best_1.1) (b := best_2.1) hi.ltw Fd Fe hv76) (by simp only [List.map, Array.toList, (show ev _ (.tmp 29) = _ from (ht 29 rfl)), (show ev _ (.tmp 30) = _ from (ht 30 rfl))] <;> rfl) ?_)
 rintro v77 w78 ⟨hx79, h80⟩
 exact Goes.call hi hx79 h80
 refine Dw_opB sameints_1 (fun ρ82 w83 g hle hi ht => ?_) (fun hg88 => ?_) (fun hg88 => ?_)
 obtain ⟨-, hst, -⟩ := hle
 have h85 : Vr.vd vB _ _ _ _ := ht 31 rfl
 have q86 : _ = (Value.bool sameints_1) := h85
 refine So1 (ol1 (v := (Value.bool sameints_1)) q86 ?_)
 exact Goes.same hi rfl
 replace hm := bif_t hm hg88
 refine Du1 (Value.int .i64 best_1.2) (fun ρ89 w90 g hle hi ht => ?_) ?_
 obtain ⟨-, hst, -⟩ := hle
 refine Sd2 rfl (ht 32 rfl) (ol1 (v := (Value.int .i64 best_1.2)) (ht 6 rfl) ?_)
 exact Goes.same hi rfl
 refine Du1 (Value.int .i64 best_2.2) (fun ρ92 w93 g hle hi ht => ?_) ?_
 obtain ⟨-, hst, -⟩ := hle
 refine Sd2 rfl (ht 32 rfl) (ol1 (v := (Value.int .i64 best_2.2)) (ht 8 rfl) ?_)
 exact Goes.same hi rfl
 refine Du1 (Value.bool (decide (best_1.2 = best_2.2))) (fun ρ95 w96 g hle hi ht => ?_) ?_
 obtain ⟨-, hst, -⟩ := hle
 refine Sd2 rfl (ht 32 rfl) (op_eql (ht 33 rfl) (ht 34 rfl) ?_)
 exact Goes.same hi rfl
 refine Du1 (Value.bool (decide (best_1.2 = best_2.2))) (fun ρ98 w99 g hle hi ht => ?_) ?_
 obtain ⟨-, hst, -⟩ := hle
 refine So1 (oc2 (v := (Value.bool (decide (best_1.2 = best_2.2)))) (ht 32 rfl) (ht 35 rfl) ?_)
 exact Goes.same hi rfl
 refine Dw_opB (decide (best_1.2 = best_2.2)) (fun ρ101 w102 g hle hi ht => ?_) (fun hg104 => ?_) (fun hg104 => ?_)
 obtain ⟨-, hst, -⟩ := hle
 refine So1 (ol1 (v := (Value.bool (decide (best_1.2 = best_2.2)))) (ht 36 rfl) ?_)
 exact Goes.same hi rfl
 replace hm := bif_t hm hg104
 refine Du1 (Value.agg [(Value.int .i64 r_.slots), (Value.slice Aa r_.owners.length Ca), (Value.slice Ab r_.costs.length Cb)].toArray) (fun ρ105 w106 g hle hi ht => ?_) ?_
 obtain ⟨-, hst, -⟩ := hle
 have hsn := (Step.nx hi).1
 refine Sd2 rfl (ht 37 rfl) (op_loadA (cs := [(Value.int .i64 r_.slots), (Value.slice Aa r_.owners.length Ca), (Value.slice Ab r_.costs.length Cb)]) (vs := [(Value.int .i64 r_.slots), (Value.slice Aa r_.owners.length Ca), (Value.slice Ab r_.costs.length Cb)]) (i := 0) ty25 hsn (ht 2 rfl) rfl rfl rfl ?_)
 exact Goes.same hi rfl
 refine Du1 (Value.slice Ac slots.length Cc) (fun ρ108 w109 g hle hi ht => ?_) ?_
 obtain ⟨-, hst, -⟩ := hle
 refine Sd2 rfl (ht 37 rfl) (ol1 (v := (Value.slice Ac slots.length Cc)) (ht 1 rfl) ?_)
 exact Goes.same hi rfl
 replace hm := bd hm; obtain ⟨verify_1, hv114, hm⟩ := hm
 refine Dw_op (VD O [(some b1, Obj.cells [(Value.int .i64 r_.slots), (Value.slice Aa r_.owners.length Ca), (Value.slice Ab r_.costs.length Cb)].toArray 25)] (vI .i64) verify_1) (VD.stab _ _) (fun ρ111 w112 g hle hi ht => ?_) ?_
 obtain ⟨-, hst, -⟩ := hle
 replace Fa := Fa.step hst; replace Fb := Fb.step hst; replace Fc := Fc.step hst
 refine Sd2 rfl (ht 37 rfl) (ob2 Try.call20 (c20_clearing_Verify (O := ks (ents g ++ [(some b1, Obj.cells [(Value.int .i64 r_.slots), (Value.slice Aa r_.owners.length Ca), (Value.slice Ab r_.costs.length Cb)].toArray 25)]) O) (r_ := r_) (slots := slots) hi.ltw Ra Fa Fb Fc hv114) (by simp only [List.map, Array.toList, (show ev _ (.tmp 38) = _ from (ht 38 rfl)), (show ev _ (.tmp 39) = _ from (ht 39 rfl))] <;> rfl) ?_)
 rintro v115 w116 ⟨hx117, h118⟩
 exact Goes.call hi hx117 h118
 refine Du1 (Value.agg [(Value.int .i64 r_.slots), (Value.slice Aa r_.owners.length Ca), (Value.slice Ab r_.costs.length Cb)].toArray) (fun ρ120 w121 g hle hi ht => ?_) ?_
 obtain ⟨-, hst, -⟩ := hle
 have hsn := (Step.nx hi).1
 refine Sd2 rfl (ht 37 rfl) (op_loadA (cs := [(Value.int .i64 r_.slots), (Value.slice Aa r_.owners.length Ca), (Value.slice Ab r_.costs.length Cb)]) (vs := [(Value.int .i64 r_.slots), (Value.slice Aa r_.owners.length Ca), (Value.slice Ab r_.costs.length Cb)]) (i := 0) ty25 hsn (ht 2 rfl) rfl rfl rfl ?_)
 exact Goes.same hi rfl
 refine Du1 (Value.slice Ac slots.length Cc) (fun ρ123 w124 g hle hi ht => ?_) ?_
 obtain ⟨-, hst, -⟩ := hle
 refine Sd2 rfl (ht 37 rfl) (ol1 (v := (Value.slice Ac slots.length Cc)) (ht 1 rfl) ?_)
 exact Goes.same hi rfl
 replace hm := bd hm; obtain ⟨verify_2, hv129, hm⟩ := hm
 refine Dw_op (VD O [(some b1, Obj.cells [(Value.int .i64 r_.slots), (Value.slice Aa r_.owners.length Ca), (Value.slice Ab r_.costs.length Cb)].toArray 25)] (vI .i64) verify_2) (VD.stab _ _) (fun ρ126 w127 g hle hi ht => ?_) ?_
 obtain ⟨-, hst, -⟩ := hle
 replace Fa := Fa.step hst; replace Fb := Fb.step hst; replace Fc := Fc.step hst
 refine Sd2 rfl (ht 37 rfl) (ob2 Try.call21 (c21_overflightref38_Verify (O := ks (ents g ++ [(some b1, Obj.cells [(Value.int .i64 r_.slots), (Value.slice Aa r_.owners.length Ca), (Value.slice Ab r_.costs.length Cb)].toArray 25)]) O) (r_ := r_) (slots := slots) hi.ltw Ra Fa Fb Fc hv129) (by simp only [List.map, Array.toList, (show ev _ (.tmp 41) = _ from (ht 41 rfl)), (show ev _ (.tmp 42) = _ from (ht 42 rfl))] <;> rfl) ?_)
 rintro v130 w131 ⟨hx132, h133⟩
 exact Goes.call hi hx132 h133
 refine Du1 (Value.bool (decide (verify_1 = verify_2))) (fun ρ135 w136 g hle hi ht => ?_) ?_
 obtain ⟨-, hst, -⟩ := hle
 have h138 : Vr.vd (vI .i64) _ _ _ _ := ht 40 rfl
 obtain ⟨q139, Rd⟩ := h138
 have h141 : Vr.vd (vI .i64) _ _ _ _ := ht 43 rfl
 obtain ⟨q142, Re⟩ := h141
 refine Sd2 rfl (ht 37 rfl) (op_eql q139 q142 ?_)
 exact Goes.same hi rfl
 refine Du1 (Value.bool (decide (verify_1 = verify_2))) (fun ρ144 w145 g hle hi ht => ?_) ?_
 obtain ⟨-, hst, -⟩ := hle
 refine So1 (oc2 (v := (Value.bool (decide (verify_1 = verify_2)))) (ht 37 rfl) (ht 44 rfl) ?_)
 exact Goes.same hi rfl
 refine Dw_opB (decide (verify_1 = verify_2)) (fun ρ147 w148 g hle hi ht => ?_) (fun hg150 => ?_) (fun hg150 => ?_)
 obtain ⟨-, hst, -⟩ := hle
 refine So1 (ol1 (v := (Value.bool (decide (verify_1 = verify_2)))) (ht 45 rfl) ?_)
 exact Goes.same hi rfl
 replace hm := bif_t hm hg150
 refine Du1 (Value.agg [(Value.int .i64 r_.slots), (Value.slice Aa r_.owners.length Ca), (Value.slice Ab r_.costs.length Cb)].toArray) (fun ρ151 w152 g hle hi ht => ?_) ?_
 obtain ⟨-, hst, -⟩ := hle
 have hsn := (Step.nx hi).1
 refine Sd2 rfl (ht 46 rfl) (op_loadA (cs := [(Value.int .i64 r_.slots), (Value.slice Aa r_.owners.length Ca), (Value.slice Ab r_.costs.length Cb)]) (vs := [(Value.int .i64 r_.slots), (Value.slice Aa r_.owners.length Ca), (Value.slice Ab r_.costs.length Cb)]) (i := 0) ty25 hsn (ht 2 rfl) rfl rfl rfl ?_)
 exact Goes.same hi rfl
 refine Du1 (Value.slice Ae best_2.1.length Ce) (fun ρ154 w155 g hle hi ht => ?_) ?_
 obtain ⟨-, hst, -⟩ := hle
 refine Sd2 rfl (ht 46 rfl) (ol1 (v := (Value.slice Ae best_2.1.length Ce)) (ht 7 rfl) ?_)
 exact Goes.same hi rfl
 replace hm := bd hm; obtain ⟨verify_3, hv160, hm⟩ := hm
 refine Dw_op (VD O [(some b1, Obj.cells [(Value.int .i64 r_.slots), (Value.slice Aa r_.owners.length Ca), (Value.slice Ab r_.costs.length Cb)].toArray 25)] (vI .i64) verify_3) (VD.stab _ _) (fun ρ157 w158 g hle hi ht => ?_) ?_
 obtain ⟨-, hst, -⟩ := hle
 replace Fa := Fa.step hst; replace Fb := Fb.step hst; replace Fe := Fe.step hst
 refine Sd2 rfl (ht 46 rfl) (ob2 Try.call20 (c20_clearing_Verify (O := ks (ents g ++ [(some b1, Obj.cells [(Value.int .i64 r_.slots), (Value.slice Aa r_.owners.length Ca), (Value.slice Ab r_.costs.length Cb)].toArray 25)]) O) (r_ := r_) (slots := best_2.1) hi.ltw Ra Fa Fb Fe hv160) (by simp only [List.map, Array.toList, (show ev _ (.tmp 47) = _ from (ht 47 rfl)), (show ev _ (.tmp 48) = _ from (ht 48 rfl))] <;> rfl) ?_)
 rintro v161 w162 ⟨hx163, h164⟩
 exact Goes.call hi hx163 h164
 refine Du1 (Value.agg [(Value.int .i64 r_.slots), (Value.slice Aa r_.owners.length Ca), (Value.slice Ab r_.costs.length Cb)].toArray) (fun ρ166 w167 g hle hi ht => ?_) ?_
 obtain ⟨-, hst, -⟩ := hle
 have hsn := (Step.nx hi).1
 refine Sd2 rfl (ht 46 rfl) (op_loadA (cs := [(Value.int .i64 r_.slots), (Value.slice Aa r_.owners.length Ca), (Value.slice Ab r_.costs.length Cb)]) (vs := [(Value.int .i64 r_.slots), (Value.slice Aa r_.owners.length Ca), (Value.slice Ab r_.costs.length Cb)]) (i := 0) ty25 hsn (ht 2 rfl) rfl rfl rfl ?_)
 exact Goes.same hi rfl
 refine Du1 (Value.slice Ae best_2.1.length Ce) (fun ρ169 w170 g hle hi ht => ?_) ?_
 obtain ⟨-, hst, -⟩ := hle
 refine Sd2 rfl (ht 46 rfl) (ol1 (v := (Value.slice Ae best_2.1.length Ce)) (ht 7 rfl) ?_)
 exact Goes.same hi rfl
 refine Dw_nil fun w176 g177 hl178 hi179 => ?_
 obtain ⟨-, hst180, -⟩ := hl178
 obtain ⟨hs182, p181⟩ := Step.nx hi179
 rintro _ rfl
 rintro _ rfl
 rintro v183 h184
 replace h184 : Vr.vd (vI .i64) _ _ _ _ := h184
 obtain ⟨rfl, Rf⟩ := h184
 rintro _ rfl
 rintro _ rfl
 rintro _ rfl
 rintro _ rfl
 rintro _ rfl
 rintro v186 h187
 replace h187 : Vr.vd (vI .i64) _ _ _ _ := h187
 obtain ⟨rfl, Rg⟩ := h187
 rintro _ rfl
 rintro _ rfl
 rintro v189 h190
 replace h190 : Vr.vd (vI .i64) _ _ _ _ := h190
 obtain ⟨rfl, Rh⟩ := h190
 rintro _ rfl
 rintro _ rfl
 rintro _ rfl
 rintro _ rfl
 rintro _ rfl
 rintro _ rfl
 rintro _ rfl
 rintro _ rfl
 rintro v192 h193
 replace h193 : Vr.vd vB _ _ _ _ := h193
 obtain rfl := h193
 rintro _ rfl
 rintro _ rfl
 have p195 : Step (ks [(some b1, Obj.cells [(Value.int .i64 r_.slots), (Value.slice Aa r_.owners.length Ca), (Value.slice Ab r_.costs.length Cb)].toArray 25)] O) w45 (ks [(some b1, Obj.cells [(Value.int .i64 r_.slots), (Value.slice Aa r_.owners.length Ca), (Value.slice Ab r_.costs.length Cb)].toArray 25)] O) w176 := hst180.trans p181
 replace Fa := Fa.step p195; replace Fb := Fb.step p195; replace Fc := Fc.step p195; replace Fd := Fd.step p195; replace Fe := Fe.step p195; replace ch66 := ch66.trans p195; clear p195 hs48
 replace hm := bd hm; obtain ⟨verify_4, hv196, hm⟩ := hm
 refine Rs1 rfl rfl rfl (ob2 Try.call21 (c21_overflightref38_Verify (r_ := r_) (slots := best_2.1) hs182.ltw Ra Fa Fb Fe hv196) rfl ?_)
 rintro v197 w198 ⟨hx199, h200⟩
 have hs201 := hs182.call hx199
 have p202 := Step.ext (O := ks [(some b1, Obj.cells [(Value.int .i64 r_.slots), (Value.slice Aa r_.owners.length Ca), (Value.slice Ab r_.costs.length Cb)].toArray 25)] O) hx199
 clear hx199
 replace Fa := Fa.step p202; replace Fb := Fb.step p202; replace Fc := Fc.step p202; replace Fd := Fd.step p202; replace Fe := Fe.step p202; replace ch66 := ch66.trans p202; clear p202 hs182
 obtain ⟨rfl, Ri⟩ := h200
 refine Rs1 rfl rfl rfl (op_eql rfl rfl ?_)
 refine Rk1 rfl (oc2 (v := (Value.bool (decide (verify_3 = verify_4)))) rfl rfl ?_)
 refine Rk1 rfl (on1 (v := (Value.bool (decide (verify_3 = verify_4)))) rfl ?_)
 refine Rq1 ?_
 exact hK60 _ _ ⟨(decide (verify_3 = verify_4)), _, rfl, ⟨(by repeat (first | with_reducible exact Out.refl _ _ | refine Out.upd ?_ rfl | refine Out.updL ?_ rfl | refine Out.mix' ?_ rfl | exact Out.refl _ _)), rfl, rfl, trivial⟩, ch66, hs201, hm⟩
 replace hm := bif_f hm hg150
 refine Dv1 (fun _ _ _ ht => wanted_x rfl (ht 46 rfl) rfl) ?_
 refine Dv1 (fun _ _ _ ht => wanted_x rfl (ht 46 rfl) rfl) ?_
 refine Dv1 (fun _ _ _ ht => wanted_x rfl (ht 46 rfl) rfl) ?_
 refine Dv1 (fun _ _ _ ht => wanted_x rfl (ht 46 rfl) rfl) ?_
 refine Dv1 (fun _ _ _ ht => wanted_x rfl (ht 46 rfl) rfl) ?_
 refine Dw_nil fun w208 g209 hl210 hi211 => ?_
 obtain ⟨-, hst212, -⟩ := hl210
 obtain ⟨hs214, p213⟩ := Step.nx hi211
 rintro _ rfl
 rintro _ rfl
 rintro _ rfl
 rintro _ rfl
 rintro _ rfl
 rintro _ rfl
 rintro _ rfl
 rintro _ rfl
 rintro v215 h216
 replace h216 : Vr.vd (vI .i64) _ _ _ _ := h216
 obtain ⟨rfl, Rj⟩ := h216
 rintro _ rfl
 rintro _ rfl
 rintro v218 h219
 replace h219 : Vr.vd (vI .i64) _ _ _ _ := h219
 obtain ⟨rfl, Rk⟩ := h219
 rintro _ rfl
 rintro _ rfl
 rintro _ rfl
 rintro _ rfl
 rintro _ rfl
 rintro _ rfl
 rintro _ rfl
 rintro _ rfl
 rintro v221 h222
 replace h222 : Vr.vd vB _ _ _ _ := h222
 obtain rfl := h222
 rintro _ rfl
 rintro _ rfl
 have p224 : Step (ks [(some b1, Obj.cells [(Value.int .i64 r_.slots), (Value.slice Aa r_.owners.length Ca), (Value.slice Ab r_.costs.length Cb)].toArray 25)] O) w45 (ks [(some b1, Obj.cells [(Value.int .i64 r_.slots), (Value.slice Aa r_.owners.length Ca), (Value.slice Ab r_.costs.length Cb)].toArray 25)] O) w208 := hst212.trans p213
 replace Fa := Fa.step p224; replace Fb := Fb.step p224; replace Fc := Fc.step p224; replace Fd := Fd.step p224; replace Fe := Fe.step p224; replace ch66 := ch66.trans p224; clear p224 hs48
 iterate 2 refine Rt1 rfl (asB_ne rfl rfl) rfl ?_
 refine Rk1 rfl (or1 (v := (Value.bool false)) rfl rfl ?_)
 refine Rk1 rfl (on1 (v := (Value.bool false)) rfl ?_)
 refine Rq1 ?_
 exact hK60 _ _ ⟨false, _, rfl, ⟨(by repeat (first | with_reducible exact Out.refl _ _ | refine Out.upd ?_ rfl | refine Out.updL ?_ rfl | refine Out.mix' ?_ rfl | exact Out.refl _ _)), rfl, rfl, trivial⟩, ch66, hs214, hm⟩
 replace hm := bif_f hm hg104
 refine Dv1 (fun _ _ _ ht => wanted_x rfl (ht 37 rfl) rfl) ?_
 refine Dv1 (fun _ _ _ ht => wanted_x rfl (ht 37 rfl) rfl) ?_
 refine Dv1 (fun _ _ _ ht => wanted_x rfl (ht 37 rfl) rfl) ?_
 refine Dv1 (fun _ _ _ ht => wanted_x rfl (ht 37 rfl) rfl) ?_
 refine Dv1 (fun _ _ _ ht => wanted_x rfl (ht 37 rfl) rfl) ?_
 refine Dv1 (fun _ _ _ ht => wanted_x rfl (ht 37 rfl) rfl) ?_
 refine Dv1 (fun _ _ _ ht => wanted_x rfl (ht 37 rfl) rfl) ?_
 refine Du1 (Value.bool false) (fun ρ225 w226 g hle hi ht => ?_) ?_
 obtain ⟨-, hst, -⟩ := hle
 refine So1 (or1 (v := (Value.bool false)) (ht 37 rfl) rfl ?_)
 exact Goes.same hi rfl
 refine Du1 (Value.bool false) (fun ρ228 w229 g hle hi ht => ?_) ?_
 obtain ⟨-, hst, -⟩ := hle
 refine So1 (ol1 (v := (Value.bool false)) (ht 45 rfl) ?_)
 exact Goes.same hi rfl
 refine Dv1 (fun _ _ _ ht => wanted_x rfl (ht 46 rfl) rfl) ?_
 refine Dv1 (fun _ _ _ ht => wanted_x rfl (ht 46 rfl) rfl) ?_
 refine Dv1 (fun _ _ _ ht => wanted_x rfl (ht 46 rfl) rfl) ?_
 refine Dv1 (fun _ _ _ ht => wanted_x rfl (ht 46 rfl) rfl) ?_
 refine Dv1 (fun _ _ _ ht => wanted_x rfl (ht 46 rfl) rfl) ?_
 refine Dw_nil fun w235 g236 hl237 hi238 => ?_
 obtain ⟨-, hst239, -⟩ := hl237
 obtain ⟨hs241, p240⟩ := Step.nx hi238
 rintro _ rfl
 rintro _ rfl
 rintro _ rfl
 rintro _ rfl
 rintro _ rfl
 rintro _ rfl
 rintro _ rfl
 rintro _ rfl
 rintro _ rfl
 rintro _ rfl
 rintro _ rfl
 rintro _ rfl
 rintro _ rfl
 rintro _ rfl
 rintro _ rfl
 rintro _ rfl
 rintro _ rfl
 rintro _ rfl
 rintro _ rfl
 rintro _ rfl
 rintro v242 h243
 replace h243 : Vr.vd vB _ _ _ _ := h243
 obtain rfl := h243
 rintro _ rfl
 rintro _ rfl
 have p245 : Step (ks [(some b1, Obj.cells [(Value.int .i64 r_.slots), (Value.slice Aa r_.owners.length Ca), (Value.slice Ab r_.costs.length Cb)].toArray 25)] O) w45 (ks [(some b1, Obj.cells [(Value.int .i64 r_.slots), (Value.slice Aa r_.owners.length Ca), (Value.slice Ab r_.costs.length Cb)].toArray 25)] O) w235 := hst239.trans p240
 replace Fa := Fa.step p245; replace Fb := Fb.step p245; replace Fc := Fc.step p245; replace Fd := Fd.step p245; replace Fe := Fe.step p245; replace ch66 := ch66.trans p245; clear p245 hs48
 iterate 2 refine Rt1 rfl (asB_ne rfl rfl) rfl ?_
 refine Rk1 rfl (or1 (v := (Value.bool false)) rfl rfl ?_)
 refine Rk1 rfl (on1 (v := (Value.bool false)) rfl ?_)
 refine Rq1 ?_
 exact hK60 _ _ ⟨false, _, rfl, ⟨(by repeat (first | with_reducible exact Out.refl _ _ | refine Out.upd ?_ rfl | refine Out.updL ?_ rfl | refine Out.mix' ?_ rfl | exact Out.refl _ _)), rfl, rfl, trivial⟩, ch66, hs241, hm⟩
 replace hm := bif_f hm hg88
 refine Dv1 (fun _ _ _ ht => wanted_x rfl (ht 32 rfl) rfl) ?_
 refine Dv1 (fun _ _ _ ht => wanted_x rfl (ht 32 rfl) rfl) ?_
 refine Dv1 (fun _ _ _ ht => wanted_x rfl (ht 32 rfl) rfl) ?_
 refine Du1 (Value.bool false) (fun ρ246 w247 g hle hi ht => ?_) ?_
 obtain ⟨-, hst, -⟩ := hle
 refine So1 (or1 (v := (Value.bool false)) (ht 32 rfl) rfl ?_)
 exact Goes.same hi rfl
 refine Du1 (Value.bool false) (fun ρ249 w250 g hle hi ht => ?_) ?_
 obtain ⟨-, hst, -⟩ := hle
 refine So1 (ol1 (v := (Value.bool false)) (ht 36 rfl) ?_)
 exact Goes.same hi rfl
 refine Dv1 (fun _ _ _ ht => wanted_x rfl (ht 37 rfl) rfl) ?_
 refine Dv1 (fun _ _ _ ht => wanted_x rfl (ht 37 rfl) rfl) ?_
 refine Dv1 (fun _ _ _ ht => wanted_x rfl (ht 37 rfl) rfl) ?_
 refine Dv1 (fun _ _ _ ht => wanted_x rfl (ht 37 rfl) rfl) ?_
 refine Dv1 (fun _ _ _ ht => wanted_x rfl (ht 37 rfl) rfl) ?_
 refine Dv1 (fun _ _ _ ht => wanted_x rfl (ht 37 rfl) rfl) ?_
 refine Dv1 (fun _ _ _ ht => wanted_x rfl (ht 37 rfl) rfl) ?_
 refine Du1 (Value.bool false) (fun ρ252 w253 g hle hi ht => ?_) ?_
 obtain ⟨-, hst, -⟩ := hle
 refine So1 (or1 (v := (Value.bool false)) (ht 37 rfl) rfl ?_)
 exact Goes.same hi rfl
 refine Du1 (Value.bool false) (fun ρ255 w256 g hle hi ht => ?_) ?_
 obtain ⟨-, hst, -⟩ := hle
 refine So1 (ol1 (v := (Value.bool false)) (ht 45 rfl) ?_)
 exact Goes.same hi rfl
 refine Dv1 (fun _ _ _ ht => wanted_x rfl (ht 46 rfl) rfl) ?_
 refine Dv1 (fun _ _ _ ht => wanted_x rfl (ht 46 rfl) rfl) ?_
 refine Dv1 (fun _ _ _ ht => wanted_x rfl (ht 46 rfl) rfl) ?_
 refine Dv1 (fun _ _ _ ht => wanted_x rfl (ht 46 rfl) rfl) ?_
 refine Dv1 (fun _ _ _ ht => wanted_x rfl (ht 46 rfl) rfl) ?_
 refine Dw_nil fun w262 g263 hl264 hi265 => ?_
 obtain ⟨-, hst266, -⟩ := hl264
 obtain ⟨hs268, p267⟩ := Step.nx hi265
 rintro _ rfl
 rintro _ rfl
 rintro _ rfl
 rintro _ rfl
 rintro _ rfl
 rintro _ rfl
 rintro _ rfl
 rintro _ rfl
 rintro _ rfl
 rintro _ rfl
 rintro _ rfl
 rintro _ rfl
 rintro _ rfl
 rintro _ rfl
 rintro _ rfl
 rintro _ rfl
 rintro _ rfl
 rintro _ rfl
 rintro _ rfl
 rintro _ rfl
 rintro v269 h270
 replace h270 : Vr.vd vB _ _ _ _ := h270
 obtain rfl := h270
 rintro _ rfl
 rintro _ rfl
 have p272 : Step (ks [(some b1, Obj.cells [(Value.int .i64 r_.slots), (Value.slice Aa r_.owners.length Ca), (Value.slice Ab r_.costs.length Cb)].toArray 25)] O) w45 (ks [(some b1, Obj.cells [(Value.int .i64 r_.slots), (Value.slice Aa r_.owners.length Ca), (Value.slice Ab r_.costs.length Cb)].toArray 25)] O) w262 := hst266.trans p267
 replace Fa := Fa.step p272; replace Fb := Fb.step p272; replace Fc := Fc.step p272; replace Fd := Fd.step p272; replace Fe := Fe.step p272; replace ch66 := ch66.trans p272; clear p272 hs48
 iterate 2 refine Rt1 rfl (asB_ne rfl rfl) rfl ?_
 refine Rk1 rfl (or1 (v := (Value.bool false)) rfl rfl ?_)
 refine Rk1 rfl (on1 (v := (Value.bool false)) rfl ?_)
 refine Rq1 ?_
 exact hK60 _ _ ⟨false, _, rfl, ⟨(by repeat (first | with_reducible exact Out.refl _ _ | refine Out.upd ?_ rfl | refine Out.updL ?_ rfl | refine Out.mix' ?_ rfl | exact Out.refl _ _)), rfl, rfl, trivial⟩, ch66, hs268, hm⟩
 intro K21 hK21
 have ch273 := Step.refl (ks [(some b1, Obj.cells [(Value.int .i64 r_.slots), (Value.slice Aa r_.owners.length Ca), (Value.slice Ab r_.costs.length Cb)].toArray 25)] O) w8
 refine Wm1 ?_
 refine Rk1 rfl (op_loadA (cs := [(Value.int .i64 r_.slots), (Value.slice Aa r_.owners.length Ca), (Value.slice Ab r_.costs.length Cb)]) (vs := [(Value.int .i64 r_.slots), (Value.slice Aa r_.owners.length Ca), (Value.slice Ab r_.costs.length Cb)]) (i := 0) ty25 hs11 rfl rfl rfl rfl ?_)
 replace hm := bd hm; obtain ⟨few_1, hv274, hm⟩ := hm
 refine Rk1 rfl (ob2 Try.call11 (c11_overflightref38_Few (r_ := r_) hs11.ltw Ra Fa Fb hv274) rfl ?_)
 rintro v275 w276 ⟨hx277, h278⟩
 have hs279 := hs11.call hx277
 have p280 := Step.ext (O := ks [(some b1, Obj.cells [(Value.int .i64 r_.slots), (Value.slice Aa r_.owners.length Ca), (Value.slice Ab r_.costs.length Cb)].toArray 25)] O) hx277
 clear hx277
 replace Fa := Fa.step p280; replace Fb := Fb.step p280; replace Fc := Fc.step p280; replace ch273 := ch273.trans p280; clear p280 hs11
 obtain rfl := h278
 refine Rk1 rfl (op_not rfl ?_)
 refine Rk1 rfl (ol1 (v := (Value.bool (!few_1))) rfl ?_)
 refine Rg_case (fun hg282 => ?_) (fun hg282 => ?_)
 replace hm := bif_t hm hg282
 iterate 3 refine Rt1 rfl (asB_ne rfl rfl) rfl ?_
 refine Rk1 rfl (oc2 (v := (Value.bool true)) rfl rfl ?_)
 refine Rq1 ?_
 exact hK21 _ _ ⟨true, _, rfl, ⟨(by repeat (first | with_reducible exact Out.refl _ _ | refine Out.upd ?_ rfl | refine Out.updL ?_ rfl | refine Out.mix' ?_ rfl | exact Out.refl _ _)), rfl, rfl, trivial⟩, ch273, hs279, hm⟩
 replace hm := bif_f hm hg282
 refine Rs1 rfl rfl rfl (ol1 (v := (Value.slice Ac slots.length Cc)) rfl ?_)
 refine Rs1 rfl rfl rfl (op_len Try.underlying22 rfl ?_)
 have rl283 := inK_len Fc
 refine Rs1 rfl rfl rfl (op_gtr rfl rfl ?_)
 refine Rk1 rfl (or1 (v := (Value.bool (decide (20 < (slots.length : Int))))) rfl rfl ?_)
 refine Rq1 ?_
 exact hK21 _ _ ⟨(decide (20 < (slots.length : Int))), _, rfl, ⟨(by repeat (first | with_reducible exact Out.refl _ _ | refine Out.upd ?_ rfl | refine Out.updL ?_ rfl | refine Out.mix' ?_ rfl | exact Out.refl _ _)), rfl, rfl, trivial⟩, ch273, hs279, hm⟩

end Go.Fx
/- What the models of functions compute: loops over lists, checks, meetings. No program in sight. -/
set_option linter.unusedSimpArgs false
set_option linter.unusedVariables false
namespace Go.Fx
open Go Go.RowKit

section
variable {R α σ : Type}
@[simp] theorem jn_eq {κ : Type _} (k : κ) (f : κ → Option R) : jn k f = f k := rfl
theorem ck_eq {c : Prop} [Decidable c] {m : Option R} (h : c) : ck c m = m := if_pos h
@[simp] theorem ck_True {m : Option R} : ck True m = m := if_pos trivial
theorem wrapN {i : Nat} (h : i < 9223372036854775808) : IntKind.i64.wrap (i : Int) = (i : Int) := wrap_i64 (by omega) (by omega)
theorem wrapS {i : Nat} (h : i + 1 < 9223372036854775808) : IntKind.i64.wrap ((i : Int) + 1) = (i : Int) + 1 := wrap_i64 (by omega) (by omega)
/-- a loop that goes up an index over a list: L fuel index state -/
theorem up_list {L : Nat → Int → σ → Option R} (I : Nat → σ → Prop) (F : Nat → List α → σ → Option R) (l : List α) (hl : l.length < 9223372036854775807)
    (hE : ∀ n s, I l.length s → L (n + 1) (l.length : Nat) s = F l.length [] s)
    (hS : ∀ n (i : Nat) s x t, i < l.length → l[i]? = some x → IntKind.i64.wrap ((i : Int) + 1) = (i : Int) + 1 → I i s →
      (∀ s, I (i + 1) s → L n ((i : Int) + 1) s = F (i + 1) t s) → L (n + 1) (i : Int) s = F i (x :: t) s) :
    ∀ (fuel : Nat) s, l.length < fuel → I 0 s → L fuel 0 s = F 0 l s := by
  have main : ∀ (t : List α) (i fuel : Nat) s, l.drop i = t → i ≤ l.length → l.length - i < fuel → I i s → L fuel (i : Int) s = F i t s := by
    intro t
    induction t with
    | nil =>
      intro i fuel s hd hi hf hI
      have : i = l.length := by have := congrArg List.length hd; simp at this; omega
      subst this
      obtain ⟨n, rfl⟩ : ∃ n, fuel = n + 1 := ⟨fuel - 1, by omega⟩
      exact hE n s hI
    | cons x t ih =>
      intro i fuel s hd hi hf hI
      have hlt : i < l.length := by have := congrArg List.length hd; simp at this; omega
      obtain ⟨n, rfl⟩ : ∃ n, fuel = n + 1 := ⟨fuel - 1, by omega⟩
      have hx : l[i]? = some x := by rw [← List.head?_drop, hd]; rfl
      refine hS n i s x t hlt hx (wrapS (by omega)) hI fun s' hI' => (ih (i + 1) n s' ?_ (by omega) (by omega) hI')
      rw [← List.drop_drop, hd]; rfl
  intro fuel s hf hI
  exact main l 0 fuel s rfl (by omega) (by omega) hI

theorem getD_of {l : List α} {i : Nat} {x d : α} (h : l[i]? = some x) : l.getD i d = x := by simp [List.getD, h]

/-- a loop that goes up an index over a list, no state -/
theorem up_list0 {B : (Int → Option R) → Int → Option R} (F : List α → Option R) (l : List α) (hl : l.length < 9223372036854775807)
    (hE : ∀ sf, B sf (l.length : Nat) = F [])
    (hS : ∀ sf (i : Nat) x t, i < l.length → l[i]? = some x → IntKind.i64.wrap ((i : Int) + 1) = (i : Int) + 1 →
      sf ((i : Int) + 1) = F t → B sf (i : Int) = F (x :: t))
    {fuel : Nat} (hf : l.length < fuel) : loop1 B fuel 0 = F l := by
  refine up_list (L := fun n i (_ : Unit) => loop1 B n i) (fun _ _ => True) (fun _ t _ => F t) l hl ?_ ?_ fuel () hf trivial
  · intro n _ _; show loop1 B (n + 1) _ = _; rw [loop1_succ]; exact hE _
  · intro n i _ x t h1 h2 h3 _ ih; show loop1 B (n + 1) _ = _; rw [loop1_succ]; exact hS _ i x t h1 h2 h3 (ih () trivial)
/-- index first, then a state -/
theorem up_listA {B : (Int → σ → Option R) → Int → σ → Option R} (I : Nat → σ → Prop) (F : Nat → List α → σ → Option R) (l : List α) (hl : l.length < 9223372036854775807)
    (hE : ∀ sf s, I l.length s → B sf (l.length : Nat) s = F l.length [] s)
    (hS : ∀ sf (i : Nat) s x t, i < l.length → l[i]? = some x → IntKind.i64.wrap ((i : Int) + 1) = (i : Int) + 1 → I i s →
      (∀ s, I (i + 1) s → sf ((i : Int) + 1) s = F (i + 1) t s) → B sf (i : Int) s = F i (x :: t) s)
    {fuel : Nat} {s : σ} (hf : l.length < fuel) (hI : I 0 s) : loop2 B fuel 0 s = F 0 l s := by
  refine up_list (L := fun n i s => loop2 B n i s) I F l hl ?_ ?_ fuel s hf hI
  · intro n s h; show loop2 B (n + 1) _ _ = _; rw [loop2_succ]; exact hE _ _ h
  · intro n i s x t h1 h2 h3 h4 ih; show loop2 B (n + 1) _ _ = _; rw [loop2_succ]; exact hS _ i s x t h1 h2 h3 h4 ih
/-- a state first, then the index -/
theorem up_listB {B : (σ → Int → Option R) → σ → Int → Option R} (I : Nat → σ → Prop) (F : Nat → List α → σ → Option R) (l : List α) (hl : l.length < 9223372036854775807)
    (hE : ∀ sf s, I l.length s → B sf s (l.length : Nat) = F l.length [] s)
    (hS : ∀ sf (i : Nat) s x t, i < l.length → l[i]? = some x → IntKind.i64.wrap ((i : Int) + 1) = (i : Int) + 1 → I i s →
      (∀ s, I (i + 1) s → sf s ((i : Int) + 1) = F (i + 1) t s) → B sf s (i : Int) = F i (x :: t) s)
    {fuel : Nat} {s : σ} (hf : l.length < fuel) (hI : I 0 s) : loop2 B fuel s 0 = F 0 l s := by
  refine up_list (L := fun n i s => loop2 B n s i) I F l hl ?_ ?_ fuel s hf hI
  · intro n s h; show loop2 B (n + 1) _ _ = _; rw [loop2_succ]; exact hE _ _ h
  · intro n i s x t h1 h2 h3 h4 ih; show loop2 B (n + 1) _ _ = _; rw [loop2_succ]; exact hS _ i s x t h1 h2 h3 h4 ih

/-- the same, where the answer needs the index -/
theorem up_listI {B : (Int → Option R) → Int → Option R} (F : Nat → List α → Option R) (l : List α) (hl : l.length < 9223372036854775807)
    (hE : ∀ sf, B sf (l.length : Nat) = F l.length [])
    (hS : ∀ sf (i : Nat) x t, i < l.length → l[i]? = some x → IntKind.i64.wrap ((i : Int) + 1) = (i : Int) + 1 →
      sf ((i : Int) + 1) = F (i + 1) t → B sf (i : Int) = F i (x :: t))
    {fuel : Nat} (hf : l.length < fuel) : loop1 B fuel 0 = F 0 l := by
  refine up_list (L := fun n i (_ : Unit) => loop1 B n i) (fun _ _ => True) (fun i t _ => F i t) l hl ?_ ?_ fuel () hf trivial
  · intro n _ _; show loop1 B (n + 1) _ = _; rw [loop1_succ]; exact hE _
  · intro n i _ x t h1 h2 h3 _ ih; show loop1 B (n + 1) _ = _; rw [loop1_succ]; exact hS _ i x t h1 h2 h3 (ih () trivial)
end
end Go.Fx
/- Chapter 37, no program in sight: all exchanges of some flights, in order. -/
set_option linter.unusedSimpArgs false
set_option linter.unusedVariables false
namespace Go.Fx
open Go Go.RowKit
/-- all ways to go on from b with k more, out of fl, all different, allowed at their place -/
def dv (fl : List Int) (ok : Nat → Int → Bool) : Nat → List Int → List (List Int)
  | 0, b => [b]
  | k + 1, b => fl.flatMap fun s => bif ok b.length s && !b.contains s then dv fl ok k (b ++ [s]) else []
/-- t may follow b -/
def gd (fl : List Int) (ok : Nat → Int → Bool) : List Int → List Int → Prop
  | _, [] => True
  | b, s :: t => s ∈ fl ∧ ok b.length s = true ∧ s ∉ b ∧ gd fl ok (b ++ [s]) t
theorem mem_dv {fl : List Int} {ok : Nat → Int → Bool} : ∀ {k : Nat} {b x : List Int}, x ∈ dv fl ok k b ↔ ∃ t, x = b ++ t ∧ t.length = k ∧ gd fl ok b t := by
  intro k
  induction k with
  | zero =>
    intro b x
    simp only [dv, List.mem_singleton]
    constructor
    · rintro rfl; exact ⟨[], by simp, rfl, trivial⟩
    · rintro ⟨t, rfl, ht, _⟩; rw [List.length_eq_zero_iff.1 ht]; simp
  | succ k ih =>
    intro b x
    simp only [dv, List.mem_flatMap]
    constructor
    · rintro ⟨s, hs, hx⟩
      cases hc : (ok b.length s && !b.contains s)
      · rw [hc] at hx; cases hx
      · rw [hc, cond_true, ih] at hx
        obtain ⟨t, rfl, ht, hg⟩ := hx
        simp only [Bool.and_eq_true, Bool.not_eq_true', List.contains_eq_mem, decide_eq_false_iff_not] at hc
        exact ⟨s :: t, by simp, by simp [ht], hs, hc.1, hc.2, hg⟩
    · rintro ⟨t, rfl, ht, hg⟩
      cases t with
      | nil => cases ht
      | cons s t =>
        obtain ⟨h1, h2, h3, h4⟩ := hg
        refine ⟨s, h1, ?_⟩
        have hc : (ok b.length s && !b.contains s) = true := by simp [h2, h3]
        rw [hc, cond_true, ih]
        exact ⟨t, by simp, by simpa using ht, h4⟩
/-- the sum of what belongs to o -/
def csum (own : Int → Int) (cost : Int → Int → Int) (o : Int) : List (Int × Int) → Int
  | [] => 0
  | (f, s) :: t => (if own f = o then cost f s else 0) + csum own cost o t
theorem csum_append (own : Int → Int) (cost : Int → Int → Int) (o : Int) (l m : List (Int × Int)) : csum own cost o (l ++ m) = csum own cost o l + csum own cost o m := by
  induction l with
  | nil => simp [csum]
  | cons p t ih => obtain ⟨f, s⟩ := p; simp only [List.cons_append, csum, ih]; omega
end Go.Fx
/- The plain laws of chapter 37: what the functions compute. -/
set_option linter.unusedSimpArgs false
set_option linter.unusedVariables false
namespace Go.Fx
open Go Go.RowKit
theorem all_range' {p : Nat → Bool} (i n : Nat) : (List.range' i (n + 1)).all p = (p i && (List.range' (i + 1) n).all p) := by rw [List.range'_succ]; rfl
theorem all_range {p : Nat → Bool} (n : Nat) : (List.range n).all p = (List.range' 0 n).all p := by rw [List.range_eq_range']
/-- the first index from i where g holds, or -1 -/
def fidx {α} (g : α → Bool) : Nat → List α → Int
  | _, [] => -1
  | i, x :: t => bif g x then (i : Int) else fidx g (i + 1) t
theorem fidx_any {α} (g : α → Bool) (l : List α) (i : Nat) : decide (0 ≤ fidx g i l) = l.any g := by
  induction l generalizing i with
  | nil => rfl
  | cons x t ih => cases h : g x <;> simp [fidx, h, ih]
theorem m51_eq (s : List Int) (f : Int → Option Bool) (g : Int → Bool) (hf : ∀ x ∈ s, f x = some (g x)) (hl : s.length < 9223372036854775807) : m51_slices_ContainsFuncint_int_ s f = some (s.any g) := by
  have : m70_slices_IndexFuncint_int_ s f = some (fidx g 0 s) := by
    unfold m70_slices_IndexFuncint_int_
    refine up_listI (fun i t => some (fidx g i t)) s hl ?_ ?_ (by omega)
    · intro sf; unfold m70_slices_IndexFuncint_int__B0; simp [fidx]
    · intro sf i x t h1 h2 h3 ih; unfold m70_slices_IndexFuncint_int__B0; obtain ⟨_, rfl⟩ := List.getElem?_eq_some_iff.1 h2
      have hfi := hf s[i] (List.getElem_mem _)
      cases h : g s[i] <;> simp [h1, h3, ih, hfi, h, fidx, ck_eq]
  unfold m51_slices_ContainsFuncint_int_; rw [this]; simp [fidx_any]
theorem m48_eq (s : List Int) (v : Int) (hl : s.length < 9223372036854775807) : m48_slices_Containsint_int_ s v = some (s.any fun x => decide (v = x)) := by
  have : m68_slices_Indexint_int_ s v = some (fidx (fun x => decide (v = x)) 0 s) := by
    unfold m68_slices_Indexint_int_
    refine up_listI (fun i t => some (fidx (fun x => decide (v = x)) i t)) s hl ?_ ?_ (by omega)
    · intro sf; unfold m68_slices_Indexint_int__B0; simp [fidx]
    · intro sf i x t h1 h2 h3 ih; unfold m68_slices_Indexint_int__B0; obtain ⟨_, rfl⟩ := List.getElem?_eq_some_iff.1 h2
      by_cases h : v = s[i]
      · have g1 : s.getD (i : Int).toNat default = s[i] := by simp [h1]
        simp only [show (i : Int) < (s.length : Int) by omega, decide_true, cond_true, g1]
        rw [ck_eq (by simp)]; simp [← h, fidx]
      · simp [h1, h3, ih, h, fidx, ck_eq]
  unfold m48_slices_Containsint_int_; rw [this]; simp [fidx_any]
def badC (c : Int) : Bool := decide (c < -1) || decide (1048576 < c)
theorem m52_eq (c : Int) (hc : InK .i64 c) : m52_coalition_Check_2 c (fun x24 x25 => m50_coalition_Check_1 x24 x25) = some (badC c) := by
  have h1 := hc.1; have h2 := hc.2
  simp [IntKind.min, IntKind.max, IntKind.signed, IntKind.bits] at h1 h2
  unfold m52_coalition_Check_2 m50_coalition_Check_1 badC
  by_cases hm : c = 9223372036854775807
  · subst hm; rfl
  · have w : IntKind.i64.wrap (c + 1) = c + 1 := wrap_i64 (by omega) (by omega)
    rw [w]
    by_cases k1 : c < -1
    · have : c + 1 < 0 := by omega
      simp [k1, this]
    · have : ¬ c + 1 < 0 := by omega
      have e : (1048577 < c + 1) = (1048576 < c) := by apply propext; omega
      simp only [k1, this, e, decide_false, cond_false, Bool.false_or, Option.bind_some]
/-- flight i of a round is not as it should be -/
def rowBad (r : XRound) (i : Nat) : Bool :=
  (decide (r.owners.getD i default < 0) || decide (7 < r.owners.getD i default)) || (!decide (((r.costs.getD i default).length : Int) = r.slots) || (decide ((r.costs.getD i default).getD i default < 0) || (r.costs.getD i default).any badC))
def shapeB (r : XRound) : Bool := !(decide (r.slots < 1) || (decide (8 < r.slots) || (decide (r.slots < (r.owners.length : Int)) || decide ((r.costs.length : Int) ≠ (r.owners.length : Int)))))
/-- what Check answers -/
def valB (r : XRound) : Bool := shapeB r && (List.range r.owners.length).all fun i => !rowBad r i
theorem shape_props {r : XRound} (h : shapeB r = true) : 1 ≤ r.slots ∧ r.slots ≤ 8 ∧ (r.owners.length : Int) ≤ r.slots ∧ r.costs.length = r.owners.length := by
  unfold shapeB at h; simp at h; omega
theorem m25_eq (r : XRound) (hs : smXRound r) : m25_coalition_Check r = some (bif valB r then 0 else 370) := by
  have hcl : r.costs.length < 9223372036854775807 := by have := hs.2.2.1; omega
  unfold m25_coalition_Check
  have main : shapeB r = true → loop1 (m25_coalition_Check_B0 r) (((r.costs.length : Int) - 0).toNat + 1) 0 = some (bif (List.range r.owners.length).all (fun i => !rowBad r i) then 0 else 370) := by
    intro hsh
    obtain ⟨s1, s2, s3, s4⟩ := shape_props hsh
    rw [all_range, ← s4]
    refine up_listI (fun i t => some (bif (List.range' i t.length).all (fun i => !rowBad r i) then 0 else 370)) r.costs hcl ?_ ?_ (show r.costs.length < ((r.costs.length : Int) - 0).toNat + 1 by omega)
    · intro sf; unfold m25_coalition_Check_B0; simp
    · intro sf i x t h1 h2 h3 ih
      have g0 : r.costs.getD (i : Int).toNat default = r.costs.getD i default := rfl
      have g1 : r.owners.getD (i : Int).toNat default = r.owners.getD i default := rfl
      have g2 : (r.costs.getD i default).getD (i : Int).toNat default = (r.costs.getD i default).getD i default := rfl
      have hrow : r.costs.getD i default ∈ r.costs := by rw [show r.costs.getD i default = r.costs[i] from by simp [h1]]; exact List.getElem_mem _
      have hrl := (hs.2.2.2 _ hrow)
      rw [List.length_cons, all_range']
      unfold m25_coalition_Check_B0
      have c1 : (i : Int) < (r.costs.length : Int) := by omega
      simp only [c1, decide_true, cond_true, jn_eq, g0, g1, g2, h3, ih]
      rw [ck_eq (by simp), ck_eq (by omega)]
      have m45 := m51_eq (r.costs.getD i default) (fun x286 => m52_coalition_Check_2 x286 (fun x24 x25 => m50_coalition_Check_1 x24 x25)) badC (fun x hx => m52_eq x (hrl.2 x hx)) (by have := hrl.1; omega)
      rw [m45]
      have hb : rowBad r i = ((decide (r.owners.getD i default < 0) || decide (7 < r.owners.getD i default)) || (!decide (((r.costs.getD i default).length : Int) = r.slots) || (decide ((r.costs.getD i default).getD i default < 0) || (r.costs.getD i default).any badC))) := rfl
      rw [hb]
      generalize (List.range' (i + 1) t.length).all (fun i => !rowBad r i) = rest
      clear hb ih hrl hrow m45 g0 g1 g2 hs
      generalize r.costs.getD i default = row
      generalize r.owners.getD i default = o
      generalize row.getD i default = dg
      generalize row.any badC = bb
      unfold m50_coalition_Check_1
      by_cases k1 : o < 0
      · simp [k1]
      by_cases k2 : 7 < o
      · simp [k1, k2]
      by_cases k3 : (row.length : Int) = r.slots
      · rw [ck_eq (by omega)]
        by_cases k4 : dg < 0
        · simp [k1, k2, k3, k4]
        · cases bb <;> simp [k1, k2, k3, k4]
      · simp [k1, k2, k3]
  simp only [jn_eq]
  unfold valB
  cases hsh : shapeB r
  · unfold shapeB at hsh
    by_cases k1 : r.slots < 1
    · simp [k1]
    by_cases k2 : 8 < r.slots
    · simp [k1, k2]
    by_cases k3 : r.slots < (r.owners.length : Int)
    · simp [k1, k2, k3]
    by_cases k4 : (r.costs.length : Int) = (r.owners.length : Int)
    · simp [k1, k2, k3, k4] at hsh
    · simp [k1, k2, k3, k4]
  · have hm := main hsh
    obtain ⟨s1, s2, s3, s4⟩ := shape_props hsh
    have k1 : ¬ r.slots < 1 := by omega
    have k2 : ¬ 8 < r.slots := by omega
    have k3 : ¬ r.slots < (r.owners.length : Int) := by omega
    have k4 : (r.costs.length : Int) = (r.owners.length : Int) := by omega
    simp only [k1, k2, k3, k4, decide_false, cond_false, ne_eq, not_true_eq_false, Bool.true_and]
    rw [k4] at hm; exact hm
structure Val (r : XRound) : Prop where
  s1 : 1 ≤ r.slots
  s2 : r.slots ≤ 8
  s3 : (r.owners.length : Int) ≤ r.slots
  s4 : r.costs.length = r.owners.length
  own : ∀ i < r.owners.length, 0 ≤ r.owners.getD i default ∧ r.owners.getD i default < 8
  row : ∀ i < r.owners.length, ((r.costs.getD i default).length : Int) = r.slots
  diag : ∀ i < r.owners.length, 0 ≤ (r.costs.getD i default).getD i default
  cost : ∀ i < r.owners.length, ∀ c ∈ r.costs.getD i default, -1 ≤ c ∧ c ≤ 1048576
theorem Val.of {r : XRound} (h : valB r = true) : Val r := by
  unfold valB at h
  simp only [Bool.and_eq_true, List.all_eq_true, List.mem_range] at h
  obtain ⟨s1, s2, s3, s4⟩ := shape_props h.1
  have hb : ∀ i < r.owners.length, _ := fun i hi => h.2 i hi
  refine ⟨s1, s2, s3, s4, fun i hi => ?_, fun i hi => ?_, fun i hi => ?_, fun i hi c hc => ?_⟩ <;> (have := hb i hi; unfold rowBad at this; simp only [Bool.not_eq_true', Bool.or_eq_false_iff, Bool.not_eq_false', decide_eq_false_iff_not, decide_eq_true_eq, List.any_eq_false] at this; obtain ⟨⟨p1, p2⟩, p3, p4, p5⟩ := this)
  · omega
  · exact p3
  · omega
  · have := p5 c hc; simp [badC] at this; omega
end Go.Fx
