/- Value and Cycles answer as the specification does, for every assignment of a small round. -/
import Derived.Test.YtnenhpedfcngbaaCyclesSpec4
import Derived.Test.YtnenhpedfcngbaaRows
import Derived.WalkKit
import Derived.ShutString
set_option linter.unusedVariables false
set_option linter.unusedSimpArgs false
set_option maxRecDepth 100000
set_option maxHeartbeats 0
namespace Go.Fx
open Go Go.RowKit Go.Proofs
def m15_overflightref38_Cycles_B1 (slots : List Int) (i_1 : Int) (sf32 : (List (List Int)) → Int → Option ((List (List Int)) × Int)) (sf47 : (List (List Int)) → Int → Option ((List (List Int)) × Int)) (out_2 : List (List Int)) (first_1 : Int) : Option ((List (List Int)) × Int) :=
 bif (decide (first_1 < (slots.length : Int))) then
  (m36_overflightref38_follow slots first_1).bind fun follow_1 =>
  ck ((0 : Int) ≤ first_1 ∧ first_1 < (slots.length : Int)) <|
  jn (fun (cycle_1 : Bool) =>
   jn (fun (v_1 : Bool) =>
    bif v_1 then
     ck ((out_2.length + [follow_1].length) * 24 ≤ 140737488355328) <|
     sf47 (out_2 ++ [follow_1]) (IntKind.wrap .i64 (first_1 + 1))
    else
     sf47 out_2 (IntKind.wrap .i64 (first_1 + 1)))
   (fun k90 =>
    (m37_overflightref38_least follow_1).bind fun least_1 =>
    bif (decide (least_1 = i_1)) then
     bif (decide ((slots.length : Int) ≤ (slots.getD first_1.toNat default))) then
      k90 true
     else
      k90 cycle_1
    else
     k90 false))
  (fun k80 =>
   ck ((0 : Int) ≤ 0 ∧ 0 < (follow_1.length : Int)) <|
   ck ((0 : Int) ≤ (follow_1.getD 0 default) ∧ (follow_1.getD 0 default) < (slots.length : Int)) <|
   ck ((0 : Int) ≤ (IntKind.wrap .i64 ((follow_1.length : Int) - 1)) ∧ (IntKind.wrap .i64 ((follow_1.length : Int) - 1)) < (follow_1.length : Int)) <|
   bif (decide ((slots.getD (follow_1.getD 0 default).toNat default) = (follow_1.getD (IntKind.wrap .i64 ((follow_1.length : Int) - 1)).toNat default))) then
    bif (decide (first_1 = i_1)) then
     k80 (decide (1 < (follow_1.length : Int)))
    else
     k80 false
   else
    k80 false)
 else
  sf32 out_2 (IntKind.wrap .i64 (i_1 + 1))

def m15_overflightref38_Cycles_B0 (slots : List Int) (sf32 : (List (List Int)) → Int → Option ((List (List Int)) × Int)) (out_1 : List (List Int)) (i_1 : Int) : Option ((List (List Int)) × Int) :=
 bif (decide (i_1 < (slots.length : Int))) then
  loop2 (m15_overflightref38_Cycles_B1 slots i_1 sf32) (((slots.length : Int) - 0).toNat + 1) out_1 0
 else
  some (out_1, 0)

def m15_overflightref38_Cycles (r_ : XRound) (slots : List Int) : Option ((List (List Int)) × Int) :=
 (m31_overflightref37_Costs r_ slots).bind fun costs_1 =>
 bif (decide (costs_1.2 ≠ 0)) then
  some (([] : List (List Int)), costs_1.2)
 else
  loop2 (m15_overflightref38_Cycles_B0 slots) (((slots.length : Int) - 0).toNat + 1) [] 0

theorem c15_overflightref38_Cycles {w : World} {O : List Nat} {r_ : XRound} {slots : List Int} {Aa : Option Addr} {Ca : Nat} {Ab : Option Addr} {Cb : Nat} {Ac : Option Addr} {Cc : Nat} (hO : ∀ k ∈ O, k < w.heap.size) (Ra : InK .i64 r_.slots) (Fa : SlR (rInt .i64) w O Aa Ca r_.owners) (Fb : SlR (rSl (rInt .i64)) w O Ab Cb r_.costs) (Fc : SlR (rInt .i64) w O Ac Cc slots) {x : (List (List Int)) × Int} (hm : m15_overflightref38_Cycles r_ slots = some x) :
 Ok Try.prog 15 [(Value.agg [(Value.int .i64 r_.slots), (Value.slice Aa r_.owners.length Ca), (Value.slice Ab r_.costs.length Cb)].toArray), (Value.slice Ac slots.length Cc)] w O (vT2 (vC (rSl (rSl (rInt .i64)))) (vI .i64)) x := by
 unfold m15_overflightref38_Cycles at hm
 refine Fn_of_Wp (n := 84) (xs := [.tmp 4, .tmp 5]) Try.func15 rfl Try.ntmps15 Try.results15 rfl ?_
 have hs := St.start hO
 refine Wp_seq (Wp_region ?_)
 refine Rg_op rfl (op_box (cs := [(Value.int .i64 r_.slots), (Value.slice Aa r_.owners.length Ca), (Value.slice Ab r_.costs.length Cb)]) hs rfl rfl ?_)
 intro b1 w2 _ p3 hs4
 replace Fa := Fa.step p3; replace Fb := Fb.step p3; replace Fc := Fc.step p3; clear p3
 refine Rg_op rfl (op_assign (v := (Value.slice none 0 0)) rfl ?_)
 refine Rg_op rfl (op_assign (v := (Value.int .i64 0)) rfl ?_)
 refine Rg_nil (Wp_seq (Wp_region ?_))
 refine Rg_op rfl (op_loadA (cs := [(Value.int .i64 r_.slots), (Value.slice Aa r_.owners.length Ca), (Value.slice Ab r_.costs.length Cb)]) (vs := [(Value.int .i64 r_.slots), (Value.slice Aa r_.owners.length Ca), (Value.slice Ab r_.costs.length Cb)]) (i := 0) ty25 hs4 rfl rfl rfl rfl ?_)
 refine Rg_op rfl (op_move (v := (Value.slice Ac slots.length Cc)) rfl ?_)
 replace hm := bd hm; obtain ⟨costs_1, hv6, hm⟩ := hm
 refine Rg_op rfl (op_call Try.call31 (c31_overflightref37_Costs (r_ := r_) (slots := slots) hs4.ltw Ra Fa Fb Fc hv6) rfl ?_)
 rintro v7 w8 ⟨hx9, h10⟩
 have hs11 := hs4.call hx9
 have p12 := Step.ext (O := ks [(some b1, Obj.cells [(Value.int .i64 r_.slots), (Value.slice Aa r_.owners.length Ca), (Value.slice Ab r_.costs.length Cb)].toArray 25)] O) hx9
 clear hx9
 replace Fa := Fa.step p12; replace Fb := Fb.step p12; replace Fc := Fc.step p12; clear p12 hs4
 obtain ⟨v13, v14, rfl, h15, h16⟩ := h10
 obtain ⟨Ad, Cd, rfl, Fd⟩ := un_sl h15
 obtain ⟨rfl, Rb⟩ := h16
 refine Rg_op rfl (op_move (v := (Value.tuple [(Value.slice Ad costs_1.1.length Cd), (Value.int .i64 costs_1.2)].toArray)) rfl ?_)
 refine Rg_op rfl (op_extract (v := (Value.slice Ad costs_1.1.length Cd)) rfl rfl ?_)
 refine Rg_op rfl (op_extract (v := (Value.int .i64 costs_1.2)) rfl rfl ?_)
 refine Rg_op rfl (op_assign (v := (Value.slice Ad costs_1.1.length Cd)) rfl ?_)
 refine Rg_op rfl (op_assign (v := (Value.int .i64 costs_1.2)) rfl ?_)
 refine Rg_nil (Wp_seq (Wp_seq ?_))
 obtain ⟨hs19, p20⟩ := hs11.sub (bs' := []) (.cons _ List.Sublist.slnil)
 clear Fa Fb Fd
 replace Fc := Fc.step p20; clear p20 hs11
 refine Wp_region ?_
 refine Rg_op rfl (op_move (v := (Value.int .i64 costs_1.2)) rfl ?_)
 refine Rg_op rfl (op_neq rfl rfl ?_)
 refine Rg_nil ?_
 refine Wp_cond rfl (fun hc21 => ?_) (fun hc21 => ?_)
 replace hm := bif_t hm hc21
 refine Wp_seq ?_
 clear Fc
 refine Wp_region ?_
 refine Rg_op rfl (op_move (v := (Value.int .i64 costs_1.2)) rfl ?_)
 refine Rg_op rfl (op_assign (v := (Value.slice none 0 0)) rfl ?_)
 refine Rg_op rfl (op_assign (v := (Value.int .i64 costs_1.2)) rfl ?_)
 refine Rg_nil ?_
 refine Wp_ret ?_
 have hz := step_all hs19
 refine ⟨_, (show Closes [] _ _ from rfl), [(Value.slice none 0 0), (Value.int .i64 costs_1.2)], ⟨rfl, rfl, trivial⟩, hs19.ext, ?_⟩
 exact Vr.eq (a := (vT2 (vC (rSl (rSl (rInt .i64)))) (vI .i64))) (x := (([] : List (List Int)), costs_1.2)) (mkT2 (mkC (mk_sl SlR.nil_)) ⟨rfl, Rb⟩) (Option.some.inj hm)
 replace hm := bif_f hm hc21
 refine Wp_skip (Wp_seq (Wp_region ?_))
 refine Rg_op rfl (op_move (v := (Value.slice Ac slots.length Cc)) rfl ?_)
 refine Rg_op rfl (op_len Try.underlying22 rfl ?_)
 have rl22 := inK_len Fc
 refine Rg_op rfl (op_assign (v := (Value.int .i64 (slots.length : Int))) rfl ?_)
 refine Rg_nil (Wp_seq (Wp_region ?_))
 refine Rg_op rfl (op_buildSlice (cs := []) (parts := []) ty23 ty22 hs19 (by decide) rfl ?_)
 intro b23 w24 hx27 p25 hs26
 replace Fc := Fc.step p25; clear p25 hs19
 refine Rg_op rfl (op_assign (v := (Value.slice (some ⟨b23, 0, none⟩) 0 0)) rfl ?_)
 refine Rg_nil (Wp_seq (Wp_seq (Wp_region ?_)))
 refine Rg_op rfl (op_assign (v := (Value.int .i64 0)) rfl ?_)
 refine Rg_nil (Wp_block ?_)
 refine Wp_reset [] [(1, (Value.slice Ac slots.length Cc)), (8, (Value.int .i64 (slots.length : Int))), (9, (Value.slice (some ⟨b23, 0, none⟩) 0 0)), (10, (Value.int .i64 0))] rfl ⟨rfl, rfl, rfl, rfl, trivial⟩ fun ξ31 => ?_
 have f36 := Gs.of_cells (p := (rSl (rInt .i64))) (e := 22) (bl := b23) (c := 0) (w := w24) (O := ks [(some b23, Obj.cells [].toArray 22)] O) (show Els (rSl (rInt .i64)) _ _ [] [] from Els.nil) rfl (le_lit rfl)
 refine Wp_loopM [9, 10, 11, 12, 13, 14, 27, 28, 29, 30, 31, 32, 33, 34, 35, 36, 37, 38, 39, 40, 41, 42, 43, 44, 45, 46, 47, 48, 49, 50, 51, 52, 53, 54, 55, 56, 57, 58, 59, 60, 61, 62, 63, 64, 65, 66, 67, 68, 69, 70, 71, 72, 73, 74, 75, 76, 77, 78, 79, 80, 81, 82] (fun m fr w' => ∃ (out_1 : List (List Int)) (i_1 : Int) (Ae : Option Addr) (Ce : Nat) (k_g29 : Option Nat) (o_g29 : Obj) (Ebs : Ents), Ebs = [(k_g29, o_g29)] ∧ fr [] [(9, (Value.slice Ae out_1.length Ce)), (10, (Value.int .i64 i_1))] ∧ Step (ks [(some b23, Obj.cells [].toArray 22)] O) w24 (ks Ebs O) w' ∧ St ⟨w, [], []⟩ O w' Ebs ∧ Gs (rSl (rInt .i64)) 22 w' (ks Ebs O) Ae Ce out_1 k_g29 o_g29 ∧ InK .i64 i_1 ∧ loop2 (m15_overflightref38_Cycles_B0 slots) m out_1 i_1 = some x) (((slots.length : Int) - 0).toNat + 1) ⟨[], 0, (some ⟨b23, 0, none⟩), 0, (some b23), (Obj.cells [].toArray 22), _, rfl, ⟨Out.refl _ _, rfl, rfl, rfl, trivial⟩, Step.refl _ _, hs26, f36, (show InK .i64 0 from by decide), hm⟩ ?_ ?_
 rintro _ _ ⟨_, _, _, _, _, _, _, _, _, _, _, _, _, hm⟩; exact loop2_z hm
 rintro m35 K34 hK34 ρ41 w37 ⟨out_1, i_1, Ae, Ce, k_g29, o_g29, Ebs, hEbs, hfr40, hst39, hs38, Fe, Rc, hm⟩
 obtain ⟨sf32, hsf33, hm⟩ := loop2_s hm; unfold m15_overflightref38_Cycles_B0 at hm
 subst hEbs; rw [hfr40.eq]; clear hfr40
 replace Fc := Fc.step hst39; replace f36 := f36.step hst39
 have ch42 := hst39
 refine Wp_seq (Wp_seq ?_)
 clear f36
 refine Wp_region ?_
 refine Rg_op rfl (op_move (v := (Value.int .i64 i_1)) rfl ?_)
 refine Rg_op rfl (op_move (v := (Value.int .i64 (slots.length : Int))) rfl ?_)
 refine Rg_op rfl (op_lss rfl rfl ?_)
 refine Rg_nil ?_
 refine Wp_cond rfl (fun hc43 => ?_) (fun hc43 => ?_)
 replace hm := bif_t hm hc43
 refine Wp_skip (Wp_seq (Wp_block (Wp_seq (Wp_region ?_))))
 refine Rg_op rfl (op_assign (v := (Value.int .i64 0)) rfl ?_)
 refine Rg_nil (Wp_block ?_)
 refine Wp_reset2 [9, 10, 11, 12, 13, 14, 27, 28, 29, 30, 31, 32, 33, 34, 35, 36, 37, 38, 39, 40, 41, 42, 43, 44, 45, 46, 47, 48, 49, 50, 51, 52, 53, 54, 55, 56, 57, 58, 59, 60, 61, 62, 63, 64, 65, 66, 67, 68, 69, 70, 71, 72, 73, 74, 75, 76, 77, 78, 79, 80, 81, 82] [] (updL ⟨ξ31, []⟩ [(1, (Value.slice Ac slots.length Cc)), (8, (Value.int .i64 (slots.length : Int))), (9, (Value.slice (some ⟨b23, 0, none⟩) 0 0)), (10, (Value.int .i64 0))]) [(9, (Value.slice Ae out_1.length Ce)), (10, (Value.int .i64 i_1)), (11, (Value.int .i64 0))] (by repeat (first | with_reducible exact Out.refl _ _ | refine Out.upd ?_ rfl | refine Out.updL ?_ rfl | refine Out.mix' ?_ rfl | exact Out.refl _ _)) rfl ⟨rfl, rfl, rfl, trivial⟩ fun ξ46 => ?_
 refine Wp_loopM [9, 11, 12, 13, 14, 32, 33, 34, 35, 36, 37, 38, 39, 40, 41, 42, 43, 44, 45, 46, 47, 48, 49, 50, 51, 52, 53, 54, 55, 56, 57, 58, 59, 60, 61, 62, 63, 64, 65, 66, 67, 68, 69, 70, 71, 72, 73, 74, 75, 76, 77, 78, 79, 80, 81, 82] (fun m fr w' => ∃ (out_2 : List (List Int)) (first_1 : Int) (Af : Option Addr) (Cf : Nat) (k_g44 : Option Nat) (o_g44 : Obj) (Ebs : Ents), Ebs = [(k_g44, o_g44)] ∧ fr [] [(9, (Value.slice Af out_2.length Cf)), (11, (Value.int .i64 first_1))] ∧ Step (ks [(k_g29, o_g29)] O) w37 (ks Ebs O) w' ∧ St ⟨w, [], []⟩ O w' Ebs ∧ Gs (rSl (rInt .i64)) 22 w' (ks Ebs O) Af Cf out_2 k_g44 o_g44 ∧ InK .i64 first_1 ∧ loop2 (m15_overflightref38_Cycles_B1 slots i_1 sf32) m out_2 first_1 = some x) (((slots.length : Int) - 0).toNat + 1) ⟨out_1, 0, Ae, Ce, k_g29, o_g29, _, rfl, ⟨Out.refl _ _, rfl, rfl, rfl, trivial⟩, Step.refl _ _, hs38, Fe, (show InK .i64 0 from by decide), hm⟩ ?_ ?_
 rintro _ _ ⟨_, _, _, _, _, _, _, _, _, _, _, _, _, hm⟩; exact loop2_z hm
 rintro m50 K49 hK49 ρ55 w51 ⟨out_2, first_1, Af, Cf, k_g44, o_g44, Ebs, hEbs, hfr54, hst53, hs52, Ff, Rd, hm⟩
 obtain ⟨sf47, hsf48, hm⟩ := loop2_s hm; unfold m15_overflightref38_Cycles_B1 at hm
 subst hEbs; rw [hfr54.eq]; clear hfr54
 replace Fc := Fc.step hst53; replace Fe := Fe.step hst53; replace ch42 := ch42.trans hst53
 have ch56 := hst53
 refine Wp_seq (Wp_seq ?_)
 clear Fe
 refine Wp_region ?_
 refine Rg_op rfl (op_move (v := (Value.int .i64 first_1)) rfl ?_)
 refine Rg_op rfl (op_move (v := (Value.int .i64 (slots.length : Int))) rfl ?_)
 refine Rg_op rfl (op_lss rfl rfl ?_)
 refine Rg_nil ?_
 refine Wp_cond rfl (fun hc57 => ?_) (fun hc57 => ?_)
 replace hm := bif_t hm hc57
 refine Wp_skip (Wp_seq (Wp_block (Wp_seq (Wp_region ?_))))
 refine Rg_op rfl (op_move (v := (Value.slice Ac slots.length Cc)) rfl ?_)
 refine Rg_op rfl (op_move (v := (Value.int .i64 first_1)) rfl ?_)
 replace hm := bd hm; obtain ⟨follow_1, hv58, hm⟩ := hm
 refine Rg_op rfl (op_call Try.call36 (g36_overflightref38_follow (slots := slots) (first := first_1) hs52.ltw Fc Rd hv58) rfl ?_)
 rintro _ w60 ⟨hx61, a64, c65, k66, o67, rfl, hk68, f69⟩
 obtain ⟨hs63, p70⟩ := hs52.callG (o := o67) hx61 hk68
 rw [← ks_cons (o := o67)] at f69
 replace Fc := Fc.step p70; replace Ff := Ff.step p70; replace ch42 := ch42.trans p70; replace ch56 := ch56.trans p70; clear p70 hs52
 refine Rg_op rfl (op_assign (v := (Value.slice a64 follow_1.length c65)) rfl ?_)
 refine Rg_nil (Wp_seq (Wp_region ?_))
 refine Rg_op rfl (op_move (v := (Value.slice Ac slots.length Cc)) rfl ?_)
 refine Rg_op rfl (op_move (v := (Value.int .i64 first_1)) rfl ?_)
 replace hm := ck_some hm; obtain ⟨hc72, hm⟩ := hm
 refine Rg_op rfl (op_indexAddr (q := (rInt .i64)) ty22 ty3 rfl rfl Fc rfl hc72.1 hc72.2 ?_)
 intro p73 f74
 refine Rg_op rfl (op_loadP ty3 rfl f74 rfl ?_)
 intro v75 h76
 obtain ⟨rfl, Re⟩ := un_int h76
 refine Rg_op rfl (op_move (v := (Value.int .i64 (slots.length : Int))) rfl ?_)
 refine Rg_op rfl (op_geq rfl rfl ?_)
 refine Rg_op rfl (op_assign (v := (Value.bool (decide ((slots.length : Int) ≤ (slots.getD first_1.toNat default))))) rfl ?_)
 refine Rg_nil ?_
 refine Wp_reset2 [9, 11, 12, 13, 14, 32, 33, 34, 35, 36, 37, 38, 39, 40, 41, 42, 43, 44, 45, 46, 47, 48, 49, 50, 51, 52, 53, 54, 55, 56, 57, 58, 59, 60, 61, 62, 63, 64, 65, 66, 67, 68, 69, 70, 71, 72, 73, 74, 75, 76, 77, 78, 79, 80, 81, 82] [] (updL (mix [9, 10, 11, 12, 13, 14, 27, 28, 29, 30, 31, 32, 33, 34, 35, 36, 37, 38, 39, 40, 41, 42, 43, 44, 45, 46, 47, 48, 49, 50, 51, 52, 53, 54, 55, 56, 57, 58, 59, 60, 61, 62, 63, 64, 65, 66, 67, 68, 69, 70, 71, 72, 73, 74, 75, 76, 77, 78, 79, 80, 81, 82] [] ξ46 (updL ⟨ξ31, []⟩ [(1, (Value.slice Ac slots.length Cc)), (8, (Value.int .i64 (slots.length : Int))), (9, (Value.slice (some ⟨b23, 0, none⟩) 0 0)), (10, (Value.int .i64 0))])) [(9, (Value.slice Ae out_1.length Ce)), (10, (Value.int .i64 i_1)), (11, (Value.int .i64 0))]) [(9, (Value.slice Af out_2.length Cf)), (11, (Value.int .i64 first_1)), (12, (Value.slice a64 follow_1.length c65)), (13, (Value.bool (decide ((slots.length : Int) ≤ (slots.getD first_1.toNat default)))))] (by repeat (first | with_reducible exact Out.refl _ _ | refine Out.upd ?_ rfl | refine Out.updL ?_ rfl | refine Out.mix' ?_ rfl | exact Out.refl _ _)) rfl ⟨rfl, rfl, rfl, rfl, trivial⟩ fun ξ78 => ?_
 replace hm := jn_elim hm; obtain ⟨k80, hk81, hm⟩ := hm
 refine Wp_seqJ [14, 46, 47, 48, 49, 50, 51, 52, 53, 54, 55, 56, 57, 58, 59, 60, 61, 62, 63, 64, 65, 66, 67, 68] (fun fr w' => ∃ (cycle_1 : Bool) (Ebs : Ents), Ebs = [(k66, o67), (k_g44, o_g44)] ∧ fr [] [(14, (Value.bool cycle_1))] ∧ Step (ks [(k66, o67), (k_g44, o_g44)] O) w60 (ks Ebs O) w' ∧ St ⟨w, [], []⟩ O w' Ebs ∧ k80 cycle_1 = some x) ?_ ?_
 rintro ρ87 w83 ⟨cycle_1, Ebs, hEbs, hfr86, hst85, hs84, hm⟩
 replace hm := jnE1 hk81 hm
 subst hEbs; rw [hfr86.eq]; clear hfr86
 replace Fc := Fc.step hst85; replace Ff := Ff.step hst85; replace f69 := f69.step hst85; replace f74 := f74.step hst85; replace ch42 := ch42.trans hst85; replace ch56 := ch56.trans hst85; clear hst85 hs63
 refine Wp_reset2 [9, 11, 12, 13, 14, 32, 33, 34, 35, 36, 37, 38, 39, 40, 41, 42, 43, 44, 45, 46, 47, 48, 49, 50, 51, 52, 53, 54, 55, 56, 57, 58, 59, 60, 61, 62, 63, 64, 65, 66, 67, 68, 69, 70, 71, 72, 73, 74, 75, 76, 77, 78, 79, 80, 81, 82] [] (updL (mix [9, 10, 11, 12, 13, 14, 27, 28, 29, 30, 31, 32, 33, 34, 35, 36, 37, 38, 39, 40, 41, 42, 43, 44, 45, 46, 47, 48, 49, 50, 51, 52, 53, 54, 55, 56, 57, 58, 59, 60, 61, 62, 63, 64, 65, 66, 67, 68, 69, 70, 71, 72, 73, 74, 75, 76, 77, 78, 79, 80, 81, 82] [] ξ46 (updL ⟨ξ31, []⟩ [(1, (Value.slice Ac slots.length Cc)), (8, (Value.int .i64 (slots.length : Int))), (9, (Value.slice (some ⟨b23, 0, none⟩) 0 0)), (10, (Value.int .i64 0))])) [(9, (Value.slice Ae out_1.length Ce)), (10, (Value.int .i64 i_1)), (11, (Value.int .i64 0))]) [(9, (Value.slice Af out_2.length Cf)), (11, (Value.int .i64 first_1)), (12, (Value.slice a64 follow_1.length c65)), (13, (Value.bool (decide ((slots.length : Int) ≤ (slots.getD first_1.toNat default))))), (14, (Value.bool cycle_1))] (by repeat (first | with_reducible exact Out.refl _ _ | refine Out.upd ?_ rfl | refine Out.updL ?_ rfl | refine Out.mix' ?_ rfl | exact Out.refl _ _)) rfl ⟨rfl, rfl, rfl, rfl, rfl, trivial⟩ fun ξ88 => ?_
 replace hm := jn_elim hm; obtain ⟨k90, hk91, hm⟩ := hm
 refine Wp_seqJ [69, 70, 71, 72, 73, 74, 75, 76, 77, 78] (fun fr w' => ∃ (v_1 : Bool) (Ebs : Ents), Ebs = [(k66, o67), (k_g44, o_g44)] ∧ fr [] [(78, (Value.bool v_1))] ∧ Step (ks [(k66, o67), (k_g44, o_g44)] O) w83 (ks Ebs O) w' ∧ St ⟨w, [], []⟩ O w' Ebs ∧ k90 v_1 = some x) ?_ ?_
 rintro ρ97 w93 ⟨v_1, Ebs, hEbs, hfr96, hst95, hs94, hm⟩
 replace hm := jnE1 hk91 hm
 subst hEbs; rw [hfr96.eq]; clear hfr96
 replace Fc := Fc.step hst95; replace Ff := Ff.step hst95; replace f69 := f69.step hst95; replace f74 := f74.step hst95; replace ch42 := ch42.trans hst95; replace ch56 := ch56.trans hst95; clear hst95 hs84
 refine Wp_cond rfl (fun hc98 => ?_) (fun hc98 => ?_)
 replace hm := bif_t hm hc98
 clear f74
 refine Wp_region ?_
 refine Rg_op rfl (op_move (v := (Value.slice Af out_2.length Cf)) rfl ?_)
 refine Rg_op rfl (op_move (v := (Value.slice a64 follow_1.length c65)) rfl ?_)
 obtain ⟨hs100, p101, f99⟩ := Gs.publish (i := 0) hs94 rfl f69
 replace Fc := Fc.step p101; replace Ff := Ff.step p101; replace ch42 := ch42.trans p101; replace ch56 := ch56.trans p101; clear p101 hs94
 refine Rg_op rfl (op_buildSlice (cs := [(Value.slice a64 follow_1.length c65)]) (parts := [(0, .tmp 80)]) ty23 ty22 hs100 (by decide) rfl ?_)
 intro b102 w103 hx106 p104 hs105
 replace Fc := Fc.step p104; replace Ff := Ff.step p104; replace f99 := f99.step p104; replace ch42 := ch42.trans p104; replace ch56 := ch56.trans p104; clear p104 hs100
 replace hm := ck_some hm; obtain ⟨hc108, hm⟩ := hm
 refine Rg_op rfl (op_append (q := (rSl (rInt .i64))) (i := 1) (xs := out_2) (ys := [follow_1]) (news := [(Value.slice a64 follow_1.length c65)]) ty23 ty22 rfl (by decide) hs105 rfl rfl Ff rfl (Src.owned' (len := 1) (hs105.get (i := 0) rfl) rfl) (show Els (rSl (rInt .i64)) _ _ [(Value.slice a64 follow_1.length c65)] [follow_1] from ⟨_, _, rfl, (mk_sl f99), Els.nil⟩) hc108 (by have := hc108; simp only [maxLen]; omega) ?_)
 intro a112 c113 k114 o115 w109 p110 hs111 f116
 replace Fc := Fc.step p110; replace f99 := f99.step p110; replace ch42 := ch42.trans p110; replace ch56 := ch56.trans p110; clear p110 hs105
 have hs117 := hs111.drop 0
 replace Fc := Fc.step (hs111.dropS 0)
 replace f99 := f99.step (hs111.dropS 0)
 replace f116 := f116.step (hs111.dropS 0)
 replace ch42 := ch42.trans (hs111.dropS 0)
 replace ch56 := ch56.trans (hs111.dropS 0); clear hs111
 refine Rg_op rfl (op_assign (v := (Value.slice a112 (out_2 ++ [follow_1]).length c113)) rfl ?_)
 refine Rg_nil ?_
 clear f99
 refine Wp_region ?_
 refine Rg_op rfl (op_move (v := (Value.int .i64 first_1)) rfl ?_)
 refine Rg_op rfl (op_addw rfl rfl ?_)
 refine Rg_op rfl (op_assign (v := (Value.int .i64 (IntKind.wrap .i64 (first_1 + 1)))) rfl ?_)
 refine Rg_nil ?_
 exact hK49 _ _ ⟨(out_2 ++ [follow_1]), (IntKind.wrap .i64 (first_1 + 1)), a112, c113, k114, o115, _, rfl, ⟨(by repeat (first | with_reducible exact Out.refl _ _ | refine Out.upd ?_ rfl | refine Out.updL ?_ rfl | refine Out.mix' ?_ rfl | exact Out.refl _ _)), rfl, rfl, rfl, trivial⟩, ch56, hs117, f116, (inK_wrap .i64 _), jnE2 hsf48 hm⟩
 replace hm := bif_f hm hc98
 refine Wp_skip ?_
 clear f69 f74
 refine Wp_region ?_
 refine Rg_op rfl (op_move (v := (Value.int .i64 first_1)) rfl ?_)
 refine Rg_op rfl (op_addw rfl rfl ?_)
 refine Rg_op rfl (op_assign (v := (Value.int .i64 (IntKind.wrap .i64 (first_1 + 1)))) rfl ?_)
 refine Rg_nil ?_
 have hs118 := hs94.drop 0
 replace Fc := Fc.step (hs94.dropS 0)
 replace Ff := Ff.step (hs94.dropS 0)
 replace ch42 := ch42.trans (hs94.dropS 0)
 replace ch56 := ch56.trans (hs94.dropS 0); clear hs94
 exact hK49 _ _ ⟨out_2, (IntKind.wrap .i64 (first_1 + 1)), Af, Cf, k_g44, o_g44, _, rfl, ⟨(by repeat (first | with_reducible exact Out.refl _ _ | refine Out.upd ?_ rfl | refine Out.updL ?_ rfl | refine Out.mix' ?_ rfl | exact Out.refl _ _)), rfl, rfl, rfl, trivial⟩, ch56, hs118, Ff, (inK_wrap .i64 _), jnE2 hsf48 hm⟩
 intro K92 hK92
 have ch119 := Step.refl (ks [(k66, o67), (k_g44, o_g44)] O) w83
 clear f74
 refine Wp_region ?_
 refine Rg_op rfl (op_move (v := (Value.slice a64 follow_1.length c65)) rfl ?_)
 obtain ⟨hs120, p121, f122⟩ := Gs.publish (i := 0) hs84 rfl f69
 replace hm := bd hm; obtain ⟨least_1, hv123, hm⟩ := hm
 refine Rg_op rfl (op_call Try.call37 (c37_overflightref38_least (l := follow_1) hs120.ltw f122 hv123) rfl ?_)
 rintro v124 w125 ⟨hx126, h127⟩
 have hs128 := hs84.call hx126
 have p129 := Step.ext (O := ks [(k66, o67), (k_g44, o_g44)] O) hx126
 clear hx126
 replace Fc := Fc.step p129; replace Ff := Ff.step p129; replace f69 := f69.step p129; replace ch42 := ch42.trans p129; replace ch56 := ch56.trans p129; replace ch119 := ch119.trans p129; clear p129 hs84
 obtain ⟨rfl, Rf⟩ := h127
 refine Rg_op rfl (op_move (v := (Value.int .i64 i_1)) rfl ?_)
 refine Rg_op rfl (op_eql rfl rfl ?_)
 refine Rg_op rfl (op_move (v := (Value.bool (decide (least_1 = i_1)))) rfl ?_)
 refine Rg_case (fun hg131 => ?_) (fun hg131 => ?_)
 replace hm := bif_t hm hg131
 refine Rg_opg rfl rfl rfl (op_move (v := (Value.bool (decide ((slots.length : Int) ≤ (slots.getD first_1.toNat default))))) rfl ?_)
 refine Rg_opg rfl rfl rfl (op_move (v := (Value.bool (decide ((slots.length : Int) ≤ (slots.getD first_1.toNat default))))) rfl ?_)
 refine Rg_case (fun hg132 => ?_) (fun hg132 => ?_)
 replace hm := bif_t hm hg132
 refine Rg_opx rfl (asB_ne rfl rfl) rfl ?_
 refine Rg_opg rfl rfl rfl (op_pick_t (v := (Value.bool true)) rfl rfl ?_)
 refine Rg_op rfl (op_pick_t (v := (Value.bool true)) rfl rfl ?_)
 refine Rg_nil ?_
 exact hK92 _ _ ⟨true, _, rfl, ⟨(by repeat (first | with_reducible exact Out.refl _ _ | refine Out.upd ?_ rfl | refine Out.updL ?_ rfl | refine Out.mix' ?_ rfl | exact Out.refl _ _)), rfl, rfl, trivial⟩, ch119, hs128, hm⟩
 replace hm := bif_f hm hg132
 refine Rg_opg rfl rfl rfl (op_move (v := (Value.bool cycle_1)) rfl ?_)
 refine Rg_opg rfl rfl rfl (op_pick_f (v := (Value.bool cycle_1)) rfl rfl ?_)
 refine Rg_op rfl (op_pick_t (v := (Value.bool cycle_1)) rfl rfl ?_)
 refine Rg_nil ?_
 exact hK92 _ _ ⟨cycle_1, _, rfl, ⟨(by repeat (first | with_reducible exact Out.refl _ _ | refine Out.upd ?_ rfl | refine Out.updL ?_ rfl | refine Out.mix' ?_ rfl | exact Out.refl _ _)), rfl, rfl, trivial⟩, ch119, hs128, hm⟩
 replace hm := bif_f hm hg131
 iterate 4 refine Rg_opx rfl (asB_ne rfl rfl) rfl ?_
 refine Rg_op rfl (op_pick_f (v := (Value.bool false)) rfl rfl ?_)
 refine Rg_nil ?_
 exact hK92 _ _ ⟨false, _, rfl, ⟨(by repeat (first | with_reducible exact Out.refl _ _ | refine Out.upd ?_ rfl | refine Out.updL ?_ rfl | refine Out.mix' ?_ rfl | exact Out.refl _ _)), rfl, rfl, trivial⟩, ch119, hs128, hm⟩
 intro K82 hK82
 have ch133 := Step.refl (ks [(k66, o67), (k_g44, o_g44)] O) w60
 clear f74
 refine Wp_drawR (g0 := []) (m := 16) (fl := []) (TS_inv hs63) rfl (.inl rfl) rfl (by decide +kernel) ?_  -- 14
 refine Dw_eq (Value.slice Ac slots.length Cc) (fun ρ134 w135 g hle hi ht => ?_) ?_
 obtain ⟨-, hst, -⟩ := hle
 refine StepOp_plain (op_move (v := (Value.slice Ac slots.length Cc)) (ht 1 rfl) ?_)
 exact Goes.same hi rfl
 refine Dw_eq (Value.slice a64 follow_1.length c65) (fun ρ137 w138 g hle hi ht => ?_) ?_
 obtain ⟨-, hst, -⟩ := hle
 refine StepOp_plain (op_move (v := (Value.slice a64 follow_1.length c65)) (ht 12 rfl) ?_)
 exact Goes.same hi rfl
 replace hm := ck_some hm; obtain ⟨hc143, hm⟩ := hm
 obtain ⟨b144, rfl, rfl⟩ := f69.at_ (by omega)
 refine Dw_eq (Value.pointer (some ⟨b144, 0 * 1, none⟩)) (fun ρ140 w141 g hle hi ht => ?_) ?_
 obtain ⟨-, hst, -⟩ := hle
 replace f69 := f69.step hst
 refine StepOp_plain (op_indexAddrG ty22 ty3 (ht 47 rfl) rfl f69 hc143 ?_)
 rintro _ ⟨⟩ -
 exact Goes.same hi rfl
 refine Dw_op (VD O [(some b144, o67), (k_g44, o_g44)] (vI .i64) (follow_1.getD 0 default)) (VD.stab _ _) (fun ρ145 w146 g hle hi ht => ?_) ?_
 obtain ⟨-, hst, -⟩ := hle
 replace f69 := f69.step hst
 have hsn := (Step.nx hi).1
 refine StepOp_plain (op_loadG (m := 0) (i := 0) ty3 rfl hsn rfl (ht 48 rfl) f69 hc143 ?_)
 intro v148 h149
 obtain ⟨rfl, Rg⟩ := un_int h149
 exact Goes.same hi (show Vr.vd (vI .i64) _ _ _ _ from ⟨rfl, Rg⟩)
 replace hm := ck_some hm; obtain ⟨hc157, hm⟩ := hm
 refine Dw_op (VP O [(some b144, o67), (k_g44, o_g44)] (rInt .i64) (slots.getD (follow_1.getD 0 default).toNat default)) (VP.stab _ _) (fun ρ151 w152 g hle hi ht => ?_) ?_
 obtain ⟨-, hst, -⟩ := hle
 replace Fc := Fc.step hst
 have h154 : Vr.vd (vI .i64) _ _ _ _ := ht 49 rfl
 obtain ⟨q155, Rh⟩ := h154
 refine StepOp_plain (op_indexAddr (q := (rInt .i64)) ty22 ty3 (ht 46 rfl) q155 Fc rfl hc157.1 hc157.2 ?_)
 intro p158 f159
 exact Goes.same hi ⟨_, rfl, f159⟩
 refine Dw_op (VD O [(some b144, o67), (k_g44, o_g44)] (vI .i64) (slots.getD (follow_1.getD 0 default).toNat default)) (VD.stab _ _) (fun ρ160 w161 g hle hi ht => ?_) ?_
 obtain ⟨-, hst, -⟩ := hle
 obtain ⟨p163, q164, f165⟩ := ht 50 rfl
 refine StepOp_plain (op_loadP ty3 q164 f165 rfl ?_)
 intro v166 h167
 obtain ⟨rfl, Ri⟩ := un_int h167
 exact Goes.same hi (show Vr.vd (vI .i64) _ _ _ _ from ⟨rfl, Ri⟩)
 refine Dw_eq (Value.slice (some ⟨b144, 0, none⟩) follow_1.length c65) (fun ρ169 w170 g hle hi ht => ?_) ?_
 obtain ⟨-, hst, -⟩ := hle
 refine StepOp_plain (op_move (v := (Value.slice (some ⟨b144, 0, none⟩) follow_1.length c65)) (ht 12 rfl) ?_)
 exact Goes.same hi rfl
 refine Dw_eq (Value.slice (some ⟨b144, 0, none⟩) follow_1.length c65) (fun ρ172 w173 g hle hi ht => ?_) ?_
 obtain ⟨-, hst, -⟩ := hle
 refine StepOp_plain (op_move (v := (Value.slice (some ⟨b144, 0, none⟩) follow_1.length c65)) (ht 12 rfl) ?_)
 exact Goes.same hi rfl
 refine Dw_eq (Value.int .i64 (follow_1.length : Int)) (fun ρ175 w176 g hle hi ht => ?_) ?_
 obtain ⟨-, hst, -⟩ := hle
 refine StepOp_plain (op_len Try.underlying22 (ht 53 rfl) ?_)
 exact Goes.same hi rfl
 refine Dw_eq (Value.int .i64 (IntKind.wrap .i64 ((follow_1.length : Int) - 1))) (fun ρ178 w179 g hle hi ht => ?_) ?_
 obtain ⟨-, hst, -⟩ := hle
 refine StepOp_plain (op_subw (ht 54 rfl) rfl ?_)
 exact Goes.same hi rfl
 replace hm := ck_some hm; obtain ⟨hc184, hm⟩ := hm
 refine Dw_eq (Value.pointer (some ⟨b144, (IntKind.wrap .i64 ((follow_1.length : Int) - 1)).toNat * 1, none⟩)) (fun ρ181 w182 g hle hi ht => ?_) ?_
 obtain ⟨-, hst, -⟩ := hle
 replace f69 := f69.step hst
 refine StepOp_plain (op_indexAddrG ty22 ty3 (ht 52 rfl) (ht 55 rfl) f69 hc184 ?_)
 rintro _ ⟨⟩ -
 exact Goes.same hi rfl
 refine Dw_op (VD O [(some b144, o67), (k_g44, o_g44)] (vI .i64) (follow_1.getD (IntKind.wrap .i64 ((follow_1.length : Int) - 1)).toNat default)) (VD.stab _ _) (fun ρ186 w187 g hle hi ht => ?_) ?_
 obtain ⟨-, hst, -⟩ := hle
 replace f69 := f69.step hst
 have hsn := (Step.nx hi).1
 refine StepOp_plain (op_loadG (m := (IntKind.wrap .i64 ((follow_1.length : Int) - 1))) (i := 0) ty3 rfl hsn rfl (ht 56 rfl) f69 hc184 ?_)
 intro v189 h190
 obtain ⟨rfl, Rj⟩ := un_int h190
 exact Goes.same hi (show Vr.vd (vI .i64) _ _ _ _ from ⟨rfl, Rj⟩)
 refine Dw_eq (Value.bool (decide ((slots.getD (follow_1.getD 0 default).toNat default) = (follow_1.getD (IntKind.wrap .i64 ((follow_1.length : Int) - 1)).toNat default)))) (fun ρ192 w193 g hle hi ht => ?_) ?_
 obtain ⟨-, hst, -⟩ := hle
 have h195 : Vr.vd (vI .i64) _ _ _ _ := ht 57 rfl
 obtain ⟨q196, Rk⟩ := h195
 have h198 : Vr.vd (vI .i64) _ _ _ _ := ht 51 rfl
 obtain ⟨q199, Rl⟩ := h198
 refine StepOp_plain (op_eql q199 q196 ?_)
 exact Goes.same hi rfl
 refine Dw_opB (decide ((slots.getD (follow_1.getD 0 default).toNat default) = (follow_1.getD (IntKind.wrap .i64 ((follow_1.length : Int) - 1)).toNat default))) (fun ρ201 w202 g hle hi ht => ?_) (fun hg204 => ?_) (fun hg204 => ?_)
 obtain ⟨-, hst, -⟩ := hle
 refine StepOp_plain (op_move (v := (Value.bool (decide ((slots.getD (follow_1.getD 0 default).toNat default) = (follow_1.getD (IntKind.wrap .i64 ((follow_1.length : Int) - 1)).toNat default))))) (ht 58 rfl) ?_)
 exact Goes.same hi rfl
 replace hm := bif_t hm hg204
 refine Dw_eq (Value.int .i64 first_1) (fun ρ205 w206 g hle hi ht => ?_) ?_
 obtain ⟨-, hst, -⟩ := hle
 refine StepOp_g rfl (ht 59 rfl) (op_move (v := (Value.int .i64 first_1)) (ht 11 rfl) ?_)
 exact Goes.same hi rfl
 refine Dw_eq (Value.int .i64 i_1) (fun ρ208 w209 g hle hi ht => ?_) ?_
 obtain ⟨-, hst, -⟩ := hle
 refine StepOp_g rfl (ht 59 rfl) (op_move (v := (Value.int .i64 i_1)) (ht 10 rfl) ?_)
 exact Goes.same hi rfl
 refine Dw_nil fun w215 g216 hl217 hi218 => ?_
 obtain ⟨-, hst219, -⟩ := hl217
 obtain ⟨hs221, p220⟩ := Step.nx hi218
 rintro _ rfl
 rintro _ rfl
 rintro _ rfl
 rintro _ rfl
 rintro v222 h223
 replace h223 : Vr.vd (vI .i64) _ _ _ _ := h223
 obtain ⟨rfl, Rm⟩ := h223
 rintro _ rfl
 rintro _ rfl
 rintro _ rfl
 rintro _ rfl
 rintro _ rfl
 rintro v225 h226
 replace h226 : Vr.vd (vI .i64) _ _ _ _ := h226
 obtain ⟨rfl, Rn⟩ := h226
 rintro _ ⟨p228, rfl, f229⟩
 rintro v230 h231
 replace h231 : Vr.vd (vI .i64) _ _ _ _ := h231
 obtain ⟨rfl, Ro⟩ := h231
 rintro _ rfl
 rintro _ rfl
 rintro _ rfl
 have p233 : Step (ks [(some b144, o67), (k_g44, o_g44)] O) w60 (ks [(some b144, o67), (k_g44, o_g44)] O) w215 := hst219.trans p220
 replace f229 := f229.step p220; replace Fc := Fc.step p233; replace Ff := Ff.step p233; replace f69 := f69.step p233; replace ch42 := ch42.trans p233; replace ch56 := ch56.trans p233; replace ch133 := ch133.trans p233; clear p233 hs63
 refine Rg_opg rfl rfl rfl (op_eql rfl rfl ?_)
 refine Rg_op rfl (op_pick_t (v := (Value.bool (decide (first_1 = i_1)))) rfl rfl ?_)
 refine Rg_op rfl (op_move (v := (Value.bool (decide (first_1 = i_1)))) rfl ?_)
 refine Rg_case (fun hg234 => ?_) (fun hg234 => ?_)
 replace hm := bif_t hm hg234
 refine Rg_opg rfl rfl rfl (op_move (v := (Value.slice (some ⟨b144, 0, none⟩) follow_1.length c65)) rfl ?_)
 refine Rg_opg rfl rfl rfl (op_len Try.underlying22 rfl ?_)
 have rl235 := inK_lenG f69
 refine Rg_opg rfl rfl rfl (op_gtr rfl rfl ?_)
 refine Rg_op rfl (op_pick_t (v := (Value.bool (decide (1 < (follow_1.length : Int))))) rfl rfl ?_)
 refine Rg_op rfl (op_assign (v := (Value.bool (decide (1 < (follow_1.length : Int))))) rfl ?_)
 refine Rg_nil ?_
 exact hK82 _ _ ⟨(decide (1 < (follow_1.length : Int))), _, rfl, ⟨(by repeat (first | with_reducible exact Out.refl _ _ | refine Out.upd ?_ rfl | refine Out.updL ?_ rfl | refine Out.mix' ?_ rfl | exact Out.refl _ _)), rfl, rfl, trivial⟩, ch133, hs221, hm⟩
 replace hm := bif_f hm hg234
 iterate 3 refine Rg_opx rfl (asB_ne rfl rfl) rfl ?_
 refine Rg_op rfl (op_pick_f (v := (Value.bool false)) rfl rfl ?_)
 refine Rg_op rfl (op_assign (v := (Value.bool false)) rfl ?_)
 refine Rg_nil ?_
 exact hK82 _ _ ⟨false, _, rfl, ⟨(by repeat (first | with_reducible exact Out.refl _ _ | refine Out.upd ?_ rfl | refine Out.updL ?_ rfl | refine Out.mix' ?_ rfl | exact Out.refl _ _)), rfl, rfl, trivial⟩, ch133, hs221, hm⟩
 replace hm := bif_f hm hg204
 refine Dw_skip (fun _ _ _ ht => wanted_x rfl (ht 59 rfl) rfl) ?_
 refine Dw_skip (fun _ _ _ ht => wanted_x rfl (ht 59 rfl) rfl) ?_
 refine Dw_nil fun w240 g241 hl242 hi243 => ?_
 obtain ⟨-, hst244, -⟩ := hl242
 obtain ⟨hs246, p245⟩ := Step.nx hi243
 rintro _ rfl
 rintro _ rfl
 rintro _ rfl
 rintro _ rfl
 rintro v247 h248
 replace h248 : Vr.vd (vI .i64) _ _ _ _ := h248
 obtain ⟨rfl, Rp⟩ := h248
 rintro _ rfl
 rintro _ rfl
 rintro _ rfl
 rintro _ rfl
 rintro _ rfl
 rintro v250 h251
 replace h251 : Vr.vd (vI .i64) _ _ _ _ := h251
 obtain ⟨rfl, Rq⟩ := h251
 rintro _ ⟨p253, rfl, f254⟩
 rintro v255 h256
 replace h256 : Vr.vd (vI .i64) _ _ _ _ := h256
 obtain ⟨rfl, Rr⟩ := h256
 rintro _ rfl
 rintro _ rfl
 rintro _ rfl
 have p258 : Step (ks [(some b144, o67), (k_g44, o_g44)] O) w60 (ks [(some b144, o67), (k_g44, o_g44)] O) w240 := hst244.trans p245
 replace f254 := f254.step p245; replace Fc := Fc.step p258; replace Ff := Ff.step p258; replace f69 := f69.step p258; replace ch42 := ch42.trans p258; replace ch56 := ch56.trans p258; replace ch133 := ch133.trans p258; clear p258 hs63
 refine Rg_opx rfl (asB_ne rfl rfl) rfl ?_
 refine Rg_op rfl (op_pick_f (v := (Value.bool false)) rfl rfl ?_)
 refine Rg_op rfl (op_move (v := (Value.bool false)) rfl ?_)
 iterate 3 refine Rg_opx rfl (asB_ne rfl rfl) rfl ?_
 refine Rg_op rfl (op_pick_f (v := (Value.bool false)) rfl rfl ?_)
 refine Rg_op rfl (op_assign (v := (Value.bool false)) rfl ?_)
 refine Rg_nil ?_
 exact hK82 _ _ ⟨false, _, rfl, ⟨(by repeat (first | with_reducible exact Out.refl _ _ | refine Out.upd ?_ rfl | refine Out.updL ?_ rfl | refine Out.mix' ?_ rfl | exact Out.refl _ _)), rfl, rfl, trivial⟩, ch133, hs246, hm⟩
 replace hm := bif_f hm hc57
 refine Wp_exit (Wp_region ?_)
 refine Rg_op rfl (op_move (v := (Value.int .i64 i_1)) rfl ?_)
 refine Rg_op rfl (op_addw rfl rfl ?_)
 refine Rg_op rfl (op_assign (v := (Value.int .i64 (IntKind.wrap .i64 (i_1 + 1)))) rfl ?_)
 refine Rg_nil ?_
 exact hK34 _ _ ⟨out_2, (IntKind.wrap .i64 (i_1 + 1)), Af, Cf, k_g44, o_g44, _, rfl, ⟨(by repeat (first | with_reducible exact Out.refl _ _ | refine Out.upd ?_ rfl | refine Out.updL ?_ rfl | refine Out.mix' ?_ rfl | exact Out.refl _ _)), rfl, rfl, rfl, trivial⟩, ch42, hs52, Ff, (inK_wrap .i64 _), jnE2 hsf33 hm⟩
 replace hm := bif_f hm hc43
 refine Wp_exit (Wp_seq ?_)
 clear Fc
 refine Wp_region ?_
 refine Rg_op rfl (op_move (v := (Value.slice Ae out_1.length Ce)) rfl ?_)
 refine Rg_op rfl (op_assign (v := (Value.slice Ae out_1.length Ce)) rfl ?_)
 refine Rg_op rfl (op_assign (v := (Value.int .i64 0)) rfl ?_)
 refine Rg_nil ?_
 refine Wp_ret ?_
 obtain ⟨hs260, p261, f259⟩ := Gs.publish (i := 0) hs38 rfl Fe
 replace ch42 := ch42.trans p261; clear p261 hs38
 have hz := step_all hs260
 replace f259 := f259.step hz
 refine ⟨_, (show Closes [] _ _ from rfl), [(Value.slice Ae out_1.length Ce), (Value.int .i64 0)], ⟨rfl, rfl, trivial⟩, hs260.ext, ?_⟩
 exact Vr.eq (a := (vT2 (vC (rSl (rSl (rInt .i64)))) (vI .i64))) (x := (out_1, 0)) (mkT2 (mkC (mk_sl f259)) ⟨rfl, (show InK .i64 0 from by decide)⟩) (Option.some.inj hm)

def m3_overflightlaw38_ClearingCyclesSpec (r_ : XRound) (slots : List Int) : Option Bool :=
 (m10_overflightlaw38_sane).bind fun sane_1 =>
 bif (!sane_1) then
  some false
 else
  jn (fun (v_1 : Bool) =>
   bif v_1 then
    some true
   else
    (m12_clearing_Value r_ slots).bind fun value_1 =>
    (m13_overflightref38_Value r_ slots).bind fun value_2 =>
    (m14_clearing_Cycles r_ slots).bind fun cycles_1 =>
    (m15_overflightref38_Cycles r_ slots).bind fun cycles_2 =>
    jn (fun (v_2 : Bool) =>
     some v_2)
    (fun k85 =>
     (m16_overflightref37_SameInts value_1.1 value_2.1).bind fun sameints_1 =>
     bif sameints_1 then
      bif (decide (value_1.2 = value_2.2)) then
       (m17_overflightref38_SameLists cycles_1.1 cycles_2.1).bind fun samelists_1 =>
       bif samelists_1 then
        k85 (decide (cycles_1.2 = cycles_2.2))
       else
        k85 false
      else
       k85 false
     else
      k85 false))
  (fun k19 =>
   (m11_overflightref38_Few r_).bind fun few_1 =>
   bif (!few_1) then
    k19 true
   else
    k19 (decide (20 < (slots.length : Int))))

theorem c3_overflightlaw38_ClearingCyclesSpec {w : World} {O : List Nat} {r_ : XRound} {slots : List Int} {Aa : Option Addr} {Ca : Nat} {Ab : Option Addr} {Cb : Nat} {Ac : Option Addr} {Cc : Nat} (hO : ∀ k ∈ O, k < w.heap.size) (Ra : InK .i64 r_.slots) (Fa : SlR (rInt .i64) w O Aa Ca r_.owners) (Fb : SlR (rSl (rInt .i64)) w O Ab Cb r_.costs) (Fc : SlR (rInt .i64) w O Ac Cc slots) {x : Bool} (hm : m3_overflightlaw38_ClearingCyclesSpec r_ slots = some x) :
 Ok Try.prog 3 [(Value.agg [(Value.int .i64 r_.slots), (Value.slice Aa r_.owners.length Ca), (Value.slice Ab r_.costs.length Cb)].toArray), (Value.slice Ac slots.length Cc)] w O vB x := by
 unfold m3_overflightlaw38_ClearingCyclesSpec at hm
 refine Fn_of_Wp (n := 65) (xs := [.tmp 4]) Try.func3 rfl Try.ntmps3 Try.results3 rfl ?_
 have hs := St.start hO
 refine Wp_seq (Wp_region ?_)
 refine Rg_op rfl (op_box (cs := [(Value.int .i64 r_.slots), (Value.slice Aa r_.owners.length Ca), (Value.slice Ab r_.costs.length Cb)]) hs rfl rfl ?_)
 intro b1 w2 _ p3 hs4
 replace Fa := Fa.step p3; replace Fb := Fb.step p3; replace Fc := Fc.step p3; clear p3
 refine Rg_op rfl (op_assign (v := (Value.bool false)) rfl ?_)
 refine Rg_nil (Wp_seq (Wp_seq (Wp_region ?_)))
 replace hm := bd hm; obtain ⟨sane_1, hv6, hm⟩ := hm
 refine Rg_op rfl (op_call Try.call10 (c10_overflightlaw38_sane  hs4.ltw  hv6) rfl ?_)
 rintro v7 w8 ⟨hx9, h10⟩
 have hs11 := hs4.call hx9
 have p12 := Step.ext (O := ks [(some b1, Obj.cells [(Value.int .i64 r_.slots), (Value.slice Aa r_.owners.length Ca), (Value.slice Ab r_.costs.length Cb)].toArray 25)] O) hx9
 clear hx9
 replace Fa := Fa.step p12; replace Fb := Fb.step p12; replace Fc := Fc.step p12; clear p12 hs4
 obtain rfl := h10
 refine Rg_op rfl (op_not rfl ?_)
 refine Rg_nil ?_
 refine Wp_cond rfl (fun hc14 => ?_) (fun hc14 => ?_)
 replace hm := bif_t hm hc14
 refine Wp_seq ?_
 obtain ⟨hs15, p16⟩ := hs11.sub (bs' := []) (.cons _ List.Sublist.slnil)
 clear Fa Fb Fc
 clear p16 hs11
 refine Wp_region ?_
 refine Rg_op rfl (op_assign (v := (Value.bool false)) rfl ?_)
 refine Rg_nil ?_
 refine Wp_ret ?_
 have hz := step_all hs15
 refine ⟨_, (show Closes [] _ _ from rfl), [(Value.bool false)], ⟨rfl, trivial⟩, hs15.ext, ?_⟩
 exact Vr.eq (a := vB) (x := false) rfl (Option.some.inj hm)
 replace hm := bif_f hm hc14
 refine Wp_skip (Wp_seq ?_)
 refine Wp_reset [] [(1, (Value.slice Ac slots.length Cc)), (2, (Value.pointer (some ⟨b1, 0, none⟩)))] rfl ⟨rfl, rfl, trivial⟩ fun ξ17 => ?_
 replace hm := jn_elim hm; obtain ⟨k19, hk20, hm⟩ := hm
 refine Wp_seqJ [15, 16, 17, 18, 19, 20, 21, 22] (fun fr w' => ∃ (v_1 : Bool) (Ebs : Ents), Ebs = [(some b1, Obj.cells [(Value.int .i64 r_.slots), (Value.slice Aa r_.owners.length Ca), (Value.slice Ab r_.costs.length Cb)].toArray 25)] ∧ fr [] [(22, (Value.bool v_1))] ∧ Step (ks [(some b1, Obj.cells [(Value.int .i64 r_.slots), (Value.slice Aa r_.owners.length Ca), (Value.slice Ab r_.costs.length Cb)].toArray 25)] O) w8 (ks Ebs O) w' ∧ St ⟨w, [], []⟩ O w' Ebs ∧ k19 v_1 = some x) ?_ ?_
 rintro ρ26 w22 ⟨v_1, Ebs, hEbs, hfr25, hst24, hs23, hm⟩
 replace hm := jnE1 hk20 hm
 subst hEbs; rw [hfr25.eq]; clear hfr25
 replace Fa := Fa.step hst24; replace Fb := Fb.step hst24; replace Fc := Fc.step hst24; clear hst24 hs11
 refine Wp_cond rfl (fun hc27 => ?_) (fun hc27 => ?_)
 replace hm := bif_t hm hc27
 refine Wp_seq ?_
 obtain ⟨hs28, p29⟩ := hs23.sub (bs' := []) (.cons _ List.Sublist.slnil)
 clear Fa Fb Fc
 clear p29 hs23
 refine Wp_region ?_
 refine Rg_op rfl (op_assign (v := (Value.bool true)) rfl ?_)
 refine Rg_nil ?_
 refine Wp_ret ?_
 have hz := step_all hs28
 refine ⟨_, (show Closes [] _ _ from rfl), [(Value.bool true)], ⟨rfl, trivial⟩, hs28.ext, ?_⟩
 exact Vr.eq (a := vB) (x := true) rfl (Option.some.inj hm)
 replace hm := bif_f hm hc27
 refine Wp_skip (Wp_seq (Wp_region ?_))
 refine Rg_op rfl (op_loadA (cs := [(Value.int .i64 r_.slots), (Value.slice Aa r_.owners.length Ca), (Value.slice Ab r_.costs.length Cb)]) (vs := [(Value.int .i64 r_.slots), (Value.slice Aa r_.owners.length Ca), (Value.slice Ab r_.costs.length Cb)]) (i := 0) ty25 hs23 rfl rfl rfl rfl ?_)
 refine Rg_op rfl (op_move (v := (Value.slice Ac slots.length Cc)) rfl ?_)
 replace hm := bd hm; obtain ⟨value_1, hv30, hm⟩ := hm
 refine Rg_op rfl (op_call Try.call12 (c12_clearing_Value (r_ := r_) (slots := slots) hs23.ltw Ra Fa Fb Fc hv30) rfl ?_)
 rintro v31 w32 ⟨hx33, h34⟩
 have hs35 := hs23.call hx33
 have p36 := Step.ext (O := ks [(some b1, Obj.cells [(Value.int .i64 r_.slots), (Value.slice Aa r_.owners.length Ca), (Value.slice Ab r_.costs.length Cb)].toArray 25)] O) hx33
 clear hx33
 replace Fa := Fa.step p36; replace Fb := Fb.step p36; replace Fc := Fc.step p36; clear p36 hs23
 obtain ⟨v37, v38, rfl, h39, h40⟩ := h34
 obtain ⟨Ad, Cd, rfl, Fd⟩ := un_sl h39
 obtain ⟨rfl, Rb⟩ := h40
 refine Rg_op rfl (op_move (v := (Value.tuple [(Value.slice Ad value_1.1.length Cd), (Value.int .i64 value_1.2)].toArray)) rfl ?_)
 refine Rg_op rfl (op_extract (v := (Value.slice Ad value_1.1.length Cd)) rfl rfl ?_)
 refine Rg_op rfl (op_extract (v := (Value.int .i64 value_1.2)) rfl rfl ?_)
 refine Rg_op rfl (op_assign (v := (Value.slice Ad value_1.1.length Cd)) rfl ?_)
 refine Rg_op rfl (op_assign (v := (Value.int .i64 value_1.2)) rfl ?_)
 refine Rg_nil (Wp_seq (Wp_region ?_))
 refine Rg_op rfl (op_loadA (cs := [(Value.int .i64 r_.slots), (Value.slice Aa r_.owners.length Ca), (Value.slice Ab r_.costs.length Cb)]) (vs := [(Value.int .i64 r_.slots), (Value.slice Aa r_.owners.length Ca), (Value.slice Ab r_.costs.length Cb)]) (i := 0) ty25 hs35 rfl rfl rfl rfl ?_)
 refine Rg_op rfl (op_move (v := (Value.slice Ac slots.length Cc)) rfl ?_)
 replace hm := bd hm; obtain ⟨value_2, hv43, hm⟩ := hm
 refine Rg_op rfl (op_call Try.call13 (c13_overflightref38_Value (r_ := r_) (slots := slots) hs35.ltw Ra Fa Fb Fc hv43) rfl ?_)
 rintro v44 w45 ⟨hx46, h47⟩
 have hs48 := hs35.call hx46
 have p49 := Step.ext (O := ks [(some b1, Obj.cells [(Value.int .i64 r_.slots), (Value.slice Aa r_.owners.length Ca), (Value.slice Ab r_.costs.length Cb)].toArray 25)] O) hx46
 clear hx46
 replace Fa := Fa.step p49; replace Fb := Fb.step p49; replace Fc := Fc.step p49; replace Fd := Fd.step p49; clear p49 hs35
 obtain ⟨v50, v51, rfl, h52, h53⟩ := h47
 obtain ⟨Ae, Ce, rfl, Fe⟩ := un_sl h52
 obtain ⟨rfl, Rc⟩ := h53
 refine Rg_op rfl (op_move (v := (Value.tuple [(Value.slice Ae value_2.1.length Ce), (Value.int .i64 value_2.2)].toArray)) rfl ?_)
 refine Rg_op rfl (op_extract (v := (Value.slice Ae value_2.1.length Ce)) rfl rfl ?_)
 refine Rg_op rfl (op_extract (v := (Value.int .i64 value_2.2)) rfl rfl ?_)
 refine Rg_op rfl (op_assign (v := (Value.slice Ae value_2.1.length Ce)) rfl ?_)
 refine Rg_op rfl (op_assign (v := (Value.int .i64 value_2.2)) rfl ?_)
 refine Rg_nil (Wp_seq (Wp_region ?_))
 refine Rg_op rfl (op_loadA (cs := [(Value.int .i64 r_.slots), (Value.slice Aa r_.owners.length Ca), (Value.slice Ab r_.costs.length Cb)]) (vs := [(Value.int .i64 r_.slots), (Value.slice Aa r_.owners.length Ca), (Value.slice Ab r_.costs.length Cb)]) (i := 0) ty25 hs48 rfl rfl rfl rfl ?_)
 refine Rg_op rfl (op_move (v := (Value.slice Ac slots.length Cc)) rfl ?_)
 replace hm := bd hm; obtain ⟨cycles_1, hv56, hm⟩ := hm
 refine Rg_op rfl (op_call Try.call14 (c14_clearing_Cycles (r_ := r_) (slots := slots) hs48.ltw Ra Fa Fb Fc hv56) rfl ?_)
 rintro v57 w58 ⟨hx59, h60⟩
 have hs61 := hs48.call hx59
 have p62 := Step.ext (O := ks [(some b1, Obj.cells [(Value.int .i64 r_.slots), (Value.slice Aa r_.owners.length Ca), (Value.slice Ab r_.costs.length Cb)].toArray 25)] O) hx59
 clear hx59
 replace Fa := Fa.step p62; replace Fb := Fb.step p62; replace Fc := Fc.step p62; replace Fd := Fd.step p62; replace Fe := Fe.step p62; clear p62 hs48
 obtain ⟨v63, v64, rfl, h65, h66⟩ := h60
 obtain ⟨Af, Cf, rfl, Ff⟩ := un_sl h65
 obtain ⟨rfl, Rd⟩ := h66
 refine Rg_op rfl (op_move (v := (Value.tuple [(Value.slice Af cycles_1.1.length Cf), (Value.int .i64 cycles_1.2)].toArray)) rfl ?_)
 refine Rg_op rfl (op_extract (v := (Value.slice Af cycles_1.1.length Cf)) rfl rfl ?_)
 refine Rg_op rfl (op_extract (v := (Value.int .i64 cycles_1.2)) rfl rfl ?_)
 refine Rg_op rfl (op_assign (v := (Value.slice Af cycles_1.1.length Cf)) rfl ?_)
 refine Rg_op rfl (op_assign (v := (Value.int .i64 cycles_1.2)) rfl ?_)
 refine Rg_nil (Wp_seq ?_)
 refine Wp_reset [] [(1, (Value.slice Ac slots.length Cc)), (2, (Value.pointer (some ⟨b1, 0, none⟩))), (5, (Value.slice Ad value_1.1.length Cd)), (6, (Value.int .i64 value_1.2)), (7, (Value.slice Ae value_2.1.length Ce)), (8, (Value.int .i64 value_2.2)), (9, (Value.slice Af cycles_1.1.length Cf)), (10, (Value.int .i64 cycles_1.2))] rfl ⟨rfl, rfl, rfl, rfl, rfl, rfl, rfl, rfl, trivial⟩ fun ξ69 => ?_
 refine Wp_region ?_
 refine Rg_op rfl (op_loadA (cs := [(Value.int .i64 r_.slots), (Value.slice Aa r_.owners.length Ca), (Value.slice Ab r_.costs.length Cb)]) (vs := [(Value.int .i64 r_.slots), (Value.slice Aa r_.owners.length Ca), (Value.slice Ab r_.costs.length Cb)]) (i := 0) ty25 hs61 rfl rfl rfl rfl ?_)
 refine Rg_op rfl (op_move (v := (Value.slice Ac slots.length Cc)) rfl ?_)
 replace hm := bd hm; obtain ⟨cycles_2, hv70, hm⟩ := hm
 refine Rg_op rfl (op_call Try.call15 (c15_overflightref38_Cycles (r_ := r_) (slots := slots) hs61.ltw Ra Fa Fb Fc hv70) rfl ?_)
 rintro v71 w72 ⟨hx73, h74⟩
 have hs75 := hs61.call hx73
 have p76 := Step.ext (O := ks [(some b1, Obj.cells [(Value.int .i64 r_.slots), (Value.slice Aa r_.owners.length Ca), (Value.slice Ab r_.costs.length Cb)].toArray 25)] O) hx73
 clear hx73
 replace Fa := Fa.step p76; replace Fb := Fb.step p76; replace Fc := Fc.step p76; replace Fd := Fd.step p76; replace Fe := Fe.step p76; replace Ff := Ff.step p76; clear p76 hs61
 obtain ⟨v77, v78, rfl, h79, h80⟩ := h74
 obtain ⟨Ag, Cg, rfl, Fg⟩ := un_sl h79
 obtain ⟨rfl, Re⟩ := h80
 refine Rg_op rfl (op_move (v := (Value.tuple [(Value.slice Ag cycles_2.1.length Cg), (Value.int .i64 cycles_2.2)].toArray)) rfl ?_)
 refine Rg_op rfl (op_extract (v := (Value.slice Ag cycles_2.1.length Cg)) rfl rfl ?_)
 refine Rg_op rfl (op_extract (v := (Value.int .i64 cycles_2.2)) rfl rfl ?_)
 refine Rg_op rfl (op_assign (v := (Value.slice Ag cycles_2.1.length Cg)) rfl ?_)
 refine Rg_op rfl (op_assign (v := (Value.int .i64 cycles_2.2)) rfl ?_)
 refine Rg_nil ?_
 refine Wp_reset [] [(5, (Value.slice Ad value_1.1.length Cd)), (6, (Value.int .i64 value_1.2)), (7, (Value.slice Ae value_2.1.length Ce)), (8, (Value.int .i64 value_2.2)), (9, (Value.slice Af cycles_1.1.length Cf)), (10, (Value.int .i64 cycles_1.2)), (11, (Value.slice Ag cycles_2.1.length Cg)), (12, (Value.int .i64 cycles_2.2))] rfl ⟨rfl, rfl, rfl, rfl, rfl, rfl, rfl, rfl, trivial⟩ fun ξ83 => ?_
 replace hm := jn_elim hm; obtain ⟨k85, hk86, hm⟩ := hm
 refine Wp_seqJ [4, 47, 48, 49, 50, 51, 52, 53, 54, 55, 56, 57, 58, 59, 60, 61, 62, 63, 64] (fun fr w' => ∃ (v_2 : Bool) (Ebs : Ents), Ebs = [(some b1, Obj.cells [(Value.int .i64 r_.slots), (Value.slice Aa r_.owners.length Ca), (Value.slice Ab r_.costs.length Cb)].toArray 25)] ∧ fr [] [(4, (Value.bool v_2))] ∧ Step (ks [(some b1, Obj.cells [(Value.int .i64 r_.slots), (Value.slice Aa r_.owners.length Ca), (Value.slice Ab r_.costs.length Cb)].toArray 25)] O) w72 (ks Ebs O) w' ∧ St ⟨w, [], []⟩ O w' Ebs ∧ k85 v_2 = some x) ?_ ?_
 rintro ρ92 w88 ⟨v_2, Ebs, hEbs, hfr91, hst90, hs89, hm⟩
 replace hm := jnE1 hk86 hm
 subst hEbs; rw [hfr91.eq]; clear hfr91
 replace Fa := Fa.step hst90; replace Fb := Fb.step hst90; replace Fc := Fc.step hst90; replace Fd := Fd.step hst90; replace Fe := Fe.step hst90; replace Ff := Ff.step hst90; replace Fg := Fg.step hst90; clear hst90 hs75
 refine Wp_ret ?_
 have hz := step_all hs89
 replace Fa := Fa.step hz; replace Fb := Fb.step hz; replace Fc := Fc.step hz; replace Fd := Fd.step hz; replace Fe := Fe.step hz; replace Ff := Ff.step hz; replace Fg := Fg.step hz
 refine ⟨_, (show Closes [] _ _ from rfl), [(Value.bool v_2)], ⟨rfl, trivial⟩, hs89.ext, ?_⟩
 exact Vr.eq (a := vB) (x := v_2) rfl (Option.some.inj hm)
 intro K87 hK87
 have ch93 := Step.refl (ks [(some b1, Obj.cells [(Value.int .i64 r_.slots), (Value.slice Aa r_.owners.length Ca), (Value.slice Ab r_.costs.length Cb)].toArray 25)] O) w72
 clear Fc
 refine Wp_region ?_
 refine Rg_op rfl (op_move (v := (Value.slice Ad value_1.1.length Cd)) rfl ?_)
 refine Rg_op rfl (op_move (v := (Value.slice Ae value_2.1.length Ce)) rfl ?_)
 replace hm := bd hm; obtain ⟨sameints_1, hv94, hm⟩ := hm
 refine Rg_op rfl (op_call Try.call16 (c16_overflightref37_SameInts (a := value_1.1) (b := value_2.1) hs75.ltw Fd Fe hv94) rfl ?_)
 rintro v95 w96 ⟨hx97, h98⟩
 have hs99 := hs75.call hx97
 have p100 := Step.ext (O := ks [(some b1, Obj.cells [(Value.int .i64 r_.slots), (Value.slice Aa r_.owners.length Ca), (Value.slice Ab r_.costs.length Cb)].toArray 25)] O) hx97
 clear hx97
 replace Fa := Fa.step p100; replace Fb := Fb.step p100; replace Fd := Fd.step p100; replace Fe := Fe.step p100; replace Ff := Ff.step p100; replace Fg := Fg.step p100; replace ch93 := ch93.trans p100; clear p100 hs75
 obtain rfl := h98
 refine Rg_op rfl (op_move (v := (Value.bool sameints_1)) rfl ?_)
 refine Rg_case (fun hg102 => ?_) (fun hg102 => ?_)
 replace hm := bif_t hm hg102
 refine Rg_opg rfl rfl rfl (op_move (v := (Value.int .i64 value_1.2)) rfl ?_)
 refine Rg_opg rfl rfl rfl (op_move (v := (Value.int .i64 value_2.2)) rfl ?_)
 refine Rg_opg rfl rfl rfl (op_eql rfl rfl ?_)
 refine Rg_op rfl (op_pick_t (v := (Value.bool (decide (value_1.2 = value_2.2)))) rfl rfl ?_)
 refine Rg_op rfl (op_move (v := (Value.bool (decide (value_1.2 = value_2.2)))) rfl ?_)
 refine Rg_case (fun hg103 => ?_) (fun hg103 => ?_)
 replace hm := bif_t hm hg103
 refine Rg_opg rfl rfl rfl (op_move (v := (Value.slice Af cycles_1.1.length Cf)) rfl ?_)
 refine Rg_opg rfl rfl rfl (op_move (v := (Value.slice Ag cycles_2.1.length Cg)) rfl ?_)
 replace hm := bd hm; obtain ⟨samelists_1, hv104, hm⟩ := hm
 refine Rg_opg rfl rfl rfl (op_call Try.call17 (c17_overflightref38_SameLists (a := cycles_1.1) (b := cycles_2.1) hs99.ltw Ff Fg hv104) rfl ?_)
 rintro v105 w106 ⟨hx107, h108⟩
 have hs109 := hs99.call hx107
 have p110 := Step.ext (O := ks [(some b1, Obj.cells [(Value.int .i64 r_.slots), (Value.slice Aa r_.owners.length Ca), (Value.slice Ab r_.costs.length Cb)].toArray 25)] O) hx107
 clear hx107
 replace Fa := Fa.step p110; replace Fb := Fb.step p110; replace Fd := Fd.step p110; replace Fe := Fe.step p110; replace Ff := Ff.step p110; replace Fg := Fg.step p110; replace ch93 := ch93.trans p110; clear p110 hs99
 obtain rfl := h108
 refine Rg_op rfl (op_pick_t (v := (Value.bool samelists_1)) rfl rfl ?_)
 refine Rg_op rfl (op_move (v := (Value.bool samelists_1)) rfl ?_)
 refine Rg_case (fun hg112 => ?_) (fun hg112 => ?_)
 replace hm := bif_t hm hg112
 refine Rg_opg rfl rfl rfl (op_move (v := (Value.int .i64 cycles_1.2)) rfl ?_)
 refine Rg_opg rfl rfl rfl (op_move (v := (Value.int .i64 cycles_2.2)) rfl ?_)
 refine Rg_opg rfl rfl rfl (op_eql rfl rfl ?_)
 refine Rg_op rfl (op_pick_t (v := (Value.bool (decide (cycles_1.2 = cycles_2.2)))) rfl rfl ?_)
 refine Rg_op rfl (op_assign (v := (Value.bool (decide (cycles_1.2 = cycles_2.2)))) rfl ?_)
 refine Rg_nil ?_
 exact hK87 _ _ ⟨(decide (cycles_1.2 = cycles_2.2)), _, rfl, ⟨(by repeat (first | with_reducible exact Out.refl _ _ | refine Out.upd ?_ rfl | refine Out.updL ?_ rfl | refine Out.mix' ?_ rfl | exact Out.refl _ _)), rfl, rfl, trivial⟩, ch93, hs109, hm⟩
 replace hm := bif_f hm hg112
 iterate 3 refine Rg_opx rfl (asB_ne rfl rfl) rfl ?_
 refine Rg_op rfl (op_pick_f (v := (Value.bool false)) rfl rfl ?_)
 refine Rg_op rfl (op_assign (v := (Value.bool false)) rfl ?_)
 refine Rg_nil ?_
 exact hK87 _ _ ⟨false, _, rfl, ⟨(by repeat (first | with_reducible exact Out.refl _ _ | refine Out.upd ?_ rfl | refine Out.updL ?_ rfl | refine Out.mix' ?_ rfl | exact Out.refl _ _)), rfl, rfl, trivial⟩, ch93, hs109, hm⟩
 replace hm := bif_f hm hg103
 iterate 3 refine Rg_opx rfl (asB_ne rfl rfl) rfl ?_
 refine Rg_op rfl (op_pick_f (v := (Value.bool false)) rfl rfl ?_)
 refine Rg_op rfl (op_move (v := (Value.bool false)) rfl ?_)
 iterate 3 refine Rg_opx rfl (asB_ne rfl rfl) rfl ?_
 refine Rg_op rfl (op_pick_f (v := (Value.bool false)) rfl rfl ?_)
 refine Rg_op rfl (op_assign (v := (Value.bool false)) rfl ?_)
 refine Rg_nil ?_
 exact hK87 _ _ ⟨false, _, rfl, ⟨(by repeat (first | with_reducible exact Out.refl _ _ | refine Out.upd ?_ rfl | refine Out.updL ?_ rfl | refine Out.mix' ?_ rfl | exact Out.refl _ _)), rfl, rfl, trivial⟩, ch93, hs99, hm⟩
 replace hm := bif_f hm hg102
 iterate 3 refine Rg_opx rfl (asB_ne rfl rfl) rfl ?_
 refine Rg_op rfl (op_pick_f (v := (Value.bool false)) rfl rfl ?_)
 refine Rg_op rfl (op_move (v := (Value.bool false)) rfl ?_)
 iterate 3 refine Rg_opx rfl (asB_ne rfl rfl) rfl ?_
 refine Rg_op rfl (op_pick_f (v := (Value.bool false)) rfl rfl ?_)
 refine Rg_op rfl (op_move (v := (Value.bool false)) rfl ?_)
 iterate 3 refine Rg_opx rfl (asB_ne rfl rfl) rfl ?_
 refine Rg_op rfl (op_pick_f (v := (Value.bool false)) rfl rfl ?_)
 refine Rg_op rfl (op_assign (v := (Value.bool false)) rfl ?_)
 refine Rg_nil ?_
 exact hK87 _ _ ⟨false, _, rfl, ⟨(by repeat (first | with_reducible exact Out.refl _ _ | refine Out.upd ?_ rfl | refine Out.updL ?_ rfl | refine Out.mix' ?_ rfl | exact Out.refl _ _)), rfl, rfl, trivial⟩, ch93, hs99, hm⟩
 intro K21 hK21
 have ch113 := Step.refl (ks [(some b1, Obj.cells [(Value.int .i64 r_.slots), (Value.slice Aa r_.owners.length Ca), (Value.slice Ab r_.costs.length Cb)].toArray 25)] O) w8
 refine Wp_region ?_
 refine Rg_op rfl (op_loadA (cs := [(Value.int .i64 r_.slots), (Value.slice Aa r_.owners.length Ca), (Value.slice Ab r_.costs.length Cb)]) (vs := [(Value.int .i64 r_.slots), (Value.slice Aa r_.owners.length Ca), (Value.slice Ab r_.costs.length Cb)]) (i := 0) ty25 hs11 rfl rfl rfl rfl ?_)
 replace hm := bd hm; obtain ⟨few_1, hv114, hm⟩ := hm
 refine Rg_op rfl (op_call Try.call11 (c11_overflightref38_Few (r_ := r_) hs11.ltw Ra Fa Fb hv114) rfl ?_)
 rintro v115 w116 ⟨hx117, h118⟩
 have hs119 := hs11.call hx117
 have p120 := Step.ext (O := ks [(some b1, Obj.cells [(Value.int .i64 r_.slots), (Value.slice Aa r_.owners.length Ca), (Value.slice Ab r_.costs.length Cb)].toArray 25)] O) hx117
 clear hx117
 replace Fa := Fa.step p120; replace Fb := Fb.step p120; replace Fc := Fc.step p120; replace ch113 := ch113.trans p120; clear p120 hs11
 obtain rfl := h118
 refine Rg_op rfl (op_not rfl ?_)
 refine Rg_op rfl (op_move (v := (Value.bool (!few_1))) rfl ?_)
 refine Rg_case (fun hg122 => ?_) (fun hg122 => ?_)
 replace hm := bif_t hm hg122
 iterate 3 refine Rg_opx rfl (asB_ne rfl rfl) rfl ?_
 refine Rg_op rfl (op_pick_t (v := (Value.bool true)) rfl rfl ?_)
 refine Rg_nil ?_
 exact hK21 _ _ ⟨true, _, rfl, ⟨(by repeat (first | with_reducible exact Out.refl _ _ | refine Out.upd ?_ rfl | refine Out.updL ?_ rfl | refine Out.mix' ?_ rfl | exact Out.refl _ _)), rfl, rfl, trivial⟩, ch113, hs119, hm⟩
 replace hm := bif_f hm hg122
 refine Rg_opg rfl rfl rfl (op_move (v := (Value.slice Ac slots.length Cc)) rfl ?_)
 refine Rg_opg rfl rfl rfl (op_len Try.underlying22 rfl ?_)
 have rl123 := inK_len Fc
 refine Rg_opg rfl rfl rfl (op_gtr rfl rfl ?_)
 refine Rg_op rfl (op_pick_f (v := (Value.bool (decide (20 < (slots.length : Int))))) rfl rfl ?_)
 refine Rg_nil ?_
 exact hK21 _ _ ⟨(decide (20 < (slots.length : Int))), _, rfl, ⟨(by repeat (first | with_reducible exact Out.refl _ _ | refine Out.upd ?_ rfl | refine Out.updL ?_ rfl | refine Out.mix' ?_ rfl | exact Out.refl _ _)), rfl, rfl, trivial⟩, ch113, hs119, hm⟩

end Go.Fx
/- What the models of functions compute: loops over lists, checks, meetings. No program in sight. -/
set_option linter.unusedSimpArgs false
set_option linter.unusedVariables false
namespace Go.Fx
open Go Go.RowKit

section
variable {R α σ : Type}
@[simp] theorem jn_eq {κ : Type _} (k : κ) (f : κ → Option R) : jn k f = f k := rfl
theorem ck_eq {c : Prop} [Decidable c] {m : Option R} (h : c) : ck c m = m := if_pos h
@[simp] theorem ck_True {m : Option R} : ck True m = m := if_pos trivial
theorem wrapN {i : Nat} (h : i < 9223372036854775808) : IntKind.i64.wrap (i : Int) = (i : Int) := wrap_i64 (by omega) (by omega)
theorem wrapS {i : Nat} (h : i + 1 < 9223372036854775808) : IntKind.i64.wrap ((i : Int) + 1) = (i : Int) + 1 := wrap_i64 (by omega) (by omega)
/-- a loop that goes up an index over a list: L fuel index state -/
theorem up_list {L : Nat → Int → σ → Option R} (I : Nat → σ → Prop) (F : Nat → List α → σ → Option R) (l : List α) (hl : l.length < 9223372036854775807)
    (hE : ∀ n s, I l.length s → L (n + 1) (l.length : Nat) s = F l.length [] s)
    (hS : ∀ n (i : Nat) s x t, i < l.length → l[i]? = some x → IntKind.i64.wrap ((i : Int) + 1) = (i : Int) + 1 → I i s →
      (∀ s, I (i + 1) s → L n ((i : Int) + 1) s = F (i + 1) t s) → L (n + 1) (i : Int) s = F i (x :: t) s) :
    ∀ (fuel : Nat) s, l.length < fuel → I 0 s → L fuel 0 s = F 0 l s := by
  have main : ∀ (t : List α) (i fuel : Nat) s, l.drop i = t → i ≤ l.length → l.length - i < fuel → I i s → L fuel (i : Int) s = F i t s := by
    intro t
    induction t with
    | nil =>
      intro i fuel s hd hi hf hI
      have : i = l.length := by have := congrArg List.length hd; simp at this; omega
      subst this
      obtain ⟨n, rfl⟩ : ∃ n, fuel = n + 1 := ⟨fuel - 1, by omega⟩
      exact hE n s hI
    | cons x t ih =>
      intro i fuel s hd hi hf hI
      have hlt : i < l.length := by have := congrArg List.length hd; simp at this; omega
      obtain ⟨n, rfl⟩ : ∃ n, fuel = n + 1 := ⟨fuel - 1, by omega⟩
      have hx : l[i]? = some x := by rw [← List.head?_drop, hd]; rfl
      refine hS n i s x t hlt hx (wrapS (by omega)) hI fun s' hI' => (ih (i + 1) n s' ?_ (by omega) (by omega) hI')
      rw [← List.drop_drop, hd]; rfl
  intro fuel s hf hI
  exact main l 0 fuel s rfl (by omega) (by omega) hI

theorem getD_of {l : List α} {i : Nat} {x d : α} (h : l[i]? = some x) : l.getD i d = x := by simp [List.getD, h]

/-- a loop that goes up an index over a list, no state -/
theorem up_list0 {B : (Int → Option R) → Int → Option R} (F : List α → Option R) (l : List α) (hl : l.length < 9223372036854775807)
    (hE : ∀ sf, B sf (l.length : Nat) = F [])
    (hS : ∀ sf (i : Nat) x t, i < l.length → l[i]? = some x → IntKind.i64.wrap ((i : Int) + 1) = (i : Int) + 1 →
      sf ((i : Int) + 1) = F t → B sf (i : Int) = F (x :: t))
    {fuel : Nat} (hf : l.length < fuel) : loop1 B fuel 0 = F l := by
  refine up_list (L := fun n i (_ : Unit) => loop1 B n i) (fun _ _ => True) (fun _ t _ => F t) l hl ?_ ?_ fuel () hf trivial
  · intro n _ _; show loop1 B (n + 1) _ = _; rw [loop1_succ]; exact hE _
  · intro n i _ x t h1 h2 h3 _ ih; show loop1 B (n + 1) _ = _; rw [loop1_succ]; exact hS _ i x t h1 h2 h3 (ih () trivial)
/-- a state first, then the index -/
theorem up_listB {B : (σ → Int → Option R) → σ → Int → Option R} (I : Nat → σ → Prop) (F : Nat → List α → σ → Option R) (l : List α) (hl : l.length < 9223372036854775807)
    (hE : ∀ sf s, I l.length s → B sf s (l.length : Nat) = F l.length [] s)
    (hS : ∀ sf (i : Nat) s x t, i < l.length → l[i]? = some x → IntKind.i64.wrap ((i : Int) + 1) = (i : Int) + 1 → I i s →
      (∀ s, I (i + 1) s → sf s ((i : Int) + 1) = F (i + 1) t s) → B sf s (i : Int) = F i (x :: t) s)
    {fuel : Nat} {s : σ} (hf : l.length < fuel) (hI : I 0 s) : loop2 B fuel s 0 = F 0 l s := by
  refine up_list (L := fun n i s => loop2 B n s i) I F l hl ?_ ?_ fuel s hf hI
  · intro n s h; show loop2 B (n + 1) _ _ = _; rw [loop2_succ]; exact hE _ _ h
  · intro n i s x t h1 h2 h3 h4 ih; show loop2 B (n + 1) _ _ = _; rw [loop2_succ]; exact hS _ i s x t h1 h2 h3 h4 ih

/-- the same, where the answer needs the index -/
theorem up_listI {B : (Int → Option R) → Int → Option R} (F : Nat → List α → Option R) (l : List α) (hl : l.length < 9223372036854775807)
    (hE : ∀ sf, B sf (l.length : Nat) = F l.length [])
    (hS : ∀ sf (i : Nat) x t, i < l.length → l[i]? = some x → IntKind.i64.wrap ((i : Int) + 1) = (i : Int) + 1 →
      sf ((i : Int) + 1) = F (i + 1) t → B sf (i : Int) = F i (x :: t))
    {fuel : Nat} (hf : l.length < fuel) : loop1 B fuel 0 = F 0 l := by
  refine up_list (L := fun n i (_ : Unit) => loop1 B n i) (fun _ _ => True) (fun i t _ => F i t) l hl ?_ ?_ fuel () hf trivial
  · intro n _ _; show loop1 B (n + 1) _ = _; rw [loop1_succ]; exact hE _
  · intro n i _ x t h1 h2 h3 _ ih; show loop1 B (n + 1) _ = _; rw [loop1_succ]; exact hS _ i x t h1 h2 h3 (ih () trivial)
end
end Go.Fx
/- Chapter 37, no program in sight: all exchanges of some flights, in order. -/
set_option linter.unusedSimpArgs false
set_option linter.unusedVariables false
namespace Go.Fx
open Go Go.RowKit
/-- all ways to go on from b with k more, out of fl, all different, allowed at their place -/
def dv (fl : List Int) (ok : Nat → Int → Bool) : Nat → List Int → List (List Int)
  | 0, b => [b]
  | k + 1, b => fl.flatMap fun s => bif ok b.length s && !b.contains s then dv fl ok k (b ++ [s]) else []
/-- t may follow b -/
def gd (fl : List Int) (ok : Nat → Int → Bool) : List Int → List Int → Prop
  | _, [] => True
  | b, s :: t => s ∈ fl ∧ ok b.length s = true ∧ s ∉ b ∧ gd fl ok (b ++ [s]) t
theorem mem_dv {fl : List Int} {ok : Nat → Int → Bool} : ∀ {k : Nat} {b x : List Int}, x ∈ dv fl ok k b ↔ ∃ t, x = b ++ t ∧ t.length = k ∧ gd fl ok b t := by
  intro k
  induction k with
  | zero =>
    intro b x
    simp only [dv, List.mem_singleton]
    constructor
    · rintro rfl; exact ⟨[], by simp, rfl, trivial⟩
    · rintro ⟨t, rfl, ht, _⟩; rw [List.length_eq_zero_iff.1 ht]; simp
  | succ k ih =>
    intro b x
    simp only [dv, List.mem_flatMap]
    constructor
    · rintro ⟨s, hs, hx⟩
      cases hc : (ok b.length s && !b.contains s)
      · rw [hc] at hx; cases hx
      · rw [hc, cond_true, ih] at hx
        obtain ⟨t, rfl, ht, hg⟩ := hx
        simp only [Bool.and_eq_true, Bool.not_eq_true', List.contains_eq_mem, decide_eq_false_iff_not] at hc
        exact ⟨s :: t, by simp, by simp [ht], hs, hc.1, hc.2, hg⟩
    · rintro ⟨t, rfl, ht, hg⟩
      cases t with
      | nil => cases ht
      | cons s t =>
        obtain ⟨h1, h2, h3, h4⟩ := hg
        refine ⟨s, h1, ?_⟩
        have hc : (ok b.length s && !b.contains s) = true := by simp [h2, h3]
        rw [hc, cond_true, ih]
        exact ⟨t, by simp, by simpa using ht, h4⟩
/-- the sum of what belongs to o -/
def csum (own : Int → Int) (cost : Int → Int → Int) (o : Int) : List (Int × Int) → Int
  | [] => 0
  | (f, s) :: t => (if own f = o then cost f s else 0) + csum own cost o t
theorem csum_append (own : Int → Int) (cost : Int → Int → Int) (o : Int) (l m : List (Int × Int)) : csum own cost o (l ++ m) = csum own cost o l + csum own cost o m := by
  induction l with
  | nil => simp [csum]
  | cons p t ih => obtain ⟨f, s⟩ := p; simp only [List.cons_append, csum, ih]; omega
end Go.Fx
/- The plain laws of chapter 37: what the functions compute. -/
set_option linter.unusedSimpArgs false
set_option linter.unusedVariables false
namespace Go.Fx
open Go Go.RowKit
theorem all_range' {p : Nat → Bool} (i n : Nat) : (List.range' i (n + 1)).all p = (p i && (List.range' (i + 1) n).all p) := by rw [List.range'_succ]; rfl
theorem all_range {p : Nat → Bool} (n : Nat) : (List.range n).all p = (List.range' 0 n).all p := by rw [List.range_eq_range']
/-- the first index from i where g holds, or -1 -/
def fidx {α} (g : α → Bool) : Nat → List α → Int
  | _, [] => -1
  | i, x :: t => bif g x then (i : Int) else fidx g (i + 1) t
theorem fidx_any {α} (g : α → Bool) (l : List α) (i : Nat) : decide (0 ≤ fidx g i l) = l.any g := by
  induction l generalizing i with
  | nil => rfl
  | cons x t ih => cases h : g x <;> simp [fidx, h, ih]
theorem m51_eq (s : List Int) (f : Int → Option Bool) (g : Int → Bool) (hf : ∀ x ∈ s, f x = some (g x)) (hl : s.length < 9223372036854775807) : m51_slices_ContainsFuncint_int_ s f = some (s.any g) := by
  have : m70_slices_IndexFuncint_int_ s f = some (fidx g 0 s) := by
    unfold m70_slices_IndexFuncint_int_
    refine up_listI (fun i t => some (fidx g i t)) s hl ?_ ?_ (by omega)
    · intro sf; unfold m70_slices_IndexFuncint_int__B0; simp [fidx]
    · intro sf i x t h1 h2 h3 ih; unfold m70_slices_IndexFuncint_int__B0; obtain ⟨_, rfl⟩ := List.getElem?_eq_some_iff.1 h2
      have hfi := hf s[i] (List.getElem_mem _)
      cases h : g s[i] <;> simp [h1, h3, ih, hfi, h, fidx, ck_eq]
  unfold m51_slices_ContainsFuncint_int_; rw [this]; simp [fidx_any]
theorem m48_eq (s : List Int) (v : Int) (hl : s.length < 9223372036854775807) : m48_slices_Containsint_int_ s v = some (s.any fun x => decide (v = x)) := by
  have : m68_slices_Indexint_int_ s v = some (fidx (fun x => decide (v = x)) 0 s) := by
    unfold m68_slices_Indexint_int_
    refine up_listI (fun i t => some (fidx (fun x => decide (v = x)) i t)) s hl ?_ ?_ (by omega)
    · intro sf; unfold m68_slices_Indexint_int__B0; simp [fidx]
    · intro sf i x t h1 h2 h3 ih; unfold m68_slices_Indexint_int__B0; obtain ⟨_, rfl⟩ := List.getElem?_eq_some_iff.1 h2
      by_cases h : v = s[i]
      · have g1 : s.getD (i : Int).toNat default = s[i] := by simp [h1]
        simp only [show (i : Int) < (s.length : Int) by omega, decide_true, cond_true, g1]
        rw [ck_eq (by simp)]; simp [← h, fidx]
      · simp [h1, h3, ih, h, fidx, ck_eq]
  unfold m48_slices_Containsint_int_; rw [this]; simp [fidx_any]
def badC (c : Int) : Bool := decide (c < -1) || decide (1048576 < c)
theorem m52_eq (c : Int) (hc : InK .i64 c) : m52_coalition_Check_2 c (fun x24 x25 => m50_coalition_Check_1 x24 x25) = some (badC c) := by
  have h1 := hc.1; have h2 := hc.2
  simp [IntKind.min, IntKind.max, IntKind.signed, IntKind.bits] at h1 h2
  unfold m52_coalition_Check_2 m50_coalition_Check_1 badC
  by_cases hm : c = 9223372036854775807
  · subst hm; rfl
  · have w : IntKind.i64.wrap (c + 1) = c + 1 := wrap_i64 (by omega) (by omega)
    rw [w]
    by_cases k1 : c < -1
    · have : c + 1 < 0 := by omega
      simp [k1, this]
    · have : ¬ c + 1 < 0 := by omega
      have e : (1048577 < c + 1) = (1048576 < c) := by apply propext; omega
      simp only [k1, this, e, decide_false, cond_false, Bool.false_or, Option.bind_some]
/-- flight i of a round is not as it should be -/
def rowBad (r : XRound) (i : Nat) : Bool :=
  (decide (r.owners.getD i default < 0) || decide (7 < r.owners.getD i default)) || (!decide (((r.costs.getD i default).length : Int) = r.slots) || (decide ((r.costs.getD i default).getD i default < 0) || (r.costs.getD i default).any badC))
def shapeB (r : XRound) : Bool := !(decide (r.slots < 1) || (decide (8 < r.slots) || (decide (r.slots < (r.owners.length : Int)) || decide ((r.costs.length : Int) ≠ (r.owners.length : Int)))))
/-- what Check answers -/
def valB (r : XRound) : Bool := shapeB r && (List.range r.owners.length).all fun i => !rowBad r i
theorem shape_props {r : XRound} (h : shapeB r = true) : 1 ≤ r.slots ∧ r.slots ≤ 8 ∧ (r.owners.length : Int) ≤ r.slots ∧ r.costs.length = r.owners.length := by
  unfold shapeB at h; simp at h; omega
theorem m25_eq (r : XRound) (hs : smXRound r) : m25_coalition_Check r = some (bif valB r then 0 else 370) := by
  have hcl : r.costs.length < 9223372036854775807 := by have := hs.2.2.1; omega
  unfold m25_coalition_Check
  have main : shapeB r = true → loop1 (m25_coalition_Check_B0 r) (((r.costs.length : Int) - 0).toNat + 1) 0 = some (bif (List.range r.owners.length).all (fun i => !rowBad r i) then 0 else 370) := by
    intro hsh
    obtain ⟨s1, s2, s3, s4⟩ := shape_props hsh
    rw [all_range, ← s4]
    refine up_listI (fun i t => some (bif (List.range' i t.length).all (fun i => !rowBad r i) then 0 else 370)) r.costs hcl ?_ ?_ (show r.costs.length < ((r.costs.length : Int) - 0).toNat + 1 by omega)
    · intro sf; unfold m25_coalition_Check_B0; simp
    · intro sf i x t h1 h2 h3 ih
      have g0 : r.costs.getD (i : Int).toNat default = r.costs.getD i default := rfl
      have g1 : r.owners.getD (i : Int).toNat default = r.owners.getD i default := rfl
      have g2 : (r.costs.getD i default).getD (i : Int).toNat default = (r.costs.getD i default).getD i default := rfl
      have hrow : r.costs.getD i default ∈ r.costs := by rw [show r.costs.getD i default = r.costs[i] from by simp [h1]]; exact List.getElem_mem _
      have hrl := (hs.2.2.2 _ hrow)
      rw [List.length_cons, all_range']
      unfold m25_coalition_Check_B0
      have c1 : (i : Int) < (r.costs.length : Int) := by omega
      simp only [c1, decide_true, cond_true, jn_eq, g0, g1, g2, h3, ih]
      rw [ck_eq (by simp), ck_eq (by omega)]
      have m45 := m51_eq (r.costs.getD i default) (fun x286 => m52_coalition_Check_2 x286 (fun x24 x25 => m50_coalition_Check_1 x24 x25)) badC (fun x hx => m52_eq x (hrl.2 x hx)) (by have := hrl.1; omega)
      rw [m45]
      have hb : rowBad r i = ((decide (r.owners.getD i default < 0) || decide (7 < r.owners.getD i default)) || (!decide (((r.costs.getD i default).length : Int) = r.slots) || (decide ((r.costs.getD i default).getD i default < 0) || (r.costs.getD i default).any badC))) := rfl
      rw [hb]
      generalize (List.range' (i + 1) t.length).all (fun i => !rowBad r i) = rest
      clear hb ih hrl hrow m45 g0 g1 g2 hs
      generalize r.costs.getD i default = row
      generalize r.owners.getD i default = o
      generalize row.getD i default = dg
      generalize row.any badC = bb
      unfold m50_coalition_Check_1
      by_cases k1 : o < 0
      · simp [k1]
      by_cases k2 : 7 < o
      · simp [k1, k2]
      by_cases k3 : (row.length : Int) = r.slots
      · rw [ck_eq (by omega)]
        by_cases k4 : dg < 0
        · simp [k1, k2, k3, k4]
        · cases bb <;> simp [k1, k2, k3, k4]
      · simp [k1, k2, k3]
  simp only [jn_eq]
  unfold valB
  cases hsh : shapeB r
  · unfold shapeB at hsh
    by_cases k1 : r.slots < 1
    · simp [k1]
    by_cases k2 : 8 < r.slots
    · simp [k1, k2]
    by_cases k3 : r.slots < (r.owners.length : Int)
    · simp [k1, k2, k3]
    by_cases k4 : (r.costs.length : Int) = (r.owners.length : Int)
    · simp [k1, k2, k3, k4] at hsh
    · simp [k1, k2, k3, k4]
  · have hm := main hsh
    obtain ⟨s1, s2, s3, s4⟩ := shape_props hsh
    have k1 : ¬ r.slots < 1 := by omega
    have k2 : ¬ 8 < r.slots := by omega
    have k3 : ¬ r.slots < (r.owners.length : Int) := by omega
    have k4 : (r.costs.length : Int) = (r.owners.length : Int) := by omega
    simp only [k1, k2, k3, k4, decide_false, cond_false, ne_eq, not_true_eq_false, Bool.true_and]
    rw [k4] at hm; exact hm
structure Val (r : XRound) : Prop where
  s1 : 1 ≤ r.slots
  s2 : r.slots ≤ 8
  s3 : (r.owners.length : Int) ≤ r.slots
  s4 : r.costs.length = r.owners.length
  own : ∀ i < r.owners.length, 0 ≤ r.owners.getD i default ∧ r.owners.getD i default < 8
  row : ∀ i < r.owners.length, ((r.costs.getD i default).length : Int) = r.slots
  diag : ∀ i < r.owners.length, 0 ≤ (r.costs.getD i default).getD i default
  cost : ∀ i < r.owners.length, ∀ c ∈ r.costs.getD i default, -1 ≤ c ∧ c ≤ 1048576
theorem Val.of {r : XRound} (h : valB r = true) : Val r := by
  unfold valB at h
  simp only [Bool.and_eq_true, List.all_eq_true, List.mem_range] at h
  obtain ⟨s1, s2, s3, s4⟩ := shape_props h.1
  have hb : ∀ i < r.owners.length, _ := fun i hi => h.2 i hi
  refine ⟨s1, s2, s3, s4, fun i hi => ?_, fun i hi => ?_, fun i hi => ?_, fun i hi c hc => ?_⟩ <;> (have := hb i hi; unfold rowBad at this; simp only [Bool.not_eq_true', Bool.or_eq_false_iff, Bool.not_eq_false', decide_eq_false_iff_not, decide_eq_true_eq, List.any_eq_false] at this; obtain ⟨⟨p1, p2⟩, p3, p4, p5⟩ := this)
  · omega
  · exact p3
  · omega
  · have := p5 c hc; simp [badC] at this; omega
end Go.Fx
/- Chapter 37: validity, few, assignments, costs. -/
set_option linter.unusedSimpArgs false
set_option linter.unusedVariables false
namespace Go.Fx
open Go Go.RowKit
theorem any_range' {p : Nat → Bool} (i n : Nat) : (List.range' i (n + 1)).any p = (p i || (List.range' (i + 1) n).any p) := by rw [List.range'_succ]; rfl
theorem getD_getElem {α} [Inhabited α] {l : List α} {i : Nat} (h : i < l.length) : l.getD i default = l[i] := by simp [h]
theorem getD_mem {α} [Inhabited α] {l : List α} {i : Nat} (h : i < l.length) : l.getD i default ∈ l := by rw [getD_getElem h]; exact List.getElem_mem _
def badK (row : List Int) (i k : Nat) : Bool := decide (row.getD k default < -1) || (decide (1048576 < row.getD k default) || (decide (k = i) && decide (row.getD k default < 0)))
theorem badK_any {row : List Int} {i : Nat} (h : i < row.length) : (List.range' 0 row.length).any (badK row i) = (decide (row.getD i default < 0) || row.any badC) := by
  rw [Bool.eq_iff_iff]
  simp only [List.any_eq_true, Bool.or_eq_true, decide_eq_true_eq, List.mem_range'_1, Nat.zero_le, true_and, Nat.zero_add]
  constructor
  · rintro ⟨k, hk, hb⟩
    unfold badK at hb
    simp only [Bool.or_eq_true, Bool.and_eq_true, decide_eq_true_eq] at hb
    rcases hb with hb | hb | ⟨rfl, hb⟩
    · exact .inr ⟨_, getD_mem hk, by unfold badC; simp only [← getD_getElem hk, hb, decide_true, Bool.true_or, Bool.or_true]⟩
    · exact .inr ⟨_, getD_mem hk, by unfold badC; simp only [← getD_getElem hk, hb, decide_true, Bool.true_or, Bool.or_true]⟩
    · exact .inl hb
  · rintro (hb | ⟨c, hc, hb⟩)
    · exact ⟨i, h, by simp only [badK, hb, decide_true, Bool.and_true, Bool.or_true]⟩
    · obtain ⟨k, hk, rfl⟩ := List.getElem_of_mem hc
      refine ⟨k, hk, ?_⟩
      unfold badC at hb; simp only [Bool.or_eq_true, decide_eq_true_eq] at hb
      unfold badK; rw [getD_getElem hk]
      rcases hb with hb | hb <;> simp [hb]
theorem m54_eq (r : XRound) (hs : smXRound r) : m54_overflightref37_Valid r = some (valB r) := by
  have hcl : r.owners.length < 9223372036854775807 := by have := hs.2.1.1; omega
  unfold m54_overflightref37_Valid
  have main : shapeB r = true → loop1 (m54_overflightref37_Valid_B0 r) (((r.owners.length : Int) - 0).toNat + 1) 0 = some ((List.range r.owners.length).all (fun i => !rowBad r i)) := by
    intro hsh
    obtain ⟨s1, s2, s3, s4⟩ := shape_props hsh
    rw [all_range]
    refine up_listI (fun i t => some ((List.range' i t.length).all (fun i => !rowBad r i))) r.owners hcl ?_ ?_ (show r.owners.length < ((r.owners.length : Int) - 0).toNat + 1 by omega)
    · intro sf; unfold m54_overflightref37_Valid_B0; simp
    · intro sf i x t h1 h2 h3 ih
      have hrow : r.costs.getD i default ∈ r.costs := getD_mem (by omega)
      have hrl := (hs.2.2.2 _ hrow)
      rw [List.length_cons, all_range']
      unfold m54_overflightref37_Valid_B0
      have c1 : (i : Int) < (r.owners.length : Int) := by omega
      have g0 : r.costs.getD (i : Int).toNat default = r.costs.getD i default := rfl
      have g1 : r.owners.getD (i : Int).toNat default = r.owners.getD i default := rfl
      simp only [decide_eq_true c1, cond_true, jn_eq, g0, g1]
      have inner : ∀ row : List Int, row = r.costs.getD i default → (row.length : Int) = r.slots → loop1 (m54_overflightref37_Valid_B1 r (i : Int) sf) ((r.slots - 0).toNat + 1) 0 = bif (decide (row.getD i default < 0) || row.any badC) then some false else sf (IntKind.wrap .i64 ((i : Int) + 1)) := by
        intro row hr hl
        rw [← badK_any (row := row) (i := i) (by omega)]
        refine up_listI (fun k t => bif (List.range' k t.length).any (badK row i) then some false else sf (IntKind.wrap .i64 ((i : Int) + 1))) row (by omega) ?_ ?_ (by omega)
        · intro sg; unfold m54_overflightref37_Valid_B1; simp [hl]
        · intro sg k y u h1 h2 h3 ih
          have g0 : r.costs.getD (i : Int).toNat default = row := by rw [hr]; rfl
          have g2 : row.getD (k : Int).toNat default = row.getD k default := rfl
          have c1 : (k : Int) < r.slots := by omega
          have e1 : ((k : Int) = (i : Int)) = (k = i) := by apply propext; omega
          rw [List.length_cons, any_range']
          unfold m54_overflightref37_Valid_B1
          simp only [c1, decide_true, cond_true, jn_eq, g0, g2, h3, ih, e1]
          rw [ck_eq (by omega), ck_eq (by omega)]
          have hb : badK row i k = (decide (row.getD k default < -1) || (decide (1048576 < row.getD k default) || (decide (k = i) && decide (row.getD k default < 0)))) := rfl
          rw [hb]
          have a1 : (0 : Int) ≤ i ∧ (i : Int) < r.costs.length := by omega
          have a2 : (0 : Int) ≤ k ∧ (k : Int) < row.length := by omega
          generalize (List.range' (k + 1) u.length).any (badK row i) = rest
          generalize row.getD k default = c
          simp only [ck_eq a1, ck_eq a2]
          by_cases q1 : c < -1
          · simp [q1]
          by_cases q2 : 1048576 < c
          · simp [q1, q2]
          by_cases q3 : k = i
          · by_cases q4 : c < 0
            · simp only [q1, q2, q3, q4]; rfl
            · simp only [q1, q2, q3, q4]; rfl
          · simp [q1, q2, q3]
      have hb : rowBad r i = ((decide (r.owners.getD i default < 0) || decide (7 < r.owners.getD i default)) || (!decide (((r.costs.getD i default).length : Int) = r.slots) || (decide ((r.costs.getD i default).getD i default < 0) || (r.costs.getD i default).any badC))) := rfl
      rw [hb]
      replace inner := inner _ rfl
      rw [h3] at inner
      generalize (List.range' (i + 1) t.length).all (fun i => !rowBad r i) = rest at *
      clear hb hrl hrow g0 g1 hs
      generalize r.costs.getD i default = row at *
      generalize r.owners.getD i default = o at *
      generalize row.getD i default = dg at *
      generalize row.any badC = bb at *
      have a1 : (0 : Int) ≤ i ∧ (i : Int) < r.owners.length := by omega
      have a2 : (0 : Int) ≤ i ∧ (i : Int) < r.costs.length := by omega
      simp only [ck_eq a1, ck_eq a2]
      by_cases k1 : o < 0
      · simp [k1]
      by_cases k2 : 7 < o
      · have : 8 ≤ o := by omega
        simp [k1, k2, this, ck_eq a1]
      have k2' : ¬ 8 ≤ o := by omega
      by_cases k3 : (row.length : Int) = r.slots
      · simp only [k1, k2, k2', k3, ck_eq a1, ck_eq a2, inner k3, ih, ne_eq, not_true_eq_false, decide_false, cond_false]
        generalize decide (dg < 0) = d1
        cases d1 <;> cases bb <;> rfl
      · simp [k1, k2, k2', k3, ck_eq a1, ck_eq a2]
  simp only [jn_eq]
  unfold valB
  cases hsh : shapeB r
  · unfold shapeB at hsh
    by_cases k1 : r.slots < 1
    · simp [k1]
    by_cases k2 : 8 < r.slots
    · simp [k1, k2]
    by_cases k3 : r.slots < (r.owners.length : Int)
    · simp [k1, k2, k3]
    by_cases k4 : (r.costs.length : Int) = (r.owners.length : Int)
    · simp [k1, k2, k3, k4] at hsh
    · simp [k1, k2, k3, k4]
  · have hm := main hsh
    obtain ⟨s1, s2, s3, s4⟩ := shape_props hsh
    have k1 : ¬ r.slots < 1 := by omega
    have k2 : ¬ 8 < r.slots := by omega
    have k3 : ¬ r.slots < (r.owners.length : Int) := by omega
    have k4 : (r.costs.length : Int) = (r.owners.length : Int) := by omega
    simp only [k1, k2, k3, k4, decide_false, cond_false, ne_eq, not_true_eq_false, Bool.true_and]
    exact hm
def fewB (r : XRound) : Bool := !(decide (12 < (r.owners.length : Int)) || decide (12 < (r.costs.length : Int))) && (r.costs.all (fun c => !decide (20 < (c.length : Int))) && (!valB r || decide ((r.owners.length : Int) ≤ 5)))
theorem m29_eq (r : XRound) (hs : smXRound r) : m29_overflightref37_Few r = some (fewB r) := by
  have hcl : r.costs.length < 9223372036854775807 := by have := hs.2.2.1; omega
  unfold m29_overflightref37_Few
  have main : loop1 (m29_overflightref37_Few_B0 r) (((r.costs.length : Int) - 0).toNat + 1) 0 = some (r.costs.all (fun c => !decide (20 < (c.length : Int))) && (!valB r || decide ((r.owners.length : Int) ≤ 5))) := by
    refine up_list0 (fun t => some (t.all (fun c => !decide (20 < (c.length : Int))) && (!valB r || decide ((r.owners.length : Int) ≤ 5)))) r.costs hcl ?_ ?_ (show r.costs.length < ((r.costs.length : Int) - 0).toNat + 1 by omega)
    · intro sf; unfold m29_overflightref37_Few_B0; simp only [m54_eq r hs]; cases valB r <;> simp
    · intro sf i x t h1 h2 h3 ih
      unfold m29_overflightref37_Few_B0
      have g0 : r.costs.getD (i : Int).toNat default = x := getD_of h2
      have c1 : (i : Int) < (r.costs.length : Int) := by omega
      simp only [c1, decide_true, cond_true, g0, h3, ih, List.all_cons]
      rw [ck_eq (by simp)]
      cases decide (20 < (x.length : Int)) <;> simp
  simp only [jn_eq, main]
  unfold fewB
  cases decide (12 < (r.owners.length : Int)) <;> cases decide (12 < (r.costs.length : Int)) <;> simp
/-- what flight f costs at slot s -/
def cst (r : XRound) (f s : Int) : Int := (r.costs.getD f.toNat default).getD s.toNat default
def ownr (r : XRound) (f : Int) : Int := r.owners.getD f.toNat default
/-- slot i of s is as it should be -/
def okS (r : XRound) (s : List Int) (i : Nat) : Bool := !(decide (s.getD i default < 0) || (decide (r.slots ≤ s.getD i default) || (decide (cst r i (s.getD i default) < 0) || (s.take i).any (fun x => decide (s.getD i default = x)))))
def asgB (r : XRound) (s : List Int) : Bool := decide (s.length = r.owners.length) && (List.range s.length).all (okS r s)
theorem m53_eq (r : XRound) (s : List Int) (hv : Val r) (hl : s.length < 9223372036854775807) : m53_coalition_allowed r s = some (asgB r s) := by
  unfold m53_coalition_allowed asgB
  by_cases hc : s.length = r.owners.length
  · have : ¬ (s.length : Int) ≠ r.owners.length := by omega
    simp only [this, decide_eq_true hc, decide_false, cond_false, Bool.true_and]
    rw [all_range]
    refine up_listI (fun i t => some ((List.range' i t.length).all (okS r s))) s hl ?_ ?_ (show s.length < ((s.length : Int) - 0).toNat + 1 by omega)
    · intro sf; unfold m53_coalition_allowed_B0; simp
    · intro sf i x t h1 h2 h3 ih
      rw [List.length_cons, all_range']
      unfold m53_coalition_allowed_B0
      have g0 : s.getD (i : Int).toNat default = s.getD i default := rfl
      have c1 : (i : Int) < (s.length : Int) := by omega
      have c2 : (0 : Int) ≤ i ∧ (i : Int) < s.length := by omega
      have c3 : (0 : Int) ≤ i ∧ (i : Int) ≤ s.length := by omega
      have c4 : (0 : Int) ≤ i ∧ (i : Int) < r.costs.length := by have := hv.s4; omega
      have e1 : (s.drop 0).take ((i : Int).toNat - 0) = s.take i := by simp
      have hm := m48_eq (s.take i) (s.getD i default) (by rw [List.length_take]; omega)
      have e2 : (r.costs.getD (i : Int).toNat default).getD (s.getD i default).toNat default = cst r i (s.getD i default) := rfl
      have hr := hv.row i (by omega)
      have hr' : ((r.costs.getD (i : Int).toNat default).length : Int) = r.slots := hr
      have hb : okS r s i = !(decide (s.getD i default < 0) || (decide (r.slots ≤ s.getD i default) || (decide (cst r i (s.getD i default) < 0) || (s.take i).any (fun x => decide (s.getD i default = x))))) := rfl
      simp only [c1, decide_true, cond_true, jn_eq, ck_eq c2, g0, h3, ih, e1, hm, ck_eq c3, ck_eq c4, e2, hr', hb, Option.bind_some]
      generalize cst r i (s.getD i default) = c
      generalize (s.take i).any (fun x => decide (s.getD i default = x)) = b
      generalize s.getD i default = v
      by_cases k1 : v < 0
      · simp [k1]
      by_cases k2 : r.slots ≤ v
      · simp [k1, k2]
      have c5 : (0 : Int) ≤ v ∧ v < r.slots := by omega
      simp only [ck_eq c5]
      by_cases k3 : c < 0
      · simp [k1, k2, k3]
      · cases b <;> simp [k1, k2, k3]
  · have : (s.length : Int) ≠ r.owners.length := by omega
    simp [this, hc]
theorem m26_eq (r : XRound) (s : List Int) (hs : smXRound r) (hl : s.length < 9223372036854775807) : m26_coalition_Allowed r s = some (bif valB r then (asgB r s, 0) else (false, 370)) := by
  unfold m26_coalition_Allowed
  rw [m25_eq r hs]
  cases hv : valB r
  · rfl
  · simp [m53_eq r s (Val.of hv) hl]
def goodB (r : XRound) (s : List Int) : Bool := valB r && asgB r s
theorem m45_eq (r : XRound) (s : List Int) (hs : smXRound r) (hl : s.length < 9223372036854775807) : m45_coalition_check r s = some (bif goodB r s then 0 else 370) := by
  unfold m45_coalition_check
  rw [m26_eq r s hs hl]
  unfold goodB
  cases hv : valB r
  · rfl
  · cases ha : asgB r s <;> rfl
def ownL (r : XRound) : List Int := (List.range r.owners.length).map fun i : Nat => (i : Int)
theorem m47_eq (r : XRound) (hv : Val r) : m47_coalition_own r = some (ownL r) := by
  unfold m47_coalition_own ownL
  have hn : r.owners.length ≤ 8 := by have := hv.s3; have := hv.s2; omega
  rw [List.range_eq_range']
  refine up_listB (fun i s => s.length = i) (fun i t s => some (s ++ (List.range' i t.length).map fun i : Nat => (i : Int))) r.owners (by omega) ?_ ?_ (by omega) (by rfl)
  · intro sf s hI; unfold m47_coalition_own_B0; simp
  · intro sf i s x t h1 h2 h3 hI ih
    unfold m47_coalition_own_B0
    have c1 : (i : Int) < (r.owners.length : Int) := by omega
    simp only [c1, decide_true, cond_true, h3]
    rw [ck_eq (by simp [hI]; omega), ih _ (by simp [hI])]
    simp [List.range'_succ]
end Go.Fx
/- Chapter 37: costs, worse. -/
set_option linter.unusedSimpArgs false
set_option linter.unusedVariables false
namespace Go.Fx
open Go Go.RowKit
theorem map_range_set {f g : Nat → Int} {k n : Nat} {v : Int} (hk : k < n) (hv : g k = v) (h : ∀ j, j ≠ k → g j = f j) : ((List.range n).map f).set k v = (List.range n).map g := by
  apply List.ext_getElem
  · simp
  · intro i h1 h2
    simp at h1
    by_cases e : k = i
    · subst e; simp [hv]
    · rw [List.getElem_set_ne e]; simp [h i (Ne.symm e)]
theorem getD_map_range {f : Nat → Int} {k n : Nat} (hk : k < n) : ((List.range n).map f).getD k default = f k := by simp [hk]
theorem csum_bound {own : Int → Int} {cost : Int → Int → Int} {o b : Int} {l : List (Int × Int)} (hb : 0 ≤ b) (h : ∀ p ∈ l, -b ≤ cost p.1 p.2 ∧ cost p.1 p.2 ≤ b) : -(b * l.length) ≤ csum own cost o l ∧ csum own cost o l ≤ b * l.length := by
  induction l with
  | nil => simp [csum]
  | cons p t ih =>
    obtain ⟨f, s⟩ := p
    have := ih fun p hp => h p (List.mem_cons_of_mem _ hp)
    have h1 := h (f, s) (List.mem_cons_self ..)
    simp only at h1
    simp only [csum, List.length_cons]
    have e : b * ((t.length + 1 : Nat) : Int) = b * t.length + b := by rw [Int.natCast_add, Int.mul_add]; simp
    rw [e]
    split <;> omega
/-- the costs of all airlines -/
def cvec (r : XRound) (fl s : List Int) : List Int := (List.range 8).map fun o : Nat => csum (ownr r) (cst r) (o : Int) (fl.zip s)
/-- flight f may have slot s -/
def fits (r : XRound) (f s : Int) : Prop := 0 ≤ f ∧ f < r.owners.length ∧ 0 ≤ s ∧ s < r.slots
theorem fits.cst {r : XRound} {f s : Int} (hv : Val r) (h : fits r f s) : -1 ≤ cst r f s ∧ cst r f s ≤ 1048576 := by
  obtain ⟨a, b, c, d⟩ := h
  have hr := hv.row f.toNat (by omega)
  exact hv.cost f.toNat (by omega) _ (getD_mem (by omega))
theorem zip_take_succ {l m : List Int} {i : Nat} (h1 : i < l.length) (h2 : i < m.length) : (l.zip m).take (i + 1) = (l.zip m).take i ++ [(l.getD i default, m.getD i default)] := by
  rw [List.take_succ_eq_append_getElem (by simp; omega)]
  simp [h1, h2]
theorem m46_eq (r : XRound) (fl s : List Int) (hv : Val r) (hl : fl.length ≤ 20) (hls : fl.length ≤ s.length) (hf : ∀ i < fl.length, fits r (fl.getD i default) (s.getD i default)) : m46_coalition_costs r fl s = some (cvec r fl s) := by
  unfold m46_coalition_costs
  rw [ck_eq (by decide)]
  have hz : (fl.zip s).take fl.length = fl.zip s := by rw [List.take_of_length_le (by simp; omega)]
  refine up_listB (fun i c => c = (List.range 8).map fun o : Nat => csum (ownr r) (cst r) (o : Int) ((fl.zip s).take i)) (fun i t c => some (cvec r fl s)) fl (by omega) ?_ ?_ (by omega) (by rfl)
  · intro sf c hI; unfold m46_coalition_costs_B0; rw [hz] at hI; simp [hI, cvec]
  · intro sf i c x t h1 h2 h3 hI ih
    unfold m46_coalition_costs_B0
    obtain ⟨a1, a2, a3, a4⟩ := hf i h1
    have g0 : fl.getD (i : Int).toNat default = fl.getD i default := rfl
    have g1 : s.getD (i : Int).toNat default = s.getD i default := rfl
    have hc := fits.cst hv (hf i h1)
    have hbound : ∀ o, -(1048576 * 20) ≤ csum (ownr r) (cst r) o ((fl.zip s).take i) ∧ csum (ownr r) (cst r) o ((fl.zip s).take i) ≤ 1048576 * 20 := by
      intro o
      have := csum_bound (own := ownr r) (cost := cst r) (o := o) (b := 1048576) (l := (fl.zip s).take i) (by omega) (fun p hp => by
        obtain ⟨j, hj, rfl⟩ := List.getElem_of_mem (List.mem_of_mem_take hp)
        simp at hj
        have := fits.cst hv (hf j (by omega))
        rw [getD_getElem (by omega), getD_getElem (by omega)] at this
        simp only [List.getElem_zip]; omega)
      have hle : ((fl.zip s).take i).length ≤ 20 := by simp; omega
      have : (1048576 : Int) * ((fl.zip s).take i).length ≤ 1048576 * 20 := by omega
      omega
    have e1 : (r.costs.getD (fl.getD i default).toNat default).getD (s.getD i default).toNat default = cst r (fl.getD i default) (s.getD i default) := rfl
    have e2 : r.owners.getD (fl.getD i default).toNat default = ownr r (fl.getD i default) := rfl
    have hro := hv.row (fl.getD i default).toNat (by omega)
    have ho := hv.own (fl.getD i default).toNat (by omega)
    rw [e2] at ho
    have hs4 := hv.s4
    simp only [show (i : Int) < (fl.length : Int) by omega, decide_true, cond_true, g0, g1, e1, e2]
    have hlen : c.length = 8 := by rw [hI]; simp
    have c1 : (0 : Int) ≤ i ∧ (i : Int) < fl.length := by omega
    have c2 : (0 : Int) ≤ fl.getD i default ∧ fl.getD i default < r.owners.length := ⟨a1, a2⟩
    have c3 : (0 : Int) ≤ ownr r (fl.getD i default) ∧ ownr r (fl.getD i default) < c.length := by omega
    have c4 : (0 : Int) ≤ fl.getD i default ∧ fl.getD i default < r.costs.length := by omega
    have c5 : (0 : Int) ≤ i ∧ (i : Int) < s.length := by omega
    have c6 : (0 : Int) ≤ s.getD i default ∧ s.getD i default < ((r.costs.getD (fl.getD i default).toNat default).length : Int) := by omega
    have cs := zip_take_succ h1 (show i < s.length by omega)
    simp only [true_and, ck_True, ck_eq c1, ck_eq c2, ck_eq c3, ck_eq c4, ck_eq c5, ck_eq c6, h3]
    refine ih _ ?_
    generalize fl.getD i default = f at *
    generalize s.getD i default = v at *
    have hk : ((ownr r f).toNat : Int) = ownr r f := by omega
    have hg : c.getD (ownr r f).toNat default = csum (ownr r) (cst r) (ownr r f) ((fl.zip s).take i) := by rw [hI, getD_map_range (by omega), hk]
    rw [hg, wrap_i64 (by have := hbound (ownr r f); omega) (by have := hbound (ownr r f); omega), hI]
    refine map_range_set (by omega) ?_ ?_
    · rw [cs, csum_append, hk]; simp [csum]
    · intro j hj; rw [cs, csum_append]; simp [csum]; omega
theorem asg_props {r : XRound} {s : List Int} (h : asgB r s = true) : s.length = r.owners.length ∧ ∀ i < s.length, 0 ≤ s.getD i default ∧ s.getD i default < r.slots ∧ 0 ≤ cst r i (s.getD i default) ∧ ∀ j < i, s.getD j default ≠ s.getD i default := by
  unfold asgB at h
  simp only [Bool.and_eq_true, decide_eq_true_eq, List.all_eq_true, List.mem_range] at h
  refine ⟨h.1, fun i hi => ?_⟩
  have := h.2 i hi
  unfold okS at this
  simp only [Bool.not_eq_true', Bool.or_eq_false_iff, decide_eq_false_iff_not, List.any_eq_false, decide_eq_true_eq] at this
  obtain ⟨b1, b2, b3, b4⟩ := this
  refine ⟨by omega, by omega, by omega, fun j hj e => b4 (s.getD j default) ?_ e.symm⟩
  have : (s.take i).getD j default ∈ s.take i := getD_mem (by rw [List.length_take]; omega)
  rwa [show (s.take i).getD j default = s.getD j default from by simp [hj]] at this
theorem ownL_len (r : XRound) : (ownL r).length = r.owners.length := by simp [ownL]
theorem ownL_getD {r : XRound} {i : Nat} (h : i < r.owners.length) : (ownL r).getD i default = i := by simp [ownL, h]
theorem fits_asg {r : XRound} {s : List Int} (hv : Val r) (h : asgB r s = true) : ∀ i < (ownL r).length, fits r ((ownL r).getD i default) (s.getD i default) := by
  intro i hi
  rw [ownL_len] at hi
  obtain ⟨e, h2⟩ := asg_props h
  obtain ⟨b1, b2, _, _⟩ := h2 i (by omega)
  rw [ownL_getD hi]
  exact ⟨by omega, by omega, b1, b2⟩
theorem Val.n8 {r : XRound} (hv : Val r) : r.owners.length ≤ 8 := by have := hv.s3; have := hv.s2; omega
theorem cvec_asg {r : XRound} {s : List Int} (hv : Val r) (h : asgB r s = true) : m46_coalition_costs r (ownL r) s = some (cvec r (ownL r) s) :=
  m46_eq r _ s hv (by have := hv.n8; rw [ownL_len]; omega) (by rw [ownL_len, (asg_props h).1]; exact Nat.le_refl _) (fits_asg hv h)
theorem good_props {r : XRound} {s : List Int} (h : goodB r s = true) : Val r ∧ asgB r s = true := by
  unfold goodB at h; simp only [Bool.and_eq_true] at h; exact ⟨Val.of h.1, h.2⟩
theorem m22_eq (r : XRound) (s : List Int) (hs : smXRound r) (hl : s.length < 9223372036854775807) : m22_coalition_Costs r s = some (bif goodB r s then (cvec r (ownL r) s, 0) else ([], 370)) := by
  unfold m22_coalition_Costs
  rw [m45_eq r s hs hl]
  cases hg : goodB r s
  · rfl
  · obtain ⟨hv, ha⟩ := good_props hg
    simp [m47_eq r hv, cvec_asg hv ha]
end Go.Fx
namespace Go.Fx
open Go Go.RowKit Go.Proofs
end Go.Fx
/- Chapter 37: deviations and what blocks. -/
set_option linter.unusedSimpArgs false
set_option linter.unusedVariables false
namespace Go.Fx
open Go Go.RowKit
theorem gd_get {fl : List Int} {ok : Nat → Int → Bool} : ∀ {t b : List Int}, gd fl ok b t ↔ ∀ i < t.length, t.getD i default ∈ fl ∧ ok (b.length + i) (t.getD i default) = true ∧ t.getD i default ∉ b ∧ ∀ j < i, t.getD j default ≠ t.getD i default := by
  intro t
  induction t with
  | nil => intro b; simp [gd]
  | cons s t ih =>
    intro b
    unfold gd
    rw [ih]
    constructor
    · rintro ⟨h1, h2, h3, h4⟩ i hi
      cases i with
      | zero => exact ⟨h1, h2, h3, fun j hj => by omega⟩
      | succ i =>
        obtain ⟨k1, k2, k3, k4⟩ := h4 i (by simpa using hi)
        rw [List.getD_cons_succ]
        refine ⟨k1, ?_, fun h => k3 (List.mem_append_left _ h), fun j hj => ?_⟩
        · rw [← k2]; congr 1; simp; omega
        · cases j with
          | zero => rw [List.getD_cons_zero]; intro e; exact k3 (List.mem_append_right _ (by simp [e]))
          | succ j => rw [List.getD_cons_succ]; exact k4 j (by omega)
    · intro h
      obtain ⟨a1, a2, a3, _⟩ := h 0 (by simp)
      refine ⟨a1, a2, a3, fun i hi => ?_⟩
      obtain ⟨k1, k2, k3, k4⟩ := h (i + 1) (by simpa using hi)
      rw [List.getD_cons_succ] at k1 k2 k3 k4
      refine ⟨k1, ?_, fun hm => ?_, fun j hj => ?_⟩
      · rw [← k2]; congr 1; simp; omega
      · rcases List.mem_append.1 hm with hm | hm
        · exact k3 hm
        · have := k4 0 (by omega); rw [List.getD_cons_zero] at this; exact this (List.mem_singleton.1 hm).symm
      · have := k4 (j + 1) (by omega); rwa [List.getD_cons_succ] at this
end Go.Fx
/- Chapter 37: stable assignments, members, better. -/
set_option linter.unusedSimpArgs false
set_option linter.unusedVariables false
namespace Go.Fx
open Go Go.RowKit
end Go.Fx
/- Chapter 37: what blocks is not stable. -/
set_option linter.unusedSimpArgs false
set_option linter.unusedVariables false
namespace Go.Fx
open Go Go.RowKit
end Go.Fx
/- The chapter's examples. -/
namespace Go.Fx
open Go Go.RowKit
theorem sane38 : m10_overflightlaw38_sane = some true := by kernel_rfl
end Go.Fx
/- Chapter 38: values, assignments, the best one. -/
set_option linter.unusedSimpArgs false
set_option linter.unusedVariables false
namespace Go.Fx
open Go Go.RowKit
theorem ipos38 {l n : Nat} (h : n < l) : ((n : Int) < (l : Int)) := by omega
/-- by the first place that differs -/
def lexC : List Int → List Int → Int
  | [], [] => 0
  | [], _ :: _ => -1
  | _ :: _, [] => 1
  | x :: s, y :: t => if x < y then -1 else if y < x then 1 else lexC s t
theorem m16_eq (a b : List Int) (hl : a.length < 9223372036854775807) : m16_overflightref37_SameInts a b = some (decide (a = b)) := by
  unfold m16_overflightref37_SameInts
  by_cases hlen : a.length = b.length
  · rw [decide_eq_false (show ¬ ((a.length : Int) ≠ b.length) by omega), cond_false]
    refine (up_listI (B := m16_overflightref37_SameInts_B0 a b) (fun i t => some (decide (t = b.drop i))) a hl ?_ ?_ (by omega)).trans (by simp)
    · intro sf; unfold m16_overflightref37_SameInts_B0
      rw [decide_eq_false (Int.lt_irrefl _), cond_false, hlen, List.drop_length]; rfl
    · intro sf i x t h1 h2 h3 ih
      obtain ⟨_, rfl⟩ := List.getElem?_eq_some_iff.1 h2
      unfold m16_overflightref37_SameInts_B0
      have g1 : a.getD (i : Int).toNat default = a[i] := by simp [h1]
      have hb' : i < b.length := by omega
      have g2 : b.getD (i : Int).toNat default = b[i] := by simp [hb']
      rw [decide_eq_true (ipos38 h1), cond_true, ck_eq (by omega), ck_eq (by omega), g1, g2, h3, ih, List.drop_eq_getElem_cons hb']
      by_cases e : a[i] = b[i]
      · rw [decide_eq_false (fun h => h e), cond_false, e]
        congr 1
        rw [Bool.eq_iff_iff, decide_eq_true_iff, decide_eq_true_iff]
        constructor
        · rintro rfl; rfl
        · intro h; exact (List.cons.inj h).2
      · rw [decide_eq_true e, cond_true, decide_eq_false]
        intro h; exact e (List.cons.inj h).1
  · rw [decide_eq_true (show (a.length : Int) ≠ b.length by omega), cond_true, decide_eq_false (fun e => hlen (by rw [e]))]
/-- costs and moves from place i on -/
def vsum (r : XRound) : Nat → List Int → Int
  | _, [] => 0
  | i, x :: t => cst r i x + vsum r (i + 1) t
def vmov : Nat → List Int → Int
  | _, [] => 0
  | i, x :: t => (if x = (i : Int) then 0 else 1) + vmov (i + 1) t
def valV (r : XRound) (s : List Int) : List Int := [vsum r 0 s, vmov 0 s]
theorem m30_eq (r : XRound) (s : List Int) (hv : Val r) (hl : s.length = r.owners.length) (hs : ∀ i < s.length, 0 ≤ s.getD i default ∧ s.getD i default < r.slots) : m30_clearing_value r s = some (valV r s) := by
  have h8 := hv.n8
  unfold m30_clearing_value
  refine (up_listB (B := m30_clearing_value_B0 r s) (σ := List Int) (fun i v => ∃ a c : Int, v = [a, c] ∧ -(1048576 * (i : Int)) ≤ a ∧ a ≤ 1048576 * (i : Int) ∧ 0 ≤ c ∧ c ≤ (i : Int)) (fun i t v => some [v.getD 0 default + vsum r i t, v.getD 1 default + vmov i t]) s (by omega) ?_ ?_ (by omega) ⟨0, 0, rfl, by simp⟩).trans (by simp [valV])
  · rintro sf v ⟨a, c, rfl, _⟩
    unfold m30_clearing_value_B0
    rw [decide_eq_false (Int.lt_irrefl _)]; simp [vsum, vmov]
  · rintro sf i v x t h1 h2 h3 ⟨a, c, rfl, b1, b2, b3, b4⟩ ih
    have g1 : s.getD (i : Int).toNat default = x := getD_of h2
    obtain ⟨k1, k2⟩ := hs i h1
    have g2 : s.getD i default = x := g1
    rw [g2] at k1 k2
    have hrow := hv.row i (by omega)
    have hc := fits.cst hv (f := (i : Int)) (s := x) ⟨by omega, by omega, k1, k2⟩
    have e1 : (r.costs.getD (i : Int).toNat default).getD x.toNat default = cst r i x := rfl
    have w1 : IntKind.wrap .i64 (a + cst r i x) = a + cst r i x := wrap_i64 (by omega) (by omega)
    have w2 : IntKind.wrap .i64 (c + 1) = c + 1 := wrap_i64 (by omega) (by omega)
    have hci := hv.s4
    have c1 : (0 : Int) ≤ (i : Int) ∧ (i : Int) < (s.length : Int) := by omega
    have c2 : (0 : Int) ≤ (i : Int) ∧ (i : Int) < (r.costs.length : Int) := by omega
    have c3 : (0 : Int) ≤ x ∧ x < ((r.costs.getD (i : Int).toNat default).length : Int) := by rw [Int.toNat_natCast]; omega
    have c4 : (0 : Int) ≤ 0 ∧ 0 < (([a, c] : List Int).length : Int) := by simp
    have c5 : (0 : Int) ≤ 1 ∧ 1 < (([a + cst r i x, c] : List Int).length : Int) := by simp
    unfold m30_clearing_value_B0
    simp only [decide_eq_true c1.2, cond_true, ck_eq c1, g1, ck_eq c2, ck_eq c3, ck_eq c4, e1, show ([a, c] : List Int).getD 0 default = a from rfl, w1, show ([a, c] : List Int).set 0 (a + cst r i x) = [a + cst r i x, c] from rfl, ck_eq c5, show ([a + cst r i x, c] : List Int).getD 1 default = c from rfl, w2, show ([a + cst r i x, c] : List Int).set 1 (c + 1) = [a + cst r i x, c + 1] from rfl, h3]
    by_cases hm : x = (i : Int)
    · rw [decide_eq_false (fun h => h hm), cond_false, ih _ ⟨_, _, rfl, by omega, by omega, by omega, by omega⟩]
      simp [vsum, vmov, hm]; omega
    · rw [decide_eq_true hm, cond_true, ih _ ⟨_, _, rfl, by omega, by omega, by omega, by omega⟩]
      simp [vsum, vmov, hm]; omega
theorem asg_in {r : XRound} {s : List Int} (h : asgB r s = true) : ∀ i < s.length, 0 ≤ s.getD i default ∧ s.getD i default < r.slots := fun i hi => by
  obtain ⟨b1, b2, _⟩ := (asg_props h).2 i hi; exact ⟨b1, b2⟩
theorem val_good {r : XRound} {s : List Int} (h : goodB r s = true) : m30_clearing_value r s = some (valV r s) := by
  obtain ⟨hv, ha⟩ := good_props h
  exact m30_eq r s hv (asg_props ha).1 (asg_in ha)
theorem m12_eq (r : XRound) (s : List Int) (hs : smXRound r) (hl : s.length < 9223372036854775807) : m12_clearing_Value r s = some (bif goodB r s then (valV r s, 0) else ([], 370)) := by
  unfold m12_clearing_Value
  rw [m22_eq r s hs hl]
  cases hg : goodB r s
  · rfl
  · simp [val_good hg]
end Go.Fx
/- Chapter 38: the best assignment. -/
set_option linter.unusedSimpArgs false
set_option linter.unusedVariables false
namespace Go.Fx
open Go Go.RowKit
def btr (v : List Int → List Int) : Option (List Int) → List Int → Bool
  | none, _ => true
  | some y, x => decide (lexC (v x) (v y) < 0)
/-- the first of the least that are allowed -/
def pick (v : List Int → List Int) (p : List Int → Bool) : Option (List Int) → List (List Int) → Option (List Int)
  | acc, [] => acc
  | acc, x :: t => pick v p (bif btr v acc x && p x then some x else acc) t
theorem m11_eq (r : XRound) (hr : smXRound r) : m11_overflightref38_Few r = some (fewB r && (decide ((r.owners.length : Int) ≤ 5) && decide (r.slots ≤ 6))) := by
  unfold m11_overflightref38_Few
  rw [m29_eq r hr]
  cases fewB r
  · rfl
  · rw [Option.bind_some, cond_true]
    cases decide ((r.owners.length : Int) ≤ 5) <;> rfl
end Go.Fx
namespace Go.Fx
open Go Go.RowKit Go.Proofs
end Go.Fx
/- Chapter 38: what the specification of chapter 37 computes. -/
set_option linter.unusedSimpArgs false
set_option linter.unusedVariables false
namespace Go.Fx
open Go Go.RowKit
theorem m55_eq (r : XRound) (s : List Int) (hv : Val r) (hl : s.length < 9223372036854775807) : m55_overflightref37_Assignment r s = some (asgB r s) := by
  unfold m55_overflightref37_Assignment asgB
  by_cases hlen : s.length = r.owners.length
  rotate_left
  · rw [decide_eq_true (show (s.length : Int) ≠ (r.owners.length : Int) by omega), cond_true, decide_eq_false hlen]; rfl
  rw [decide_eq_false (show ¬ (s.length : Int) ≠ (r.owners.length : Int) by omega), cond_false, decide_eq_true hlen, Bool.true_and, List.range_eq_range']
  refine up_listI (B := m55_overflightref37_Assignment_B0 r s) (fun i t => some ((List.range' i t.length).all (okS r s))) s hl ?_ ?_ (by omega)
  · intro sf; unfold m55_overflightref37_Assignment_B0; rw [decide_eq_false (Int.lt_irrefl _)]; rfl
  · intro sf i x t h1 h2 h3 ih
    have g1 : s.getD (i : Int).toNat default = s.getD i default := rfl
    have c1 : (0 : Int) ≤ (i : Int) ∧ (i : Int) < (s.length : Int) := by omega
    have c2 : (0 : Int) ≤ (i : Int) ∧ (i : Int) < (r.costs.length : Int) := by have := hv.s4; omega
    have hrow := hv.row i (by omega)
    rw [List.length_cons, all_range']
    have inner : loop1 (m55_overflightref37_Assignment_B1 s (i : Int) sf) (((i : Int) - 0).toNat + 1) 0 = bif (s.take i).any (fun x => decide (s.getD i default = x)) then some false else sf ((i : Int) + 1) := by
      have hti : (s.take i).length = i := by rw [List.length_take]; omega
      refine up_list0 (B := m55_overflightref37_Assignment_B1 s (i : Int) sf) (fun t => bif t.any (fun x => decide (s.getD i default = x)) then some false else sf ((i : Int) + 1)) (s.take i) (by omega) ?_ ?_ (by omega)
      · intro sg; unfold m55_overflightref37_Assignment_B1; rw [hti, decide_eq_false (Int.lt_irrefl _), cond_false, h3]; rfl
      · intro sg k y u j1 j2 j3 ih2
        rw [hti] at j1
        unfold m55_overflightref37_Assignment_B1
        have g2 : s.getD (k : Int).toNat default = y := by
          rw [List.getElem?_take, if_pos j1] at j2; exact getD_of j2
        rw [decide_eq_true (show (k : Int) < (i : Int) by omega), cond_true, ck_eq (by omega), ck_eq c1, g1, g2, j3, ih2]
        by_cases e : y = s.getD i default
        · rw [decide_eq_true e, cond_true, List.any_cons, decide_eq_true e.symm]; rfl
        · rw [decide_eq_false e, cond_false, List.any_cons, decide_eq_false (fun q => e q.symm), Bool.false_or]
    unfold m55_overflightref37_Assignment_B0
    rw [decide_eq_true c1.2, cond_true]
    simp only [jn_eq, ck_eq c1, ck_eq c2, g1, inner]
    unfold okS
    by_cases q1 : s.getD i default < 0
    · rw [decide_eq_true q1]; rfl
    rw [decide_eq_false q1, cond_false]
    by_cases q2 : r.slots ≤ s.getD i default
    · rw [decide_eq_true q2]; rfl
    rw [decide_eq_false q2, cond_false, ck_eq (by rw [Int.toNat_natCast]; omega)]
    have e1 : (r.costs.getD (i : Int).toNat default).getD (s.getD i default).toNat default = cst r (i : Int) (s.getD i default) := rfl
    rw [e1]
    cases decide (cst r (i : Int) (s.getD i default) < 0)
    · rw [cond_false]
      cases (s.take i).any (fun x => decide (s.getD i default = x))
      · rw [cond_false, ih]; rfl
      · rfl
    · rfl
theorem m56_eq (r : XRound) (s : List Int) (hv : Val r) (ha : asgB r s = true) : m56_overflightref37_costs r s = some (cvec r (ownL r) s) := by
  have h8 := hv.n8
  obtain ⟨hlen, hin⟩ := asg_props ha
  have hf := fits_asg hv ha
  have hol := ownL_len r
  unfold m56_overflightref37_costs
  rw [ck_eq (by decide)]
  have hz : ((ownL r).zip s).take s.length = (ownL r).zip s := by rw [List.take_of_length_le (by simp; omega)]
  refine up_listB (B := m56_overflightref37_costs_B0 r s) (fun i c => c = (List.range 8).map fun o : Nat => csum (ownr r) (cst r) (o : Int) (((ownL r).zip s).take i)) (fun i t c => some (cvec r (ownL r) s)) s (by omega) ?_ ?_ (by omega) (by rfl)
  · intro sf c hI; unfold m56_overflightref37_costs_B0; rw [hz] at hI; rw [decide_eq_false (Int.lt_irrefl _)]; simp [hI, cvec]
  · intro sf i c x t h1 h2 h3 hI ih
    unfold m56_overflightref37_costs_B0
    obtain ⟨a1, a2, a3, a4⟩ := hf i (by omega)
    rw [ownL_getD (by omega)] at a1 a2
    have g1 : s.getD (i : Int).toNat default = s.getD i default := rfl
    have hc := fits.cst hv (f := (i : Int)) (s := s.getD i default) ⟨a1, a2, a3, a4⟩
    have hbound : ∀ o, -(1048576 * 20) ≤ csum (ownr r) (cst r) o (((ownL r).zip s).take i) ∧ csum (ownr r) (cst r) o (((ownL r).zip s).take i) ≤ 1048576 * 20 := by
      intro o
      have := csum_bound (own := ownr r) (cost := cst r) (o := o) (b := 1048576) (l := ((ownL r).zip s).take i) (by omega) (fun p hp => by
        obtain ⟨j, hj, rfl⟩ := List.getElem_of_mem (List.mem_of_mem_take hp)
        simp at hj
        have := fits.cst hv (hf j (by omega))
        rw [getD_getElem (by omega), getD_getElem (by omega)] at this
        simp only [List.getElem_zip]; omega)
      have hle : (((ownL r).zip s).take i).length ≤ 20 := by simp; omega
      have : (1048576 : Int) * (((ownL r).zip s).take i).length ≤ 1048576 * 20 := by omega
      omega
    have e1 : (r.costs.getD (i : Int).toNat default).getD (s.getD i default).toNat default = cst r (i : Int) (s.getD i default) := rfl
    have e2 : r.owners.getD (i : Int).toNat default = ownr r (i : Int) := rfl
    have hro := hv.row i (by omega)
    have ho := hv.own i (by omega)
    have e2' : r.owners.getD i default = ownr r (i : Int) := rfl
    rw [e2'] at ho
    have hs4 := hv.s4
    have hcl : c.length = 8 := by rw [hI]; simp
    have c1 : (0 : Int) ≤ (i : Int) ∧ (i : Int) < (s.length : Int) := by omega
    have c2 : (0 : Int) ≤ (i : Int) ∧ (i : Int) < (r.owners.length : Int) := by omega
    have c3 : (0 : Int) ≤ ownr r (i : Int) ∧ ownr r (i : Int) < (c.length : Int) := by omega
    have c4 : (0 : Int) ≤ (i : Int) ∧ (i : Int) < (r.costs.length : Int) := by omega
    have c6 : (0 : Int) ≤ s.getD i default ∧ s.getD i default < ((r.costs.getD (i : Int).toNat default).length : Int) := by rw [Int.toNat_natCast]; omega
    have cs := zip_take_succ (l := ownL r) (m := s) (i := i) (by omega) h1
    rw [ownL_getD (by omega)] at cs
    simp only [decide_eq_true c1.2, cond_true, g1, ck_eq c1, ck_eq c2, e2, ck_eq c3, ck_eq c4, ck_eq c6, e1, h3]
    refine ih _ ?_
    generalize s.getD i default = v at *
    have hk : ((ownr r (i : Int)).toNat : Int) = ownr r (i : Int) := by omega
    have hg : c.getD (ownr r (i : Int)).toNat default = csum (ownr r) (cst r) (ownr r (i : Int)) (((ownL r).zip s).take i) := by rw [hI, getD_map_range (by omega), hk]
    rw [hg, wrap_i64 (by have := hbound (ownr r (i : Int)); omega) (by have := hbound (ownr r (i : Int)); omega), hI]
    refine map_range_set (by omega) ?_ ?_
    · rw [cs, csum_append, hk]; simp [csum]
    · intro j hj; rw [cs, csum_append]; simp [csum]; omega
theorem m31_eq (r : XRound) (s : List Int) (hr : smXRound r) (hl : s.length < 9223372036854775807) : m31_overflightref37_Costs r s = some (bif goodB r s then (cvec r (ownL r) s, 0) else ([], 370)) := by
  unfold m31_overflightref37_Costs goodB
  simp only [jn_eq]
  rw [m54_eq r hr]
  cases hvb : valB r
  · rfl
  have hv := Val.of hvb
  rw [m55_eq r s hv hl]
  cases ha : asgB r s
  · rfl
  · simp [m56_eq r s hv ha]
end Go.Fx
/- Chapter 38: the specification's search, groups and stability. -/
set_option linter.unusedSimpArgs false
set_option linter.unusedVariables false
namespace Go.Fx
open Go Go.RowKit
end Go.Fx
namespace Go.Fx
open Go Go.RowKit Go.Proofs
end Go.Fx
/- Chapter 38: the best round, as the specification finds it. -/
set_option linter.unusedSimpArgs false
set_option linter.unusedVariables false
namespace Go.Fx
open Go Go.RowKit
theorem m13_eq (r : XRound) (s : List Int) (hr : smXRound r) (hl : s.length < 9223372036854775807) : m13_overflightref38_Value r s = some (bif goodB r s then (valV r s, 0) else ([], 370)) := by
  unfold m13_overflightref38_Value
  rw [m31_eq r s hr hl]
  cases hg : goodB r s
  · rfl
  obtain ⟨hv, ha⟩ := good_props hg
  have h8 := hv.n8
  have hlen := (asg_props ha).1
  have hin := asg_in ha
  simp only [Option.bind_some, cond_true, ne_eq, not_true_eq_false, decide_false, cond_false]
  refine (up_list (L := fun n i (p : Int × Int) => loop3 (m13_overflightref38_Value_B0 r s) n p.1 p.2 i) (fun i p => -(1048576 * (i : Int)) ≤ p.1 ∧ p.1 ≤ 1048576 * (i : Int) ∧ 0 ≤ p.2 ∧ p.2 ≤ (i : Int)) (fun i t p => some ([p.1 + vsum r i t, p.2 + vmov i t], 0)) s (by omega) ?_ ?_ _ (0, 0) (by omega) (by simp)).trans (by simp [valV])
  · rintro n ⟨a, c⟩ _
    show loop3 (m13_overflightref38_Value_B0 r s) (n + 1) a c _ = _
    rw [loop3_succ]; unfold m13_overflightref38_Value_B0
    rw [decide_eq_false (Int.lt_irrefl _)]; simp [vsum, vmov]
  · rintro n i ⟨a, c⟩ x t h1 h2 h3 ⟨b1, b2, b3, b4⟩ ih
    simp only at b1 b2 b3 b4
    show loop3 (m13_overflightref38_Value_B0 r s) (n + 1) a c _ = _
    have ih' : ∀ a c : Int, (-(1048576 * ((i + 1 : Nat) : Int)) ≤ a ∧ a ≤ 1048576 * ((i + 1 : Nat) : Int) ∧ 0 ≤ c ∧ c ≤ ((i + 1 : Nat) : Int)) → loop3 (m13_overflightref38_Value_B0 r s) n a c ((i : Int) + 1) = some ([a + vsum r (i + 1) t, c + vmov (i + 1) t], 0) := fun a c h => ih (a, c) h
    rw [loop3_succ]
    generalize loop3 (m13_overflightref38_Value_B0 r s) n = L at ih' ⊢
    have g1 : s.getD (i : Int).toNat default = x := getD_of h2
    obtain ⟨k1, k2⟩ := hin i h1
    have g2 : s.getD i default = x := g1
    rw [g2] at k1 k2
    have hrow := hv.row i (by omega)
    have hc := fits.cst hv (f := (i : Int)) (s := x) ⟨by omega, by omega, k1, k2⟩
    have e1 : (r.costs.getD (i : Int).toNat default).getD x.toNat default = cst r i x := rfl
    have w1 : IntKind.wrap .i64 (a + cst r i x) = a + cst r i x := wrap_i64 (by omega) (by omega)
    have w2 : IntKind.wrap .i64 (c + 1) = c + 1 := wrap_i64 (by omega) (by omega)
    have hci := hv.s4
    have c1 : (0 : Int) ≤ (i : Int) ∧ (i : Int) < (s.length : Int) := by omega
    have c2 : (0 : Int) ≤ (i : Int) ∧ (i : Int) < (r.costs.length : Int) := by omega
    have c3 : (0 : Int) ≤ x ∧ x < ((r.costs.getD (i : Int).toNat default).length : Int) := by rw [Int.toNat_natCast]; omega
    unfold m13_overflightref38_Value_B0
    simp only [decide_eq_true c1.2, cond_true, ck_eq c1, g1, ck_eq c2, ck_eq c3, e1, w1, w2, h3]
    by_cases hm : x = (i : Int)
    · rw [decide_eq_false (fun h => h hm), cond_false, ih' _ _ ⟨by omega, by omega, by omega, by omega⟩]
      simp [vsum, vmov, hm]; omega
    · rw [decide_eq_true hm, cond_true, ih' _ _ ⟨by omega, by omega, by omega, by omega⟩]
      simp [vsum, vmov, hm]; omega
end Go.Fx
namespace Go.Fx
open Go Go.RowKit Go.Proofs
def m7_overflightlaw38_ClearingMoves_B2 (slots : List Int) (cycles_1 : (List (List Int)) × Int) (last_1 : Int) (v_2 : Int) (k72 : Int → (List (Int × Bool)) → Option Bool) (least_1 : Int) (map_3 : List (Int × Bool)) (sf453 : Int → Option Bool) (v_5 : Int) : Option Bool :=
 bif (decide (v_5 < (slots.length : Int))) then
  ck ((0 : Int) ≤ v_5 ∧ v_5 < (slots.length : Int)) <|
  bif (decide ((slots.getD v_5.toNat default) = ((cycles_1.1.getD v_2.toNat default).getD (IntKind.wrap .i64 (((cycles_1.1.getD v_2.toNat default).length : Int) - 1)).toNat default))) then
   some false
  else
   sf453 (IntKind.wrap .i64 (v_5 + 1))
 else
  bif (decide (least_1 ≤ last_1)) then
   some false
  else
   k72 least_1 map_3

def m7_overflightlaw38_ClearingMoves_B1 (slots : List Int) (cycles_1 : (List (List Int)) × Int) (last_1 : Int) (v_2 : Int) (k72 : Int → (List (Int × Bool)) → Option Bool) (sf100 : Int → Int → (List (Int × Bool)) → Option Bool) (least_1 : Int) (v_3 : Int) (map_3 : List (Int × Bool)) : Option Bool :=
 bif (decide (v_3 < ((cycles_1.1.getD v_2.toNat default).length : Int))) then
  ck ((0 : Int) ≤ v_3 ∧ v_3 < ((cycles_1.1.getD v_2.toNat default).length : Int)) <|
  jn (fun (v_4 : Bool) =>
   bif v_4 then
    some false
   else
    sf100 (min least_1 ((cycles_1.1.getD v_2.toNat default).getD v_3.toNat default)) (IntKind.wrap .i64 (v_3 + 1)) (mput map_3 ((cycles_1.1.getD v_2.toNat default).getD v_3.toNat default) true))
  (fun k119 =>
   bif (decide (((cycles_1.1.getD v_2.toNat default).getD v_3.toNat default) < 0)) then
    k119 true
   else
    bif (decide ((slots.length : Int) ≤ ((cycles_1.1.getD v_2.toNat default).getD v_3.toNat default))) then
     k119 true
    else
     bif ((mget map_3 ((cycles_1.1.getD v_2.toNat default).getD v_3.toNat default)).getD false) then
      k119 true
     else
      ck ((0 : Int) ≤ ((cycles_1.1.getD v_2.toNat default).getD v_3.toNat default) ∧ ((cycles_1.1.getD v_2.toNat default).getD v_3.toNat default) < (slots.length : Int)) <|
      bif (decide ((slots.getD ((cycles_1.1.getD v_2.toNat default).getD v_3.toNat default).toNat default) = ((cycles_1.1.getD v_2.toNat default).getD v_3.toNat default))) then
       k119 true
      else
       bif (decide (0 < v_3)) then
        ck ((0 : Int) ≤ ((cycles_1.1.getD v_2.toNat default).getD v_3.toNat default) ∧ ((cycles_1.1.getD v_2.toNat default).getD v_3.toNat default) < (slots.length : Int)) <|
        ck ((0 : Int) ≤ (IntKind.wrap .i64 (v_3 - 1)) ∧ (IntKind.wrap .i64 (v_3 - 1)) < ((cycles_1.1.getD v_2.toNat default).length : Int)) <|
        k119 (decide ((slots.getD ((cycles_1.1.getD v_2.toNat default).getD v_3.toNat default).toNat default) ≠ ((cycles_1.1.getD v_2.toNat default).getD (IntKind.wrap .i64 (v_3 - 1)).toNat default)))
       else
        k119 false)
 else
  ck ((0 : Int) ≤ (IntKind.wrap .i64 (((cycles_1.1.getD v_2.toNat default).length : Int) - 1)) ∧ (IntKind.wrap .i64 (((cycles_1.1.getD v_2.toNat default).length : Int) - 1)) < ((cycles_1.1.getD v_2.toNat default).length : Int)) <|
  ck ((0 : Int) ≤ 0 ∧ 0 < ((cycles_1.1.getD v_2.toNat default).length : Int)) <|
  ck ((0 : Int) ≤ ((cycles_1.1.getD v_2.toNat default).getD 0 default) ∧ ((cycles_1.1.getD v_2.toNat default).getD 0 default) < (slots.length : Int)) <|
  bif (decide ((slots.getD ((cycles_1.1.getD v_2.toNat default).getD 0 default).toNat default) = ((cycles_1.1.getD v_2.toNat default).getD (IntKind.wrap .i64 (((cycles_1.1.getD v_2.toNat default).length : Int) - 1)).toNat default))) then
   ck ((0 : Int) ≤ 0 ∧ 0 < ((cycles_1.1.getD v_2.toNat default).length : Int)) <|
   bif (decide (((cycles_1.1.getD v_2.toNat default).getD 0 default) ≠ least_1)) then
    some false
   else
    bif (decide (least_1 ≤ last_1)) then
     some false
    else
     k72 least_1 map_3
  else
   ck ((0 : Int) ≤ 0 ∧ 0 < ((cycles_1.1.getD v_2.toNat default).length : Int)) <|
   ck ((0 : Int) ≤ ((cycles_1.1.getD v_2.toNat default).getD 0 default) ∧ ((cycles_1.1.getD v_2.toNat default).getD 0 default) < (slots.length : Int)) <|
   bif (decide ((slots.getD ((cycles_1.1.getD v_2.toNat default).getD 0 default).toNat default) < (slots.length : Int))) then
    some false
   else
    loop1 (m7_overflightlaw38_ClearingMoves_B2 slots cycles_1 last_1 v_2 k72 least_1 map_3) (((slots.length : Int) - 0).toNat + 1) 0

def m7_overflightlaw38_ClearingMoves_B3 (slots : List Int) (map_1 : List (Int × Bool)) (sf475 : Int → Option Bool) (v_6 : Int) : Option Bool :=
 bif (decide (v_6 < (slots.length : Int))) then
  ck ((0 : Int) ≤ v_6 ∧ v_6 < (slots.length : Int)) <|
  bif (!(((mget map_1 v_6).getD false) == (decide ((slots.getD v_6.toNat default) ≠ v_6)))) then
   some false
  else
   sf475 (IntKind.wrap .i64 (v_6 + 1))
 else
  some true

def m7_overflightlaw38_ClearingMoves_B0 (slots : List Int) (cycles_1 : (List (List Int)) × Int) (sf58 : Int → Int → (List (Int × Bool)) → Option Bool) (last_1 : Int) (v_2 : Int) (map_1 : List (Int × Bool)) : Option Bool :=
 bif (decide (v_2 < (cycles_1.1.length : Int))) then
  jn (fun (last_2 : Int) (map_2 : List (Int × Bool)) =>
   sf58 last_2 (IntKind.wrap .i64 (v_2 + 1)) map_2)
  (fun k72 =>
   ck ((0 : Int) ≤ v_2 ∧ v_2 < (cycles_1.1.length : Int)) <|
   bif (decide (((cycles_1.1.getD v_2.toNat default).length : Int) = 0)) then
    some false
   else
    ck ((0 : Int) ≤ 0 ∧ 0 < ((cycles_1.1.getD v_2.toNat default).length : Int)) <|
    loop3 (m7_overflightlaw38_ClearingMoves_B1 slots cycles_1 last_1 v_2 k72) ((((cycles_1.1.getD v_2.toNat default).length : Int) - 0).toNat + 1) ((cycles_1.1.getD v_2.toNat default).getD 0 default) 0 map_1)
 else
  loop1 (m7_overflightlaw38_ClearingMoves_B3 slots map_1) (((slots.length : Int) - 0).toNat + 1) 0

end Go.Fx
/- Chapter 38: the cycles of all short assignments, by computation. -/
set_option linter.unusedSimpArgs false
set_option linter.unusedVariables false
namespace Go.Fx
open Go Go.RowKit
def core14 (s : List Int) : Option ((List (List Int)) × Int) := loop2 (m14_clearing_Cycles_B0 s) (((s.length : Int) - 0).toNat + 1) 0 ([] : List (Int × Int))
def core15 (s : List Int) : Option ((List (List Int)) × Int) := loop2 (m15_overflightref38_Cycles_B0 s) (((s.length : Int) - 0).toNat + 1) [] 0
def core7 (s : List Int) (c : (List (List Int)) × Int) : Option Bool := loop3 (m7_overflightlaw38_ClearingMoves_B0 s c) (((c.1.length : Int) - 0).toNat + 1) (-1) 0 ([] : List (Int × Bool))
def chkC (s : List Int) : Bool := match core14 s, core15 s with
  | some a, some b => a.2 == 0 && (b.2 == 0 && (m17_overflightref38_SameLists a.1 b.1 == some true && core7 s a == some true))
  | _, _ => false
def tupL (k : Nat) (b : List Int) : List (List Int) := dv [0, 1, 2, 3, 4, 5] (fun _ _ => true) k b
theorem tup0 : (tupL 0 []).all chkC = true := by decide +kernel
theorem tup1 : (tupL 1 []).all chkC = true := by decide +kernel
theorem tup2 : (tupL 2 []).all chkC = true := by decide +kernel
theorem tup3 : (tupL 3 []).all chkC = true := by decide +kernel
theorem tup4_0 : (tupL 3 [0]).all chkC = true := by decide +kernel
theorem tup4_1 : (tupL 3 [1]).all chkC = true := by decide +kernel
theorem tup4_2 : (tupL 3 [2]).all chkC = true := by decide +kernel
theorem tup4_3 : (tupL 3 [3]).all chkC = true := by decide +kernel
theorem tup4_4 : (tupL 3 [4]).all chkC = true := by decide +kernel
theorem tup4_5 : (tupL 3 [5]).all chkC = true := by decide +kernel
theorem tup5_0 : (tupL 4 [0]).all chkC = true := by decide +kernel
theorem tup5_1 : (tupL 4 [1]).all chkC = true := by decide +kernel
theorem tup5_2 : (tupL 4 [2]).all chkC = true := by decide +kernel
theorem tup5_3 : (tupL 4 [3]).all chkC = true := by decide +kernel
theorem tup5_4 : (tupL 4 [4]).all chkC = true := by decide +kernel
theorem tup5_5 : (tupL 4 [5]).all chkC = true := by decide +kernel
theorem tup_step {k : Nat} (h0 : (tupL k [0]).all chkC = true) (h1 : (tupL k [1]).all chkC = true) (h2 : (tupL k [2]).all chkC = true) (h3 : (tupL k [3]).all chkC = true) (h4 : (tupL k [4]).all chkC = true) (h5 : (tupL k [5]).all chkC = true) : (tupL (k + 1) []).all chkC = true := by
  unfold tupL at *
  unfold dv
  rw [List.all_flatMap, List.all_eq_true]
  have e : ∀ s : Int, (![].contains s) = true := fun s => rfl
  intro s hs
  simp only [List.nil_append, e, Bool.true_and, cond_true]
  rcases List.mem_cons.1 hs with rfl | hs
  · exact h0
  rcases List.mem_cons.1 hs with rfl | hs
  · exact h1
  rcases List.mem_cons.1 hs with rfl | hs
  · exact h2
  rcases List.mem_cons.1 hs with rfl | hs
  · exact h3
  rcases List.mem_cons.1 hs with rfl | hs
  · exact h4
  rcases List.mem_cons.1 hs with rfl | hs
  · exact h5
  · cases hs
theorem tup_all {n : Nat} (h : n ≤ 5) : (tupL n []).all chkC = true := by
  have hn : n = 0 ∨ n = 1 ∨ n = 2 ∨ n = 3 ∨ n = 4 ∨ n = 5 := by omega
  rcases hn with rfl | rfl | rfl | rfl | rfl | rfl
  · exact tup0
  · exact tup1
  · exact tup2
  · exact tup3
  · exact tup_step tup4_0 tup4_1 tup4_2 tup4_3 tup4_4 tup4_5
  · exact tup_step tup5_0 tup5_1 tup5_2 tup5_3 tup5_4 tup5_5
theorem chk_asg {r : XRound} {s : List Int} (h5 : r.owners.length ≤ 5) (h6 : r.slots ≤ 6) (h : asgB r s = true) : chkC s = true := by
  obtain ⟨h1, h2⟩ := asg_props h
  refine List.all_eq_true.1 (tup_all (n := s.length) (by omega)) s ?_
  unfold tupL
  rw [mem_dv]
  refine ⟨s, by simp, rfl, gd_get.2 fun i hi => ?_⟩
  obtain ⟨b1, b2, b3, b4⟩ := h2 i hi
  refine ⟨?_, rfl, by simp, b4⟩
  generalize s.getD i default = x at b1 b2
  have : x = 0 ∨ x = 1 ∨ x = 2 ∨ x = 3 ∨ x = 4 ∨ x = 5 := by omega
  rcases this with rfl | rfl | rfl | rfl | rfl | rfl <;> simp
theorem core_asg {r : XRound} {s : List Int} (h5 : r.owners.length ≤ 5) (h6 : r.slots ≤ 6) (h : asgB r s = true) :
    ∃ A B, core14 s = some (A, 0) ∧ core15 s = some (B, 0) ∧ m17_overflightref38_SameLists A B = some true ∧ core7 s (A, 0) = some true := by
  have hc := chk_asg h5 h6 h
  unfold chkC at hc
  cases h14 : core14 s with
  | none => rw [h14] at hc; cases hc
  | some a =>
    cases h15 : core15 s with
    | none => rw [h14, h15] at hc; cases hc
    | some b =>
      rw [h14, h15] at hc
      simp only [Bool.and_eq_true, beq_iff_eq] at hc
      obtain ⟨c1, c2, c3, c4⟩ := hc
      obtain ⟨a1, a2⟩ := a
      obtain ⟨b1, b2⟩ := b
      simp only at c1 c2 c3
      subst c1 c2
      exact ⟨a1, b1, rfl, rfl, c3, c4⟩
end Go.Fx
/- ClearingCyclesSpec. -/
set_option linter.unusedSimpArgs false
set_option linter.unusedVariables false
namespace Go.Fx
open Go Go.RowKit
theorem few_props {r : XRound} (h : (fewB r && (decide ((r.owners.length : Int) ≤ 5) && decide (r.slots ≤ 6))) = true) : r.owners.length ≤ 5 ∧ r.slots ≤ 6 := by
  simp only [Bool.and_eq_true, decide_eq_true_eq] at h
  omega
theorem ClearingCyclesSpec_law (r : XRound) (s : List Int) (hr : smXRound r) (hs : SmL (InK .i64) s) : m3_overflightlaw38_ClearingCyclesSpec r s = some true := by
  have ls : s.length < 9223372036854775807 := by have := hs.1; omega
  unfold m3_overflightlaw38_ClearingCyclesSpec
  rw [sane38, m11_eq r hr]
  simp only [Option.bind_some, Bool.not_true, cond_false, jn_eq]
  cases hfew : (fewB r && (decide ((r.owners.length : Int) ≤ 5) && decide (r.slots ≤ 6)))
  · rfl
  obtain ⟨n5, n6⟩ := few_props hfew
  simp only [Bool.not_true, cond_false]
  cases decide (20 < (s.length : Int))
  rotate_left
  · rfl
  simp only [cond_false]
  have hV := m12_eq r s hr ls
  have hW := m13_eq r s hr ls
  have e14 : m14_clearing_Cycles r s = bif goodB r s then core14 s else some ([], 370) := by
    unfold m14_clearing_Cycles
    rw [m22_eq r s hr ls]
    cases goodB r s <;> rfl
  have e15 : m15_overflightref38_Cycles r s = bif goodB r s then core15 s else some ([], 370) := by
    unfold m15_overflightref38_Cycles
    rw [m31_eq r s hr ls]
    cases goodB r s <;> rfl
  rw [hV, hW, e14, e15]
  cases hg : goodB r s
  · have h17 : m17_overflightref38_SameLists [] [] = some true := by decide +kernel
    simp only [cond_false, Option.bind_some]
    rw [m16_eq _ _ (by decide), h17]; rfl
  · obtain ⟨A, B, h1, h2, h3, h4⟩ := core_asg n5 n6 (good_props hg).2
    simp only [cond_true, Option.bind_some]
    rw [h1, h2, m16_eq _ _ (by simp [valV])]
    simp only [Option.bind_some, decide_true, cond_true, h3]
end Go.Fx
namespace Go.Proofs.Ytnenhpedfcngbaa.lawClearingCyclesSpec
open Go Go.Proofs Go.ChangeShapes Go.WideShapes Go.ChangeAt Go.RowKit Go.Fx
open Go.ChangeMaps (open_string shut_string)
set_option linter.unusedVariables false
set_option maxRecDepth 100000
theorem own : ownKnob Try.prog.godebug = none := by kernel_rfl
theorem laidOut : laidOutB Try.prog = true := by kernel_rfl
set_option maxRecDepth 100000 in
set_option maxHeartbeats 1000000 in
theorem lifted (os : Os) (started : os.Started) (H : Type) (enc : TypeId × Value → H) :
    ReturnsInHanded {} Try.checked os 3 .any (Rows.clearingCyclesSpecSpec.pre6 enc Try.prog Try.f3 Rows.clearingCyclesSpecRow.domain false) (Rows.clearingCyclesSpecSpec.post enc Try.prog Try.f3 false true false false) := by
  refine returnsInHanded_of_change_sized (C := Try.checked) own started (by kernel_rfl) Try.func3
    (ChangeSpec.witness6 (enc := enc) (C := Try.checked) false ⟨#[], #[.agg #[(.int .i64 0), (.slice none 0 0), (.slice none 0 0)], (.slice none 0 0)], []⟩ 8 (by kernel_rfl) (by kernel_rfl) (by kernel_rfl) (by kernel_rfl)) ?_
  intro W base args ds gs before hval0 hW hcnd hsz _
  have hval : ∀ (j : Nat) t v, Try.f3.params[j]? = some t → args[j]? = some v → Value.okWide Try.prog W .any base t v := hval0
  have hW' := hW
  obtain ⟨p, q, hA0, hV, rfl, hfz, hnd⟩ := hW
  have hA : DataW.TrodAll enc Try.prog W 0 (fun _ => true) true Try.f3.params.toList args.toList ds p := hA0
  rw [Try.params3] at hA hval
  obtain ⟨v0, vs0, d0, ds0, p0, q0, hargs, rfl, rfl, h0, r0⟩ := trodAll_cons hA
  obtain ⟨v1, vs1, d1, ds1, p1, q1, rfl, rfl, rfl, h1, r1⟩ := trodAll_cons r0
  obtain ⟨rfl, rfl, rfl⟩ := trodAll_nil r1
  obtain rfl : args = #[v0, v1] := by cases args; simp_all
  obtain ⟨rfl, rfl⟩ := trodVars_none hV
  have k0 := h0
  have lt0 : ∀ x ∈ p0, x.block < W.heap.size := by obtain ⟨m, hm⟩ := k0; exact DataW.trod_lt m _ _ _ hm
  obtain ⟨fu0, hf0⟩ := h0
  obtain ⟨r_, rr0, sm0⟩ := rd25.2 _ _ _ hf0
  replace sm0 := sm0 (fun n hn => by have := List.all_eq_true.1 hsz n (DataW.weights_mem_each (j := 0) (t := 25) rfl rfl n hn); simpa using this)
  obtain ⟨⟨cs0⟩, rfl, _⟩ := okWide_struct Try.underlying25 (hval 0 25 v0 rfl rfl)
  replace rr0 : rXRound.rd W [] cs0 r_ := rr0
  obtain ⟨_, _, rfl, ⟨rfl, r_r__slots⟩, ⟨_, _, rfl, ⟨a_r__owners, c_r__owners, rfl, f_r__owners⟩, ⟨a_r__costs, c_r__costs, rfl, f_r__costs⟩⟩⟩ := rr0
  have k1 := h1
  have lt1 : ∀ x ∈ p1, x.block < W.heap.size := by obtain ⟨m, hm⟩ := k1; exact DataW.trod_lt m _ _ _ hm
  obtain ⟨fu1, hf1⟩ := h1
  obtain ⟨slots, rr1, sm1⟩ := rd22.2 _ _ _ hf1
  replace sm1 := sm1 (fun n hn => by have := List.all_eq_true.1 hsz n (DataW.weights_mem_each (j := 1) (t := 22) rfl rfl n hn); simpa using this)
  obtain ⟨b1, l1, c1, rfl⟩ := okWide_slice Try.underlying22 (hval 1 22 v1 rfl rfl)
  replace rr1 : (rSl (rInt .i64)).rd W [] [.slice b1 l1 c1] slots := rr1
  obtain ⟨a_slots, c_slots, e1, f_slots⟩ := un_sl rr1
  simp only [Value.slice.injEq] at e1
  obtain ⟨rfl, rfl, rfl⟩ := e1
  have hm : m3_overflightlaw38_ClearingCyclesSpec r_ slots = some true := ClearingCyclesSpec_law _ _ sm0 sm1
  have hc := Fn.calls (c3_overflightlaw38_ClearingCyclesSpec (r_ := r_) (slots := slots) (w := W) (O := []) (by simp) r_r__slots f_r__owners f_r__costs f_slots hm)
  clear hA0 hval0
  refine Calls.mono hc ?_
  rintro e W' ⟨v, rfl, bel, hv⟩
  replace bel := bel.below; obtain rfl : v = .bool true := hv
  exact ⟨_, rfl, _, _, _, [], _, [], hW', trodAll_mk1 (shut_bool Try.underlying4 _), (trodAll_cons_mk (Below.trod laidOut (by kernel_rfl) (of_decide_eq_true (by kernel_rfl)) k0 bel lt0) (trodAll_cons_mk (Below.trod laidOut (by kernel_rfl) (of_decide_eq_true (by kernel_rfl)) k1 bel lt1) trodAll_mk0)), rfl, bel.frame _, fun h => by cases h⟩
theorem over : Rows.clearingCyclesSpecRow.holds Try.pinned (OpenSpec.ofChange Rows.clearingCyclesSpecSpec) :=
  OpenClaim.holds_of_wide 3 Try.f3 rfl rfl rfl rfl rfl rfl rfl ⟨rfl, rfl, rfl, rfl, rfl⟩ rfl rfl rfl rfl rfl (by kernel_rfl) Try.func3 (by kernel_rfl)
    (of_decide_eq_true (by kernel_rfl)) (by unfold Func.isWrapper; first | (rw [if_pos (by decide +kernel)]; kernel_rfl) | (rw [if_neg (by decide +kernel)]; exact ⟨rfl, rfl⟩))
    (fun os started H enc _ => lifted os started H enc)
theorem proved : Rows.ClearingCyclesSpecSaid := over
end Go.Proofs.Ytnenhpedfcngbaa.lawClearingCyclesSpec
