/- Part 3 of the proof: for every list of vectors and number, the law VectorAgain of chapter 06 returns true. -/
import Derived.Test.YteohplgecfdafaaAgain2
set_option linter.unusedVariables false
set_option linter.unusedSimpArgs false
set_option maxRecDepth 100000
set_option maxHeartbeats 0
namespace Go.Fx
open Go Go.RowKit Go.Proofs
def m36_vector_alike (l : List (List Int)) (ask : Option ((List Int) → Option Bool)) : Option Bool :=
  (m42_slices_ContainsFuncint_int_ l (some (fun x17 => m49_vector_alike_1 x17 l ask))).bind fun containsfunc_1 =>
  some (!containsfunc_1)

theorem c36_vector_alike {w : World} {O : List Nat} {l : List (List Int)} {ask : Option ((List Int) → Option Bool)} {a_l : Option Addr} {c_l : Nat} {v_ask : Value} (hO : ∀ k ∈ O, k < w.heap.size) (f_l : SlR (rSl (rInt .i64)) w O a_l c_l l) (F_ask : CallsO1 Try.prog w O v_ask (vC (rSl (rInt .i64))) vB ask) {x : Bool} (hm : m36_vector_alike l ask = some x) :
    Ok Try.prog 36 [(Value.slice a_l l.length c_l), v_ask] w O vB x := by
  unfold m36_vector_alike at hm
  refine Fn_of_Wp (n := 9) (xs := [.tmp 4]) Try.func36 rfl Try.ntmps36 Try.results36 rfl ?_
  have hs := St.start hO
  refine Wp_seq ?_
  refine Wp_region ?_  -- 0 vector.go:32
  refine Rg_op rfl (op_box (cs := [(Value.slice a_l l.length c_l)]) hs rfl rfl ?_)
  intro b1 w2 _ p3 hs4
  replace f_l := f_l.step p3
  replace F_ask := F_ask.step p3
  clear p3
  refine Rg_op rfl (op_box (cs := [v_ask]) hs4 (show ev _ _ = v_ask from rfl) F_ask.cells ?_)
  intro b6 w7 _ p8 hs9
  replace f_l := f_l.step p8
  replace F_ask := F_ask.step p8
  clear p8 hs4
  refine Rg_op rfl (op_assign (v := (Value.bool false)) rfl ?_)
  refine Rg_nil ?_
  refine Wp_seq ?_
  refine Wp_region ?_  -- 1 vector.go:33
  refine Rg_op rfl (op_load (cs := [(Value.slice a_l l.length c_l)]) (i := 1) ty33 hs9 rfl rfl rfl ?_)
  obtain ⟨hs12, p13, f11⟩ := St.publishP (p := (rSl (rSl (rInt .i64)))) (i := 1) (x := l) hs9 rfl (mk_sl f_l)
  replace f_l := f_l.step p13
  replace F_ask := F_ask.step p13
  clear p13 hs9
  obtain ⟨hs15, p16, f14⟩ := St.publishP (p := (rFO Try.prog (vC (rSl (rInt .i64))) vB)) (i := 0) (x := ask) hs12 rfl (mk_fo F_ask)
  replace f_l := f_l.step p16
  replace F_ask := F_ask.step p16
  replace f11 := f11.step p16
  clear p16 hs12
  refine Rg_op rfl (op_makeFunc' (a' := []) (c' := [(Value.pointer (some (⟨b1, 0, none⟩ : Addr))), (Value.pointer (some (⟨b6, 0, none⟩ : Addr)))]) rfl rfl ?_)
  have F18 : CallsTo1 Try.prog w7 (ks [] O) (Value.func (.func 49) #[] #[(Value.pointer (some (⟨b1, 0, none⟩ : Addr))), (Value.pointer (some (⟨b6, 0, none⟩ : Addr)))]) (vC (rSl (rInt .i64))) vB (fun x17 => m49_vector_alike_1 x17 l ask) := by
    intro w19 O20 st21 hO22 v25 x17 y23 h26 hy24
    obtain ⟨a_y27, c_y27, rfl, f_y27⟩ := un_sl h26
    exact ⟨49, #[], #[(Value.pointer (some (⟨b1, 0, none⟩ : Addr))), (Value.pointer (some (⟨b6, 0, none⟩ : Addr)))], rfl, Try.call49, c49_vector_alike_1 (a := x17) hO22 f_y27 (f11.step st21) (f14.step st21) hy24⟩
  replace hm := bd hm; obtain ⟨containsfunc_1, hv28, hm⟩ := hm
  refine Rg_op rfl (op_call Try.call42 (c42_slices_ContainsFuncint_int_ (s := l) (f := (some (fun x17 => m49_vector_alike_1 x17 l ask))) hs15.ltw f_l (CallsO1.some_ F18) hv28) rfl ?_)
  rintro v29 w30 ⟨hx31, h32⟩
  have hs33 := hs15.call hx31
  have p34 := Step.ext (O := ks [] O) hx31
  clear hx31
  replace f_l := f_l.step p34
  replace F_ask := F_ask.step p34
  replace f11 := f11.step p34
  replace f14 := f14.step p34
  replace F18 := F18.step p34
  clear p34 hs15
  obtain rfl := h32
  refine Rg_op rfl (op_not rfl ?_)
  refine Rg_op rfl (op_assign (v := (Value.bool (!containsfunc_1))) rfl ?_)
  refine Rg_nil ?_
  refine Wp_ret ?_
  have hz := step_all hs33
  replace f_l := f_l.step hz
  replace F_ask := F_ask.step hz
  replace f11 := f11.step hz
  replace f14 := f14.step hz
  replace F18 := F18.step hz
  refine ⟨_, (show Closes [] _ _ from rfl), [(Value.bool (!containsfunc_1))], ⟨rfl, trivial⟩, hs33.ext, ?_⟩
  exact Vr.eq (a := vB) (x := (!containsfunc_1)) rfl (Option.some.inj hm)

end Go.Fx


set_option linter.unusedVariables false
set_option linter.unusedSimpArgs false
set_option maxRecDepth 100000
set_option maxHeartbeats 0
namespace Go.Fx
open Go Go.RowKit Go.Proofs
def m50_slices_Cloneint_int_ (s : List (List Int)) : Option (List (List Int)) :=
  ck ((([] : List (List Int)).length + s.length) * 24 ≤ 140737488355328) <|
  some (([] : List (List Int)) ++ s)

theorem g50_slices_Cloneint_int_ {w : World} {O : List Nat} {s : List (List Int)} {a_s : Option Addr} {c_s : Nat} (hO : ∀ k ∈ O, k < w.heap.size) (f_s : SlR (rSl (rInt .i64)) w O a_s c_s s) {x : (List (List Int))} (hm : m50_slices_Cloneint_int_ s = some x) :
    OkG Try.prog 50 [(Value.slice a_s s.length c_s)] w O (rSl (rInt .i64)) 22 x := by
  unfold m50_slices_Cloneint_int_ at hm
  refine Fn_of_Wp (n := 8) (xs := [.tmp 2]) Try.func50 rfl Try.ntmps50 Try.results50 rfl ?_
  have hs := St.start hO
  refine Wp_seq ?_
  refine Wp_region ?_  -- 0 slices.go:355
  refine Rg_op rfl (op_assign (v := (Value.slice none 0 0)) rfl ?_)
  refine Rg_nil ?_
  refine Wp_seq ?_
  refine Wp_seq ?_
  refine Wp_region ?_  -- 1 slices.go:357
  refine Rg_op rfl (op_move (v := (Value.slice a_s s.length c_s)) rfl ?_)
  refine Rg_op rfl (op_eqnil Try.underlying33 rfl rfl ?_)
  refine Rg_nil ?_
  rcases a_s with _ | ad1
  ·
    have hnil2 := (f_s.nil rfl).1
    refine Wp_cond_t rfl ?_
    refine Wp_seq ?_
    clear f_s
    refine Wp_region ?_  -- 2 slices.go:358
    refine Rg_op rfl (op_assign (v := (Value.slice none 0 0)) rfl ?_)
    refine Rg_nil ?_
    refine Wp_ret ?_
    refine ⟨_, (show Closes [] _ _ from rfl), [(Value.slice none 0 0)], ⟨rfl, trivial⟩, hs.ext, ?_⟩
    exact OkG.mkNil (by simp [ck, hnil2] at hm; first | exact hm | (subst hm; simp [hnil2]) | simpa using hm)
  ·
    refine Wp_cond_f rfl ?_
    refine Wp_skip ?_
    refine Wp_seq ?_
    refine Wp_region ?_  -- 3 slices.go:362
    refine Rg_op rfl (op_buildSlice (cs := []) (parts := []) ty33 ty22 hs (by decide) rfl ?_)
    intro b3 w4 hx7 p5 hs6
    replace f_s := f_s.step p5
    clear p5
    refine Rg_op rfl (op_move (v := (Value.slice (some ad1) s.length c_s)) rfl ?_)
    have f9 := Gs.of_cells (p := (rSl (rInt .i64))) (e := 22) (bl := b3) (c := 0) (w := w4) (O := ks [(some b3, Obj.cells [].toArray 22)] O) (show Els (rSl (rInt .i64)) _ _ [] [] from Els.nil) rfl (le_lit rfl)
    replace hm := ck_some hm; obtain ⟨hc10, hm⟩ := hm
    obtain ⟨ns11, he12, hr13⟩ := f_s.src
    refine Rg_op rfl (op_append (q := (rSl (rInt .i64))) (i := 0) (xs := ([] : List (List Int))) (ys := s) (news := ns11) ty33 ty22 rfl (by decide) hs6 rfl rfl f9 rfl hr13 he12 hc10 (by have := hc10; simp only [maxLen]; omega) ?_)
    intro a17 c18 k19 o20 w14 p15 hs16 f21
    replace f_s := f_s.step p15
    clear p15 hs6
    refine Rg_op rfl (op_assign (v := (Value.slice a17 (([] : List (List Int)) ++ s).length c18)) rfl ?_)
    refine Rg_nil ?_
    refine Wp_ret ?_
    refine ⟨_, (show Closes [] _ _ from rfl), [(Value.slice a17 (([] : List (List Int)) ++ s).length c18)], ⟨rfl, trivial⟩, hs16.ext, ?_⟩
    exact OkG.mk (i := 0) hs16 rfl f21 (Option.some.inj hm)
theorem c50_slices_Cloneint_int_ {w : World} {O : List Nat} {s : List (List Int)} {a_s : Option Addr} {c_s : Nat} (hO : ∀ k ∈ O, k < w.heap.size) (f_s : SlR (rSl (rInt .i64)) w O a_s c_s s) {x : (List (List Int))} (hm : m50_slices_Cloneint_int_ s = some x) :
    Ok Try.prog 50 [(Value.slice a_s s.length c_s)] w O (vC (rSl (rSl (rInt .i64)))) x :=
  (g50_slices_Cloneint_int_ hO f_s hm).ok hO

end Go.Fx


set_option linter.unusedVariables false
set_option linter.unusedSimpArgs false
set_option maxRecDepth 100000
set_option maxHeartbeats 0
namespace Go.Fx
open Go Go.RowKit Go.Proofs
def m52_vector_least_1 (b : List Int) (fv0_ : List Int) : Option Bool :=
  (m32_vector_below b fv0_).bind fun below_1 =>
  some below_1

theorem c52_vector_least_1 {w : World} {O : List Nat} {b : List Int} {fv0_ : List Int} {a_b : Option Addr} {c_b : Nat} {p_fv0_ : Addr} (hO : ∀ k ∈ O, k < w.heap.size) (f_b : SlR (rInt .i64) w O a_b c_b b) (f_fv0_ : PtR (rSl (rInt .i64)) w O p_fv0_ fv0_) {x : Bool} (hm : m52_vector_least_1 b fv0_ = some x) :
    Ok Try.prog 52 [(Value.slice a_b b.length c_b), (Value.pointer (some p_fv0_))] w O vB x := by
  unfold m52_vector_least_1 at hm
  refine Fn_of_Wp (n := 7) (xs := [.tmp 3]) Try.func52 rfl Try.ntmps52 Try.results52 rfl ?_
  have hs := St.start hO
  refine Wp_seq ?_
  refine Wp_region ?_  -- 0 vector.go:77
  refine Rg_op rfl (op_assign (v := (Value.bool false)) rfl ?_)
  refine Rg_nil ?_
  refine Wp_seq ?_
  refine Wp_region ?_  -- 1 vector.go:77
  refine Rg_op rfl (op_move (v := (Value.slice a_b b.length c_b)) rfl ?_)
  refine Rg_op rfl (op_loadP ty22 rfl f_fv0_ rfl ?_)
  intro v1 h2
  obtain ⟨a_y3, c_y3, rfl, f_y3⟩ := un_sl h2
  replace hm := bd hm; obtain ⟨below_1, hv4, hm⟩ := hm
  refine Rg_op rfl (op_call Try.call32 (c32_vector_below (a := b) (b := fv0_) hs.ltw f_b f_y3 hv4) rfl ?_)
  rintro v5 w6 ⟨hx7, h8⟩
  have hs9 := hs.call hx7
  have p10 := Step.ext (O := ks [] O) hx7
  clear hx7
  replace f_b := f_b.step p10
  replace f_fv0_ := f_fv0_.step p10
  replace f_y3 := f_y3.step p10
  clear p10
  obtain rfl := h8
  refine Rg_op rfl (op_assign (v := (Value.bool below_1)) rfl ?_)
  refine Rg_nil ?_
  refine Wp_ret ?_
  have hz := step_all hs9
  replace f_b := f_b.step hz
  replace f_fv0_ := f_fv0_.step hz
  replace f_y3 := f_y3.step hz
  refine ⟨_, (show Closes [] _ _ from rfl), [(Value.bool below_1)], ⟨rfl, trivial⟩, hs9.ext, ?_⟩
  exact Vr.eq (a := vB) (x := below_1) rfl (Option.some.inj hm)

end Go.Fx


set_option linter.unusedVariables false
set_option linter.unusedSimpArgs false
set_option maxRecDepth 100000
set_option maxHeartbeats 0
namespace Go.Fx
open Go Go.RowKit Go.Proofs
def m37_vector_least_B0 (sorted_1 : List (List Int)) (sf56 : (List (List Int)) → Int → Option (List (List Int))) (x_1 : List (List Int)) (v_1 : Int) : Option (List (List Int)) :=
  bif (decide (v_1 < (sorted_1.length : Int))) then
    ck ((0 : Int) ≤ v_1 ∧ v_1 < (sorted_1.length : Int)) <|
    (m42_slices_ContainsFuncint_int_ x_1 (some (fun x85 => m52_vector_least_1 x85 (sorted_1.getD v_1.toNat default)))).bind fun containsfunc_1 =>
    bif (!containsfunc_1) then
      ck ((x_1.length + [(sorted_1.getD v_1.toNat default)].length) * 24 ≤ 140737488355328) <|
      sf56 (x_1 ++ [(sorted_1.getD v_1.toNat default)]) (IntKind.wrap .i64 (v_1 + 1))
    else
      sf56 x_1 (IntKind.wrap .i64 (v_1 + 1))
  else
    some x_1

def m37_vector_least (l : List (List Int)) : Option (List (List Int)) :=
  (m50_slices_Cloneint_int_ l).bind fun clone_1 =>
  (sortM (fun x15 x16 => m34_slices_Compareint_int_ x15 x16) clone_1).bind fun sorted_1 =>
  ck (clone_1.length < 4611686018427387904) <|
  loop2 (m37_vector_least_B0 sorted_1) (((sorted_1.length : Int) - 0).toNat + 1) ([] : List (List Int)) 0

theorem g37_vector_least {w : World} {O : List Nat} {l : List (List Int)} {a_l : Option Addr} {c_l : Nat} (hO : ∀ k ∈ O, k < w.heap.size) (f_l : SlR (rSl (rInt .i64)) w O a_l c_l l) {x : (List (List Int))} (hm : m37_vector_least l = some x) :
    OkG Try.prog 37 [(Value.slice a_l l.length c_l)] w O (rSl (rInt .i64)) 22 x := by
  unfold m37_vector_least at hm
  refine Fn_of_Wp (n := 25) (xs := [.tmp 2]) Try.func37 rfl Try.ntmps37 Try.results37 rfl ?_
  have hs := St.start hO
  refine Wp_seq ?_
  refine Wp_region ?_  -- 0 vector.go:73
  refine Rg_op rfl (op_assign (v := (Value.slice none 0 0)) rfl ?_)
  refine Rg_nil ?_
  refine Wp_seq ?_
  refine Wp_region ?_  -- 1 vector.go:74
  refine Rg_op rfl (op_move (v := (Value.slice a_l l.length c_l)) rfl ?_)
  replace hm := bd hm; obtain ⟨clone_1, hv1, hm⟩ := hm
  refine Rg_op rfl (op_call Try.call50 (g50_slices_Cloneint_int_ (s := l) hs.ltw f_l hv1) rfl ?_)
  rintro _ w3 ⟨hx4, a7, c8, k9, o10, rfl, hk11, f12⟩
  obtain ⟨hs6, p13⟩ := hs.callG (o := o10) hx4 hk11
  rw [← ks_cons (o := o10)] at f12
  replace f_l := f_l.step p13
  clear p13
  refine Rg_op rfl (op_assign (v := (Value.slice a7 clone_1.length c8)) rfl ?_)
  refine Rg_nil ?_
  refine Wp_seq ?_
  clear f_l
  refine Wp_region ?_  -- 2 vector.go:75
  refine Rg_op rfl (op_move (v := (Value.slice a7 clone_1.length c8)) rfl ?_)
  have F17 : CallsTo2 Try.prog w3 (ks [(k9, o10)] O) (Value.func (.func 34) #[] #[]) (vC (rSl (rInt .i64))) (vC (rSl (rInt .i64))) (vI .i64) (fun x15 x16 => m34_slices_Compareint_int_ x15 x16) := by
    intro w18 O19 st20 hO21 v24 v25 x15 x16 y22 h26 h27 hy23
    obtain ⟨a_y28, c_y28, rfl, f_y28⟩ := un_sl h26
    obtain ⟨a_y29, c_y29, rfl, f_y29⟩ := un_sl h27
    exact ⟨34, #[], #[], rfl, Try.call34, c34_slices_Compareint_int_ (s1_ := x15) (s2_ := x16) hO21 f_y28 f_y29 hy23⟩
  replace hm := bd hm; obtain ⟨sorted_1, hv30, hm⟩ := hm
  replace hm := ck_some hm; obtain ⟨hc31, hm⟩ := hm
  have F39 : CallsTo2 Try.prog w3 (ks [(k9, o10)] O) (Value.func (.func 34) #[] #[]) (vC (rSl (rInt .i64))) (vC (rSl (rInt .i64))) (vI .i64) (fun x37 x38 => m34_slices_Compareint_int_ x37 x38) := by
    intro w40 O41 st42 hO43 v46 v47 x37 x38 y44 h48 h49 hy45
    obtain ⟨a_y50, c_y50, rfl, f_y50⟩ := un_sl h48
    obtain ⟨a_y51, c_y51, rfl, f_y51⟩ := un_sl h49
    exact ⟨34, #[], #[], rfl, Try.call34, c34_slices_Compareint_int_ (s1_ := x37) (s2_ := x38) hO43 f_y50 f_y51 hy45⟩
  refine Rg_op rfl (op_sortG (q := (rSl (rInt .i64))) (i := 0) (caps := #[]) sortL51 rfl Try.call51 rfl Try.call34 hs6 rfl f12 F17 hv30 hc31 rfl ?_)
  intro w32 o33 hs34 p35 f36
  replace F17 := F17.step p35
  replace F39 := F39.step p35
  clear p35 hs6
  refine Rg_nil ?_
  refine Wp_seq ?_
  refine Wp_seq ?_
  clear F17 F39
  refine Wp_region ?_  -- 3 vector.go:76
  refine Rg_op rfl (op_move (v := (Value.slice a7 sorted_1.length c8)) (eqlen rfl (show clone_1.length = sorted_1.length from by rw [sortM_len hv30])) ?_)
  refine Rg_op rfl (op_len Try.underlying33 rfl ?_)
  refine Rg_op rfl (op_move (v := (Value.int .i64 0)) rfl ?_)
  refine Rg_nil ?_
  refine Wp_block ?_
  refine Wp_reset [] [(2, (Value.slice none 0 0)), (9, (Value.slice a7 sorted_1.length c8)), (10, (Value.int .i64 (sorted_1.length : Int))), (11, (Value.int .i64 0))] rfl ⟨rfl, rfl, rfl, rfl, trivial⟩ fun ξ55 => ?_
  have hs60 := hs34.ghost (Obj.cells #[] 22)
  refine Wp_loopM [2, 4, 11, 12, 13, 14, 15, 16, 17, 18, 19, 20, 21, 22, 23] (fun m fr w' => ∃ (x_1 : List (List Int)) (v_1 : Int) (a_g53 : Option Addr) (c_g53 : Nat) (k_g53 : Option Nat) (o_g53 : Obj) (Ebs : Ents), Ebs = [(k_g53, o_g53), (k9, o33)] ∧ fr [] [(2, (Value.slice a_g53 x_1.length c_g53)), (11, (Value.int .i64 v_1))] ∧ Step (ks [(none, (Obj.cells #[] 22)), (k9, o33)] O) w32 (ks Ebs O) w' ∧ St ⟨w, [], []⟩ O w' Ebs ∧ Gs (rSl (rInt .i64)) 22 w' (ks Ebs O) a_g53 c_g53 x_1 k_g53 o_g53 ∧ InK .i64 v_1 ∧ loop2 (m37_vector_least_B0 sorted_1) m x_1 v_1 = some x) (((sorted_1.length : Int) - 0).toNat + 1) ⟨([] : List (List Int)), 0, none, 0, none, (Obj.cells #[] 22), _, rfl, ⟨Out.refl _ _, rfl, rfl, rfl, trivial⟩, Step.refl _ _, hs60, Gs.nil_, (show InK .i64 0 from by decide), hm⟩ ?_ ?_
  · rintro _ _ ⟨_, _, _, _, _, _, _, _, _, _, _, _, _, hm⟩; exact loop2_z hm
  · rintro m59 K58 hK58 ρ66 w62 ⟨x_1, v_1, a_g53, c_g53, k_g53, o_g53, Ebs, hEbs, hfr65, hst64, hs63, f_g53, r_y54, hm⟩
    obtain ⟨sf56, hsf57, hm⟩ := loop2_s hm; unfold m37_vector_least_B0 at hm
    subst hEbs; rw [hfr65.eq]; clear hfr65
    replace f36 := f36.step hst64
    have ch67 := hst64
    refine Wp_seq ?_
    refine Wp_region ?_  -- 4 vector.go:76
    refine Rg_op rfl (op_lss rfl rfl ?_)
    refine Rg_nil ?_
    refine Wp_seq ?_
    refine Wp_cond rfl (fun hc68 => ?_) (fun hc68 => ?_)
    ·
      replace hm := bif_t hm hc68
      refine Wp_skip ?_
      refine Wp_seq ?_
      refine Wp_block ?_
      refine Wp_seq ?_
      refine Wp_region ?_  -- 5 vector.go:76
      replace hm := ck_some hm; obtain ⟨hc69, hm⟩ := hm
      refine Rg_op rfl (op_indexAddrG ty33 ty22 rfl rfl f36 hc69 ?_)
      rintro b70 rfl rfl
      refine Rg_op rfl (op_loadG (i := 1) ty22 rfl hs63 rfl rfl f36 hc69 ?_)
      intro v71 h72
      obtain ⟨a_y73, c_y73, rfl, f_y73⟩ := un_sl h72
      refine Rg_op rfl (op_alloc ty22 hs63 ?_)
      intro b74 w75 _ p76 hs77
      replace f36 := f36.step p76
      replace f_g53 := f_g53.step p76
      replace f_y73 := f_y73.step p76
      replace ch67 := ch67.trans p76
      clear p76 hs63
      refine Rg_op_ (op_store (cs := [(Value.slice none 0 0)]) (vs := [(Value.slice a_y73 (sorted_1.getD v_1.toNat default).length c_y73)]) (cs' := [(Value.slice a_y73 (sorted_1.getD v_1.toNat default).length c_y73)]) (bs' := [(some b74, Obj.cells [(Value.slice a_y73 (sorted_1.getD v_1.toNat default).length c_y73)].toArray 22), (k_g53, o_g53), (some b70, o33)]) (i := 0) ty22 hs77 rfl rfl rfl rfl rfl (le_lit rfl) rfl rfl rfl ?_)
      intro w79 p80 hs81
      replace f36 := f36.step p80
      replace f_g53 := f_g53.step p80
      replace f_y73 := f_y73.step p80
      replace ch67 := ch67.trans p80
      clear p80 hs77
      refine Rg_nil ?_
      refine Wp_seq ?_
      refine Wp_region ?_  -- 6 vector.go:77
      refine Rg_op rfl (op_move (v := (Value.slice a_g53 x_1.length c_g53)) rfl ?_)
      obtain ⟨hs83, p84, f82⟩ := St.publishP (p := (rSl (rInt .i64))) (i := 0) (x := (sorted_1.getD v_1.toNat default)) hs81 rfl (mk_sl f_y73)
      replace f36 := f36.step p84
      replace f_g53 := f_g53.step p84
      replace f_y73 := f_y73.step p84
      replace ch67 := ch67.trans p84
      clear p84 hs81
      refine Rg_op rfl (op_makeFunc' (a' := []) (c' := [(Value.pointer (some (⟨b74, 0, none⟩ : Addr)))]) rfl rfl ?_)
      have F86 : CallsTo1 Try.prog w79 (ks [(k_g53, o_g53), (some b70, o33)] O) (Value.func (.func 52) #[] #[(Value.pointer (some (⟨b74, 0, none⟩ : Addr)))]) (vC (rSl (rInt .i64))) vB (fun x85 => m52_vector_least_1 x85 (sorted_1.getD v_1.toNat default)) := by
        intro w87 O88 st89 hO90 v93 x85 y91 h94 hy92
        obtain ⟨a_y95, c_y95, rfl, f_y95⟩ := un_sl h94
        exact ⟨52, #[], #[(Value.pointer (some (⟨b74, 0, none⟩ : Addr)))], rfl, Try.call52, c52_vector_least_1 (b := x85) hO90 f_y95 (f82.step st89) hy92⟩
      obtain ⟨hs96, p97, f98⟩ := Gs.publish (i := 0) hs83 rfl f_g53
      replace hm := bd hm; obtain ⟨containsfunc_1, hv99, hm⟩ := hm
      refine Rg_op rfl (op_call Try.call42 (c42_slices_ContainsFuncint_int_ (s := x_1) (f := (some (fun x85 => m52_vector_least_1 x85 (sorted_1.getD v_1.toNat default)))) hs96.ltw f98 ((CallsO1.some_ F86).step p97) hv99) rfl ?_)
      rintro v100 w101 ⟨hx102, h103⟩
      have hs104 := hs83.call hx102
      have p105 := Step.ext (O := ks [(k_g53, o_g53), (some b70, o33)] O) hx102
      clear hx102
      replace f36 := f36.step p105
      replace f_g53 := f_g53.step p105
      replace f_y73 := f_y73.step p105
      replace f82 := f82.step p105
      replace F86 := F86.step p105
      replace ch67 := ch67.trans p105
      clear p105 hs83
      obtain rfl := h103
      refine Rg_op rfl (op_not rfl ?_)
      refine Rg_nil ?_
      refine Wp_cond rfl (fun hc107 => ?_) (fun hc107 => ?_)
      ·
        replace hm := bif_t hm hc107
        clear f_y73 F86
        refine Wp_region ?_  -- 7 vector.go:78
        refine Rg_op rfl (op_move (v := (Value.slice a_g53 x_1.length c_g53)) rfl ?_)
        refine Rg_op rfl (op_loadP ty22 rfl f82 rfl ?_)
        intro v108 h109
        obtain ⟨a_y110, c_y110, rfl, f_y110⟩ := un_sl h109
        refine Rg_op rfl (op_buildSlice (cs := [(Value.slice a_y110 (sorted_1.getD v_1.toNat default).length c_y110)]) (parts := [(0, .tmp 20)]) ty33 ty22 hs104 (by decide) rfl ?_)
        intro b111 w112 hx115 p113 hs114
        replace f36 := f36.step p113
        replace f_g53 := f_g53.step p113
        replace f82 := f82.step p113
        replace f_y110 := f_y110.step p113
        replace ch67 := ch67.trans p113
        clear p113 hs104
        replace hm := ck_some hm; obtain ⟨hc117, hm⟩ := hm
        refine Rg_op rfl (op_append (q := (rSl (rInt .i64))) (i := 1) (xs := x_1) (ys := [(sorted_1.getD v_1.toNat default)]) (news := [(Value.slice a_y110 (sorted_1.getD v_1.toNat default).length c_y110)]) ty33 ty22 rfl (by decide) hs114 rfl rfl f_g53 rfl (Src.owned' (len := 1) (hs114.get (i := 0) rfl) rfl) (show Els (rSl (rInt .i64)) _ _ [(Value.slice a_y110 (sorted_1.getD v_1.toNat default).length c_y110)] [(sorted_1.getD v_1.toNat default)] from ⟨_, _, rfl, (mk_sl f_y110), Els.nil⟩) hc117 (by have := hc117; simp only [maxLen]; omega) ?_)
        intro a121 c122 k123 o124 w118 p119 hs120 f125
        replace f36 := f36.step p119
        replace f82 := f82.step p119
        replace f_y110 := f_y110.step p119
        replace ch67 := ch67.trans p119
        clear p119 hs114
        have hs126 := hs120.drop 0
        replace f36 := f36.step (Step.drop _ _ [(some b111, Obj.cells [(Value.slice a_y110 (sorted_1.getD v_1.toNat default).length c_y110)].toArray 22), (k123, o124), (some b70, o33)] 0)
        replace f82 := f82.step (Step.drop _ _ [(some b111, Obj.cells [(Value.slice a_y110 (sorted_1.getD v_1.toNat default).length c_y110)].toArray 22), (k123, o124), (some b70, o33)] 0)
        replace f_y110 := f_y110.step (Step.drop _ _ [(some b111, Obj.cells [(Value.slice a_y110 (sorted_1.getD v_1.toNat default).length c_y110)].toArray 22), (k123, o124), (some b70, o33)] 0)
        replace f125 := f125.step (Step.drop _ _ [(some b111, Obj.cells [(Value.slice a_y110 (sorted_1.getD v_1.toNat default).length c_y110)].toArray 22), (k123, o124), (some b70, o33)] 0)
        replace ch67 := ch67.trans (Step.drop _ _ [(some b111, Obj.cells [(Value.slice a_y110 (sorted_1.getD v_1.toNat default).length c_y110)].toArray 22), (k123, o124), (some b70, o33)] 0)
        clear hs120
        refine Rg_op rfl (op_assign (v := (Value.slice a121 (x_1 ++ [(sorted_1.getD v_1.toNat default)]).length c122)) rfl ?_)
        refine Rg_nil ?_
        clear f82 f_y110
        refine Wp_region ?_  -- 8 vector.go:76
        refine Rg_op rfl (op_addw rfl rfl ?_)
        refine Rg_op rfl (op_move (v := (Value.int .i64 (IntKind.wrap .i64 (v_1 + 1)))) rfl ?_)
        refine Rg_nil ?_
        exact hK58 _ _ ⟨(x_1 ++ [(sorted_1.getD v_1.toNat default)]), (IntKind.wrap .i64 (v_1 + 1)), a121, c122, k123, o124, _, rfl, ⟨(by repeat (first | with_reducible exact Out.refl _ _ | refine Out.upd ?_ rfl | refine Out.updL ?_ rfl | refine Out.mix' ?_ rfl | exact Out.refl _ _)), rfl, rfl, rfl, trivial⟩, ch67, hs126, f125, (inK_wrap .i64 _), jnE2 hsf57 hm⟩
      ·
        replace hm := bif_f hm hc107
        refine Wp_skip ?_
        clear f_y73 f82 F86
        refine Wp_region ?_  -- 8 vector.go:76
        refine Rg_op rfl (op_addw rfl rfl ?_)
        refine Rg_op rfl (op_move (v := (Value.int .i64 (IntKind.wrap .i64 (v_1 + 1)))) rfl ?_)
        refine Rg_nil ?_
        exact hK58 _ _ ⟨x_1, (IntKind.wrap .i64 (v_1 + 1)), a_g53, c_g53, k_g53, o_g53, _, rfl, ⟨(by repeat (first | with_reducible exact Out.refl _ _ | refine Out.upd ?_ rfl | refine Out.updL ?_ rfl | refine Out.mix' ?_ rfl | exact Out.refl _ _)), rfl, rfl, rfl, trivial⟩, ch67, hs104, f_g53, (inK_wrap .i64 _), jnE2 hsf57 hm⟩
    ·
      replace hm := bif_f hm hc68
      refine Wp_exit ?_
      refine Wp_seq ?_
      obtain ⟨hs127, p128⟩ := hs63.sub (bs' := [(k_g53, o_g53)]) (.cons_cons _ (.cons _ List.Sublist.slnil))
      clear f36
      replace f_g53 := f_g53.step p128
      replace ch67 := ch67.trans p128
      clear p128 hs63
      refine Wp_region ?_  -- 9 vector.go:81
      refine Rg_op rfl (op_move (v := (Value.slice a_g53 x_1.length c_g53)) rfl ?_)
      refine Rg_op rfl (op_assign (v := (Value.slice a_g53 x_1.length c_g53)) rfl ?_)
      refine Rg_nil ?_
      refine Wp_ret ?_
      refine ⟨_, (show Closes [] _ _ from rfl), [(Value.slice a_g53 x_1.length c_g53)], ⟨rfl, trivial⟩, hs127.ext, ?_⟩
      exact OkG.mk (i := 0) hs127 rfl f_g53 (Option.some.inj hm)
theorem c37_vector_least {w : World} {O : List Nat} {l : List (List Int)} {a_l : Option Addr} {c_l : Nat} (hO : ∀ k ∈ O, k < w.heap.size) (f_l : SlR (rSl (rInt .i64)) w O a_l c_l l) {x : (List (List Int))} (hm : m37_vector_least l = some x) :
    Ok Try.prog 37 [(Value.slice a_l l.length c_l)] w O (vC (rSl (rSl (rInt .i64)))) x :=
  (g37_vector_least hO f_l hm).ok hO

end Go.Fx


set_option linter.unusedVariables false
set_option linter.unusedSimpArgs false
set_option maxRecDepth 100000
set_option maxHeartbeats 0
namespace Go.Fx
open Go Go.RowKit Go.Proofs
def m21_vector_Least (l : List (List Int)) : Option ((List (List Int)) × Int) :=
  (m36_vector_alike l none).bind fun alike_1 =>
  bif (!alike_1) then
    some (([] : List (List Int)), 60)
  else
    bif (decide (4096 < (l.length : Int))) then
      some (([] : List (List Int)), 2)
    else
      (m37_vector_least l).bind fun least_1 =>
      some (least_1, 0)

theorem c21_vector_Least {w : World} {O : List Nat} {l : List (List Int)} {a_l : Option Addr} {c_l : Nat} (hO : ∀ k ∈ O, k < w.heap.size) (f_l : SlR (rSl (rInt .i64)) w O a_l c_l l) {x : (List (List Int)) × Int} (hm : m21_vector_Least l = some x) :
    Ok Try.prog 21 [(Value.slice a_l l.length c_l)] w O (vT2 (vC (rSl (rSl (rInt .i64)))) (vI .i64)) x := by
  unfold m21_vector_Least at hm
  refine Fn_of_Wp (n := 12) (xs := [.tmp 2, .tmp 3]) Try.func21 rfl Try.ntmps21 Try.results21 rfl ?_
  have hs := St.start hO
  refine Wp_seq ?_
  refine Wp_region ?_  -- 0 vector.go:85
  refine Rg_op rfl (op_assign (v := (Value.slice none 0 0)) rfl ?_)
  refine Rg_op rfl (op_assign (v := (Value.int .i64 0)) rfl ?_)
  refine Rg_nil ?_
  refine Wp_seq ?_
  refine Wp_seq ?_
  refine Wp_region ?_  -- 1 vector.go:86
  refine Rg_op rfl (op_move (v := (Value.slice a_l l.length c_l)) rfl ?_)
  replace hm := bd hm; obtain ⟨alike_1, hv1, hm⟩ := hm
  refine Rg_op rfl (op_call Try.call36 (c36_vector_alike (l := l) (ask := none) hs.ltw f_l CallsO1.nil_ hv1) rfl ?_)
  rintro v2 w3 ⟨hx4, h5⟩
  have hs6 := hs.call hx4
  have p7 := Step.ext (O := ks [] O) hx4
  clear hx4
  replace f_l := f_l.step p7
  clear p7
  obtain rfl := h5
  refine Rg_op rfl (op_not rfl ?_)
  refine Rg_nil ?_
  refine Wp_cond rfl (fun hc9 => ?_) (fun hc9 => ?_)
  ·
    replace hm := bif_t hm hc9
    refine Wp_seq ?_
    clear f_l
    refine Wp_region ?_  -- 2 vector.go:87
    refine Rg_op rfl (op_assign (v := (Value.slice none 0 0)) rfl ?_)
    refine Rg_op rfl (op_assign (v := (Value.int .i64 60)) rfl ?_)
    refine Rg_nil ?_
    refine Wp_ret ?_
    have hz := step_all hs6
    refine ⟨_, (show Closes [] _ _ from rfl), [(Value.slice none 0 0), (Value.int .i64 60)], ⟨rfl, rfl, trivial⟩, hs6.ext, ?_⟩
    exact Vr.eq (a := (vT2 (vC (rSl (rSl (rInt .i64)))) (vI .i64))) (x := (([] : List (List Int)), 60)) (mkT2 (mkC (mk_sl SlR.nil_)) ⟨rfl, (show InK .i64 60 from by decide)⟩) (Option.some.inj hm)
  ·
    replace hm := bif_f hm hc9
    refine Wp_skip ?_
    refine Wp_seq ?_
    refine Wp_seq ?_
    refine Wp_region ?_  -- 3 vector.go:89
    refine Rg_op rfl (op_move (v := (Value.slice a_l l.length c_l)) rfl ?_)
    refine Rg_op rfl (op_len Try.underlying33 rfl ?_)
    refine Rg_op rfl (op_gtr rfl rfl ?_)
    refine Rg_nil ?_
    refine Wp_cond rfl (fun hc10 => ?_) (fun hc10 => ?_)
    ·
      replace hm := bif_t hm hc10
      refine Wp_seq ?_
      clear f_l
      refine Wp_region ?_  -- 4 vector.go:90
      refine Rg_op rfl (op_assign (v := (Value.slice none 0 0)) rfl ?_)
      refine Rg_op rfl (op_assign (v := (Value.int .i64 2)) rfl ?_)
      refine Rg_nil ?_
      refine Wp_ret ?_
      have hz := step_all hs6
      refine ⟨_, (show Closes [] _ _ from rfl), [(Value.slice none 0 0), (Value.int .i64 2)], ⟨rfl, rfl, trivial⟩, hs6.ext, ?_⟩
      exact Vr.eq (a := (vT2 (vC (rSl (rSl (rInt .i64)))) (vI .i64))) (x := (([] : List (List Int)), 2)) (mkT2 (mkC (mk_sl SlR.nil_)) ⟨rfl, (show InK .i64 2 from by decide)⟩) (Option.some.inj hm)
    ·
      replace hm := bif_f hm hc10
      refine Wp_skip ?_
      refine Wp_seq ?_
      refine Wp_region ?_  -- 5 vector.go:92
      refine Rg_op rfl (op_move (v := (Value.slice a_l l.length c_l)) rfl ?_)
      replace hm := bd hm; obtain ⟨least_1, hv11, hm⟩ := hm
      refine Rg_op rfl (op_call Try.call37 (g37_vector_least (l := l) hs6.ltw f_l hv11) rfl ?_)
      rintro _ w13 ⟨hx14, a17, c18, k19, o20, rfl, hk21, f22⟩
      obtain ⟨hs16, p23⟩ := hs6.callG (o := o20) hx14 hk21
      rw [← ks_cons (o := o20)] at f22
      replace f_l := f_l.step p23
      clear p23 hs6
      refine Rg_op rfl (op_assign (v := (Value.slice a17 least_1.length c18)) rfl ?_)
      refine Rg_op rfl (op_assign (v := (Value.int .i64 0)) rfl ?_)
      refine Rg_nil ?_
      refine Wp_ret ?_
      obtain ⟨hs26, p27, f25⟩ := Gs.publish (i := 0) hs16 rfl f22
      replace f_l := f_l.step p27
      clear p27 hs16
      have hz := step_all hs26
      replace f_l := f_l.step hz
      replace f25 := f25.step hz
      refine ⟨_, (show Closes [] _ _ from rfl), [(Value.slice a17 least_1.length c18), (Value.int .i64 0)], ⟨rfl, rfl, trivial⟩, hs26.ext, ?_⟩
      exact Vr.eq (a := (vT2 (vC (rSl (rSl (rInt .i64)))) (vI .i64))) (x := (least_1, 0)) (mkT2 (mkC (mk_sl f25)) ⟨rfl, (show InK .i64 0 from by decide)⟩) (Option.some.inj hm)

end Go.Fx


set_option linter.unusedVariables false
set_option linter.unusedSimpArgs false
set_option maxRecDepth 100000
set_option maxHeartbeats 0
namespace Go.Fx
open Go Go.RowKit Go.Proofs
def m55_slices_Growint_int_ (n : Int) : Option (List (List Int)) :=
  bif (decide (n < 0)) then
    none
  else
    bif (decide (0 < (IntKind.wrap .i64 (n - (IntKind.wrap .i64 (0 - 0)))))) then
      ck (0 < (IntKind.wrap .i64 (n - (IntKind.wrap .i64 (0 - 0))))) <|
      ck ((IntKind.wrap .i64 (n - (IntKind.wrap .i64 (0 - 0)))) * 24 ≤ 281474976710656) <|
      some ([] : List (List Int))
    else
      some ([] : List (List Int))

theorem g55_slices_Growint_int_ {w : World} {O : List Nat} {n : Int} (hO : ∀ k ∈ O, k < w.heap.size) (r_n : InK .i64 n) {x : (List (List Int))} (hm : m55_slices_Growint_int_ n = some x) :
    OkG Try.prog 55 [(Value.slice none 0 0), (Value.int .i64 n)] w O (rSl (rInt .i64)) 22 x := by
  unfold m55_slices_Growint_int_ at hm
  refine Fn_of_Wp (n := 27) (xs := [.tmp 4]) Try.func55 rfl Try.ntmps55 Try.results55 rfl ?_
  have hs := St.start hO
  refine Wp_seq ?_
  refine Wp_region ?_  -- 0 slices.go:422
  refine Rg_op rfl (op_assign (v := (Value.slice none 0 0)) rfl ?_)
  refine Rg_nil ?_
  refine Wp_seq ?_
  refine Wp_seq ?_
  refine Wp_region ?_  -- 1 slices.go:423
  refine Rg_op rfl (op_move (v := (Value.int .i64 n)) rfl ?_)
  refine Rg_op rfl (op_lss rfl rfl ?_)
  refine Rg_nil ?_
  refine Wp_cond rfl (fun hc1 => ?_) (fun hc1 => ?_)
  ·
    replace hm := bif_t hm hc1
    refine Wp_region ?_  -- 2 slices.go:424
    cases hm
  ·
    replace hm := bif_f hm hc1
    refine Wp_skip ?_
    refine Wp_seq ?_
    refine Wp_seq ?_
    refine Wp_region ?_  -- 3 slices.go:426
    refine Rg_op rfl (op_move (v := (Value.int .i64 n)) rfl ?_)
    refine Rg_op rfl (op_move (v := (Value.slice none 0 0)) rfl ?_)
    refine Rg_op rfl (op_cap0 Try.underlying33 rfl ?_)
    refine Rg_op rfl (op_move (v := (Value.slice none 0 0)) rfl ?_)
    refine Rg_op rfl (op_len Try.underlying33 rfl ?_)
    refine Rg_op rfl (op_subw rfl rfl ?_)
    refine Rg_op rfl (op_subw rfl rfl ?_)
    refine Rg_op rfl (op_assign (v := (Value.int .i64 (IntKind.wrap .i64 (n - (IntKind.wrap .i64 (0 - 0)))))) rfl ?_)
    refine Rg_nil ?_
    refine Wp_seq ?_
    refine Wp_region ?_  -- 4 slices.go:426
    refine Rg_op rfl (op_move (v := (Value.int .i64 (IntKind.wrap .i64 (n - (IntKind.wrap .i64 (0 - 0)))))) rfl ?_)
    refine Rg_op rfl (op_gtr rfl rfl ?_)
    refine Rg_nil ?_
    refine Wp_cond rfl (fun hc2 => ?_) (fun hc2 => ?_)
    ·
      replace hm := bif_t hm hc2
      refine Wp_region ?_  -- 5 slices.go:428
      refine Rg_op rfl (op_move (v := (Value.slice none 0 0)) rfl ?_)
      refine Rg_op rfl (op_move (v := (Value.slice none 0 0)) rfl ?_)
      refine Rg_op rfl (op_cap0 Try.underlying33 rfl ?_)
      refine Rg_op rfl (op_sliceNil ty33 ty22 rfl (bndI rfl (by omega)) ?_)
      refine Rg_op rfl (op_move (v := (Value.int .i64 (IntKind.wrap .i64 (n - (IntKind.wrap .i64 (0 - 0)))))) rfl ?_)
      replace hm := ck_some hm; obtain ⟨hc3, hm⟩ := hm
      replace hm := ck_some hm; obtain ⟨hc4, hm⟩ := hm
      refine Rg_op rfl (op_appendZ (q := (rSl (rInt .i64))) ty33 ty22 rfl Try.underlying3 hs rfl rfl (inK_wrap .i64 _) hc3 hc4 ?_)
      intro b5 c6 o7 w8 hc12 p9 hs10 f11
      clear p9
      refine Rg_op rfl (op_move (v := (Value.slice none 0 0)) rfl ?_)
      refine Rg_op rfl (op_len Try.underlying33 rfl ?_)
      refine Rg_op rfl (op_slice0 ty33 ty22 rfl (bndI rfl (by omega)) ?_)
      refine Rg_op rfl (op_assign (v := (Value.slice (some ⟨b5, 0, none⟩) ([] : List (List Int)).length c6)) rfl ?_)
      refine Rg_nil ?_
      refine Wp_seq ?_
      refine Wp_region ?_  -- 6 slices.go:430
      refine Rg_op rfl (op_move (v := (Value.slice (some ⟨b5, 0, none⟩) ([] : List (List Int)).length c6)) rfl ?_)
      refine Rg_op rfl (op_assign (v := (Value.slice (some ⟨b5, 0, none⟩) ([] : List (List Int)).length c6)) rfl ?_)
      refine Rg_nil ?_
      refine Wp_ret ?_
      refine ⟨_, (show Closes [] _ _ from rfl), [(Value.slice (some ⟨b5, 0, none⟩) ([] : List (List Int)).length c6)], ⟨rfl, trivial⟩, hs10.ext, ?_⟩
      exact OkG.mk (i := 0) hs10 rfl f11 (Option.some.inj hm)
    ·
      replace hm := bif_f hm hc2
      refine Wp_skip ?_
      refine Wp_seq ?_
      refine Wp_region ?_  -- 6 slices.go:430
      refine Rg_op rfl (op_move (v := (Value.slice none 0 0)) rfl ?_)
      refine Rg_op rfl (op_assign (v := (Value.slice none 0 0)) rfl ?_)
      refine Rg_nil ?_
      refine Wp_ret ?_
      refine ⟨_, (show Closes [] _ _ from rfl), [(Value.slice none 0 0)], ⟨rfl, trivial⟩, hs.ext, ?_⟩
      exact OkG.mkNil (Option.some.inj hm)
theorem c55_slices_Growint_int_ {w : World} {O : List Nat} {n : Int} (hO : ∀ k ∈ O, k < w.heap.size) (r_n : InK .i64 n) {x : (List (List Int))} (hm : m55_slices_Growint_int_ n = some x) :
    Ok Try.prog 55 [(Value.slice none 0 0), (Value.int .i64 n)] w O (vC (rSl (rSl (rInt .i64)))) x :=
  (g55_slices_Growint_int_ hO r_n hm).ok hO

end Go.Fx


set_option linter.unusedVariables false
set_option linter.unusedSimpArgs false
set_option maxRecDepth 100000
set_option maxHeartbeats 0
namespace Go.Fx
open Go Go.RowKit Go.Proofs
def m40_slices_Concatint_int__B1 (slices : List (List (List Int))) (sf39 : (List (List Int)) → Int → Option (List (List Int))) (newslice_1 : List (List Int)) (v_2 : Int) : Option (List (List Int)) :=
  bif (decide (v_2 < (slices.length : Int))) then
    ck ((0 : Int) ≤ v_2 ∧ v_2 < (slices.length : Int)) <|
    ck ((newslice_1.length + (slices.getD v_2.toNat default).length) * 24 ≤ 140737488355328) <|
    sf39 (newslice_1 ++ (slices.getD v_2.toNat default)) (IntKind.wrap .i64 (v_2 + 1))
  else
    some newslice_1

def m40_slices_Concatint_int__B0 (slices : List (List (List Int))) (sf4 : Int → Int → Option (List (List Int))) (size_1 : Int) (v_1 : Int) : Option (List (List Int)) :=
  bif (decide (v_1 < (slices.length : Int))) then
    ck ((0 : Int) ≤ v_1 ∧ v_1 < (slices.length : Int)) <|
    bif (decide ((IntKind.wrap .i64 (size_1 + ((slices.getD v_1.toNat default).length : Int))) < 0)) then
      none
    else
      sf4 (IntKind.wrap .i64 (size_1 + ((slices.getD v_1.toNat default).length : Int))) (IntKind.wrap .i64 (v_1 + 1))
  else
    (m55_slices_Growint_int_ size_1).bind fun grow_1 =>
    loop2 (m40_slices_Concatint_int__B1 slices) (((slices.length : Int) - 0).toNat + 1) grow_1 0

def m40_slices_Concatint_int_ (slices : List (List (List Int))) : Option (List (List Int)) :=
  loop2 (m40_slices_Concatint_int__B0 slices) (((slices.length : Int) - 0).toNat + 1) 0 0

theorem g40_slices_Concatint_int_ {w : World} {O : List Nat} {slices : List (List (List Int))} {a_slices : Option Addr} {c_slices : Nat} (hO : ∀ k ∈ O, k < w.heap.size) (f_slices : SlR (rSl (rSl (rInt .i64))) w O a_slices c_slices slices) {x : (List (List Int))} (hm : m40_slices_Concatint_int_ slices = some x) :
    OkG Try.prog 40 [(Value.slice a_slices slices.length c_slices)] w O (rSl (rInt .i64)) 22 x := by
  unfold m40_slices_Concatint_int_ at hm
  refine Fn_of_Wp (n := 36) (xs := [.tmp 2]) Try.func40 rfl Try.ntmps40 Try.results40 rfl ?_
  have hs := St.start hO
  refine Wp_seq ?_
  refine Wp_region ?_  -- 0 slices.go:491
  refine Rg_op rfl (op_assign (v := (Value.slice none 0 0)) rfl ?_)
  refine Rg_nil ?_
  refine Wp_seq ?_
  refine Wp_region ?_  -- 1 slices.go:492
  refine Rg_op rfl (op_assign (v := (Value.int .i64 0)) rfl ?_)
  refine Rg_nil ?_
  refine Wp_seq ?_
  refine Wp_seq ?_
  refine Wp_region ?_  -- 2 slices.go:493
  refine Rg_op rfl (op_move (v := (Value.slice a_slices slices.length c_slices)) rfl ?_)
  refine Rg_op rfl (op_len Try.underlying59 rfl ?_)
  refine Rg_op rfl (op_move (v := (Value.int .i64 0)) rfl ?_)
  refine Rg_nil ?_
  refine Wp_block ?_
  refine Wp_reset [] [(0, (Value.slice a_slices slices.length c_slices)), (3, (Value.int .i64 0)), (9, (Value.slice a_slices slices.length c_slices)), (10, (Value.int .i64 (slices.length : Int))), (11, (Value.int .i64 0))] rfl ⟨rfl, rfl, rfl, rfl, rfl, trivial⟩ fun ξ3 => ?_
  refine Wp_loopM [3, 5, 11, 12, 13, 14, 15, 16, 17, 18, 19, 20, 21, 22] (fun m fr w' => ∃ (size_1 : Int) (v_1 : Int) (Ebs : Ents), Ebs = [] ∧ fr [] [(3, (Value.int .i64 size_1)), (11, (Value.int .i64 v_1))] ∧ Step (ks [] O) w (ks Ebs O) w' ∧ St ⟨w, [], []⟩ O w' Ebs ∧ InK .i64 size_1 ∧ InK .i64 v_1 ∧ loop2 (m40_slices_Concatint_int__B0 slices) m size_1 v_1 = some x) (((slices.length : Int) - 0).toNat + 1) ⟨0, 0, _, rfl, ⟨Out.refl _ _, rfl, rfl, rfl, trivial⟩, Step.refl _ _, hs, (show InK .i64 0 from by decide), (show InK .i64 0 from by decide), hm⟩ ?_ ?_
  · rintro _ _ ⟨_, _, _, _, _, _, _, _, _, hm⟩; exact loop2_z hm
  · rintro m7 K6 hK6 ρ12 w8 ⟨size_1, v_1, Ebs, hEbs, hfr11, hst10, hs9, r_y1, r_y2, hm⟩
    obtain ⟨sf4, hsf5, hm⟩ := loop2_s hm; unfold m40_slices_Concatint_int__B0 at hm
    subst hEbs; rw [hfr11.eq]; clear hfr11
    replace f_slices := f_slices.step hst10
    have ch13 := hst10
    refine Wp_seq ?_
    refine Wp_region ?_  -- 3 slices.go:493
    refine Rg_op rfl (op_lss rfl rfl ?_)
    refine Rg_nil ?_
    refine Wp_seq ?_
    refine Wp_cond rfl (fun hc14 => ?_) (fun hc14 => ?_)
    ·
      replace hm := bif_t hm hc14
      refine Wp_skip ?_
      refine Wp_seq ?_
      refine Wp_block ?_
      refine Wp_seq ?_
      refine Wp_region ?_  -- 4 slices.go:493
      replace hm := ck_some hm; obtain ⟨hc15, hm⟩ := hm
      refine Rg_op rfl (op_indexAddr (q := (rSl (rSl (rInt .i64)))) ty59 ty33 rfl rfl f_slices rfl hc15.1 hc15.2 ?_)
      intro p16 f17
      refine Rg_op rfl (op_loadP ty33 rfl f17 rfl ?_)
      intro v18 h19
      obtain ⟨a_y20, c_y20, rfl, f_y20⟩ := un_sl h19
      refine Rg_op rfl (op_assign (v := (Value.slice a_y20 (slices.getD v_1.toNat default).length c_y20)) rfl ?_)
      refine Rg_nil ?_
      refine Wp_seq ?_
      clear f17
      refine Wp_region ?_  -- 5 slices.go:494
      refine Rg_op rfl (op_move (v := (Value.int .i64 size_1)) rfl ?_)
      refine Rg_op rfl (op_move (v := (Value.slice a_y20 (slices.getD v_1.toNat default).length c_y20)) rfl ?_)
      refine Rg_op rfl (op_len Try.underlying33 rfl ?_)
      refine Rg_op rfl (op_addw rfl rfl ?_)
      refine Rg_op rfl (op_assign (v := (Value.int .i64 (IntKind.wrap .i64 (size_1 + ((slices.getD v_1.toNat default).length : Int))))) rfl ?_)
      refine Rg_nil ?_
      refine Wp_seq ?_
      clear f_y20
      refine Wp_region ?_  -- 6 slices.go:495
      refine Rg_op rfl (op_move (v := (Value.int .i64 (IntKind.wrap .i64 (size_1 + ((slices.getD v_1.toNat default).length : Int))))) rfl ?_)
      refine Rg_op rfl (op_lss rfl rfl ?_)
      refine Rg_nil ?_
      refine Wp_cond rfl (fun hc21 => ?_) (fun hc21 => ?_)
      ·
        replace hm := bif_t hm hc21
        refine Wp_region ?_  -- 7 slices.go:496
        cases hm
      ·
        replace hm := bif_f hm hc21
        refine Wp_skip ?_
        refine Wp_region ?_  -- 8 slices.go:493
        refine Rg_op rfl (op_addw rfl rfl ?_)
        refine Rg_op rfl (op_move (v := (Value.int .i64 (IntKind.wrap .i64 (v_1 + 1)))) rfl ?_)
        refine Rg_nil ?_
        exact hK6 _ _ ⟨(IntKind.wrap .i64 (size_1 + ((slices.getD v_1.toNat default).length : Int))), (IntKind.wrap .i64 (v_1 + 1)), _, rfl, ⟨(by repeat (first | with_reducible exact Out.refl _ _ | refine Out.upd ?_ rfl | refine Out.updL ?_ rfl | refine Out.mix' ?_ rfl | exact Out.refl _ _)), rfl, rfl, rfl, trivial⟩, ch13, hs9, (inK_wrap .i64 _), (inK_wrap .i64 _), jnE2 hsf5 hm⟩
    ·
      replace hm := bif_f hm hc14
      refine Wp_exit ?_
      refine Wp_seq ?_
      refine Wp_region ?_  -- 9 slices.go:502
      refine Rg_op rfl (op_move (v := (Value.int .i64 size_1)) rfl ?_)
      replace hm := bd hm; obtain ⟨grow_1, hv22, hm⟩ := hm
      refine Rg_op rfl (op_call Try.call55 (g55_slices_Growint_int_ (n := size_1) hs9.ltw r_y1 hv22) rfl ?_)
      rintro _ w24 ⟨hx25, a28, c29, k30, o31, rfl, hk32, f33⟩
      obtain ⟨hs27, p34⟩ := hs9.callG (o := o31) hx25 hk32
      rw [← ks_cons (o := o31)] at f33
      replace f_slices := f_slices.step p34
      replace ch13 := ch13.trans p34
      clear p34 hs9
      refine Rg_op rfl (op_assign (v := (Value.slice a28 grow_1.length c29)) rfl ?_)
      refine Rg_nil ?_
      refine Wp_seq ?_
      refine Wp_seq ?_
      refine Wp_region ?_  -- 10 slices.go:503
      refine Rg_op rfl (op_move (v := (Value.slice a_slices slices.length c_slices)) rfl ?_)
      refine Rg_op rfl (op_len Try.underlying59 rfl ?_)
      refine Rg_op rfl (op_move (v := (Value.int .i64 0)) rfl ?_)
      refine Rg_nil ?_
      refine Wp_block ?_
      refine Wp_reset [] [(6, (Value.slice a28 grow_1.length c29)), (25, (Value.slice a_slices slices.length c_slices)), (26, (Value.int .i64 (slices.length : Int))), (27, (Value.int .i64 0))] rfl ⟨rfl, rfl, rfl, rfl, trivial⟩ fun ξ38 => ?_
      refine Wp_loopM [6, 8, 27, 28, 29, 30, 31, 32, 33, 34] (fun m fr w' => ∃ (newslice_1 : List (List Int)) (v_2 : Int) (a_g36 : Option Addr) (c_g36 : Nat) (k_g36 : Option Nat) (o_g36 : Obj) (Ebs : Ents), Ebs = [(k_g36, o_g36)] ∧ fr [] [(6, (Value.slice a_g36 newslice_1.length c_g36)), (27, (Value.int .i64 v_2))] ∧ Step (ks [(k30, o31)] O) w24 (ks Ebs O) w' ∧ St ⟨w, [], []⟩ O w' Ebs ∧ Gs (rSl (rInt .i64)) 22 w' (ks Ebs O) a_g36 c_g36 newslice_1 k_g36 o_g36 ∧ InK .i64 v_2 ∧ loop2 (m40_slices_Concatint_int__B1 slices) m newslice_1 v_2 = some x) (((slices.length : Int) - 0).toNat + 1) ⟨grow_1, 0, a28, c29, k30, o31, _, rfl, ⟨Out.refl _ _, rfl, rfl, rfl, trivial⟩, Step.refl _ _, hs27, f33, (show InK .i64 0 from by decide), hm⟩ ?_ ?_
      · rintro _ _ ⟨_, _, _, _, _, _, _, _, _, _, _, _, _, hm⟩; exact loop2_z hm
      · rintro m42 K41 hK41 ρ47 w43 ⟨newslice_1, v_2, a_g36, c_g36, k_g36, o_g36, Ebs, hEbs, hfr46, hst45, hs44, f_g36, r_y37, hm⟩
        obtain ⟨sf39, hsf40, hm⟩ := loop2_s hm; unfold m40_slices_Concatint_int__B1 at hm
        subst hEbs; rw [hfr46.eq]; clear hfr46
        replace f_slices := f_slices.step hst45
        replace f33 := f33.step hst45
        replace ch13 := ch13.trans hst45
        have ch48 := hst45
        refine Wp_seq ?_
        clear f33
        refine Wp_region ?_  -- 11 slices.go:503
        refine Rg_op rfl (op_lss rfl rfl ?_)
        refine Rg_nil ?_
        refine Wp_seq ?_
        refine Wp_cond rfl (fun hc49 => ?_) (fun hc49 => ?_)
        ·
          replace hm := bif_t hm hc49
          refine Wp_skip ?_
          refine Wp_seq ?_
          refine Wp_block ?_
          refine Wp_seq ?_
          refine Wp_region ?_  -- 12 slices.go:503
          replace hm := ck_some hm; obtain ⟨hc50, hm⟩ := hm
          refine Rg_op rfl (op_indexAddr (q := (rSl (rSl (rInt .i64)))) ty59 ty33 rfl rfl f_slices rfl hc50.1 hc50.2 ?_)
          intro p51 f52
          refine Rg_op rfl (op_loadP ty33 rfl f52 rfl ?_)
          intro v53 h54
          obtain ⟨a_y55, c_y55, rfl, f_y55⟩ := un_sl h54
          refine Rg_op rfl (op_assign (v := (Value.slice a_y55 (slices.getD v_2.toNat default).length c_y55)) rfl ?_)
          refine Rg_nil ?_
          clear f52
          refine Wp_region ?_  -- 13 slices.go:504
          refine Rg_op rfl (op_move (v := (Value.slice a_g36 newslice_1.length c_g36)) rfl ?_)
          refine Rg_op rfl (op_move (v := (Value.slice a_y55 (slices.getD v_2.toNat default).length c_y55)) rfl ?_)
          replace hm := ck_some hm; obtain ⟨hc56, hm⟩ := hm
          obtain ⟨ns57, he58, hr59⟩ := f_y55.src
          refine Rg_op rfl (op_append (q := (rSl (rInt .i64))) (i := 0) (xs := newslice_1) (ys := (slices.getD v_2.toNat default)) (news := ns57) ty33 ty22 rfl (by decide) hs44 rfl rfl f_g36 rfl hr59 he58 hc56 (by have := hc56; simp only [maxLen]; omega) ?_)
          intro a63 c64 k65 o66 w60 p61 hs62 f67
          replace f_slices := f_slices.step p61
          replace f_y55 := f_y55.step p61
          replace ch13 := ch13.trans p61
          replace ch48 := ch48.trans p61
          clear p61 hs44
          refine Rg_op rfl (op_assign (v := (Value.slice a63 (newslice_1 ++ (slices.getD v_2.toNat default)).length c64)) rfl ?_)
          refine Rg_nil ?_
          clear f_y55
          refine Wp_region ?_  -- 14 slices.go:503
          refine Rg_op rfl (op_addw rfl rfl ?_)
          refine Rg_op rfl (op_move (v := (Value.int .i64 (IntKind.wrap .i64 (v_2 + 1)))) rfl ?_)
          refine Rg_nil ?_
          exact hK41 _ _ ⟨(newslice_1 ++ (slices.getD v_2.toNat default)), (IntKind.wrap .i64 (v_2 + 1)), a63, c64, k65, o66, _, rfl, ⟨(by repeat (first | with_reducible exact Out.refl _ _ | refine Out.upd ?_ rfl | refine Out.updL ?_ rfl | refine Out.mix' ?_ rfl | exact Out.refl _ _)), rfl, rfl, rfl, trivial⟩, ch48, hs62, f67, (inK_wrap .i64 _), jnE2 hsf40 hm⟩
        ·
          replace hm := bif_f hm hc49
          refine Wp_exit ?_
          refine Wp_seq ?_
          clear f_slices
          refine Wp_region ?_  -- 15 slices.go:506
          refine Rg_op rfl (op_move (v := (Value.slice a_g36 newslice_1.length c_g36)) rfl ?_)
          refine Rg_op rfl (op_assign (v := (Value.slice a_g36 newslice_1.length c_g36)) rfl ?_)
          refine Rg_nil ?_
          refine Wp_ret ?_
          refine ⟨_, (show Closes [] _ _ from rfl), [(Value.slice a_g36 newslice_1.length c_g36)], ⟨rfl, trivial⟩, hs44.ext, ?_⟩
          exact OkG.mk (i := 0) hs44 rfl f_g36 (Option.some.inj hm)
theorem c40_slices_Concatint_int_ {w : World} {O : List Nat} {slices : List (List (List Int))} {a_slices : Option Addr} {c_slices : Nat} (hO : ∀ k ∈ O, k < w.heap.size) (f_slices : SlR (rSl (rSl (rInt .i64))) w O a_slices c_slices slices) {x : (List (List Int))} (hm : m40_slices_Concatint_int_ slices = some x) :
    Ok Try.prog 40 [(Value.slice a_slices slices.length c_slices)] w O (vC (rSl (rSl (rInt .i64)))) x :=
  (g40_slices_Concatint_int_ hO f_slices hm).ok hO

end Go.Fx


set_option linter.unusedVariables false
set_option linter.unusedSimpArgs false
set_option maxRecDepth 100000
set_option maxHeartbeats 0
namespace Go.Fx
open Go Go.RowKit Go.Proofs
def m23_vector_Sums_B1 (a : List (List Int)) (b : List (List Int)) (v_2 : Int) (sf90 : (List (List Int)) → Int → Option ((List (List Int)) × Int)) (sf112 : (List (List Int)) → Int → Option ((List (List Int)) × Int)) (x_2 : List (List Int)) (v_3 : Int) : Option ((List (List Int)) × Int) :=
  bif (decide (v_3 < (b.length : Int))) then
    ck ((0 : Int) ≤ v_3 ∧ v_3 < (b.length : Int)) <|
    (m13_vector_Add (a.getD v_2.toNat default) (b.getD v_3.toNat default)).bind fun add_1 =>
    ck ((x_2.length + [add_1.1].length) * 24 ≤ 140737488355328) <|
    sf112 (x_2 ++ [add_1.1]) (IntKind.wrap .i64 (v_3 + 1))
  else
    sf90 x_2 (IntKind.wrap .i64 (v_2 + 1))

def m23_vector_Sums_B0 (a : List (List Int)) (b : List (List Int)) (sf90 : (List (List Int)) → Int → Option ((List (List Int)) × Int)) (x_1 : List (List Int)) (v_2 : Int) : Option ((List (List Int)) × Int) :=
  bif (decide (v_2 < (a.length : Int))) then
    ck ((0 : Int) ≤ v_2 ∧ v_2 < (a.length : Int)) <|
    loop2 (m23_vector_Sums_B1 a b v_2 sf90) (((b.length : Int) - 0).toNat + 1) x_1 0
  else
    (m37_vector_least x_1).bind fun least_1 =>
    bif (decide (4096 < (least_1.length : Int))) then
      some (([] : List (List Int)), 2)
    else
      some (least_1, 0)

def m23_vector_Sums (a : List (List Int)) (b : List (List Int)) : Option ((List (List Int)) × Int) :=
  (m40_slices_Concatint_int_ [a, b]).bind fun concat_1 =>
  (m36_vector_alike concat_1 (some (fun x35 => m29_vector_small x35))).bind fun alike_1 =>
  bif (!alike_1) then
    some (([] : List (List Int)), 60)
  else
    jn (fun (v_1 : Bool) =>
      bif v_1 then
        some (([] : List (List Int)), 2)
      else
        loop2 (m23_vector_Sums_B0 a b) (((a.length : Int) - 0).toNat + 1) ([] : List (List Int)) 0)
    (fun k73 =>
      bif (decide (4096 < (a.length : Int))) then
        k73 true
      else
        bif (decide (4096 < (b.length : Int))) then
          k73 true
        else
          k73 (decide (1048576 < (IntKind.wrap .i64 ((a.length : Int) * (b.length : Int))))))

theorem c23_vector_Sums {w : World} {O : List Nat} {a : List (List Int)} {b : List (List Int)} {a_a : Option Addr} {c_a : Nat} {a_b : Option Addr} {c_b : Nat} (hO : ∀ k ∈ O, k < w.heap.size) (f_a : SlR (rSl (rInt .i64)) w O a_a c_a a) (f_b : SlR (rSl (rInt .i64)) w O a_b c_b b) {x : (List (List Int)) × Int} (hm : m23_vector_Sums a b = some x) :
    Ok Try.prog 23 [(Value.slice a_a a.length c_a), (Value.slice a_b b.length c_b)] w O (vT2 (vC (rSl (rSl (rInt .i64)))) (vI .i64)) x := by
  unfold m23_vector_Sums at hm
  refine Fn_of_Wp (n := 64) (xs := [.tmp 4, .tmp 5]) Try.func23 rfl Try.ntmps23 Try.results23 rfl ?_
  have hs := St.start hO
  refine Wp_seq ?_
  refine Wp_region ?_  -- 0 vector.go:96
  refine Rg_op rfl (op_assign (v := (Value.slice none 0 0)) rfl ?_)
  refine Rg_op rfl (op_assign (v := (Value.int .i64 0)) rfl ?_)
  refine Rg_nil ?_
  refine Wp_seq ?_
  refine Wp_seq ?_
  refine Wp_region ?_  -- 1 vector.go:97
  refine Rg_op rfl (op_move (v := (Value.slice a_a a.length c_a)) rfl ?_)
  refine Rg_op rfl (op_move (v := (Value.slice a_b b.length c_b)) rfl ?_)
  refine Rg_op rfl (op_buildSlice (cs := [(Value.slice a_a a.length c_a), (Value.slice a_b b.length c_b)]) (parts := [(0, .tmp 12), (1, .tmp 13)]) ty59 ty33 hs (by decide) rfl ?_)
  intro b1 w2 hx5 p3 hs4
  replace f_a := f_a.step p3
  replace f_b := f_b.step p3
  clear p3
  obtain ⟨hs8, p9, f7⟩ := St.publish (i := 0) (o := 0) (c := 2) (xs := [a, b]) hs4 rfl (show Els (rSl (rSl (rInt .i64))) _ _ [(Value.slice a_a a.length c_a), (Value.slice a_b b.length c_b)] [a, b] from ⟨_, _, rfl, (mk_sl f_a), ⟨_, _, rfl, (mk_sl f_b), Els.nil⟩⟩) (le_lit rfl) (le_lit rfl) (le_lit rfl)
  replace f_a := f_a.step p9
  replace f_b := f_b.step p9
  clear p9 hs4
  replace hm := bd hm; obtain ⟨concat_1, hv10, hm⟩ := hm
  refine Rg_op rfl (op_call Try.call40 (g40_slices_Concatint_int_ (slices := [a, b]) hs8.ltw f7 hv10) rfl ?_)
  rintro _ w12 ⟨hx13, a16, c17, k18, o19, rfl, hk20, f21⟩
  obtain ⟨hs15, p22⟩ := hs8.callG (o := o19) hx13 hk20
  rw [← ks_cons (o := o19)] at f21
  replace f_a := f_a.step p22
  replace f_b := f_b.step p22
  replace f7 := f7.step p22
  clear p22 hs8
  have F25 : CallsTo1 Try.prog w12 (ks [(k18, o19)] O) (Value.func (.func 29) #[] #[]) (vC (rSl (rInt .i64))) vB (fun x24 => m29_vector_small x24) := by
    intro w26 O27 st28 hO29 v32 x24 y30 h33 hy31
    obtain ⟨a_y34, c_y34, rfl, f_y34⟩ := un_sl h33
    exact ⟨29, #[], #[], rfl, Try.call29, c29_vector_small (a := x24) hO29 f_y34 hy31⟩
  have F36 : CallsTo1 Try.prog w12 (ks [(k18, o19)] O) (Value.func (.func 29) #[] #[]) (vC (rSl (rInt .i64))) vB (fun x35 => m29_vector_small x35) := by
    intro w37 O38 st39 hO40 v43 x35 y41 h44 hy42
    obtain ⟨a_y45, c_y45, rfl, f_y45⟩ := un_sl h44
    exact ⟨29, #[], #[], rfl, Try.call29, c29_vector_small (a := x35) hO40 f_y45 hy42⟩
  obtain ⟨hs46, p47, f48⟩ := Gs.publish (i := 0) hs15 rfl f21
  replace hm := bd hm; obtain ⟨alike_1, hv49, hm⟩ := hm
  have F56 : CallsTo1 Try.prog w12 (ks [(k18, o19)] O) (Value.func (.func 29) #[] #[]) (vC (rSl (rInt .i64))) vB (fun x55 => m29_vector_small x55) := by
    intro w57 O58 st59 hO60 v63 x55 y61 h64 hy62
    obtain ⟨a_y65, c_y65, rfl, f_y65⟩ := un_sl h64
    exact ⟨29, #[], #[], rfl, Try.call29, c29_vector_small (a := x55) hO60 f_y65 hy62⟩
  refine Rg_op rfl (op_call Try.call36 (c36_vector_alike (l := concat_1) (ask := (some (fun x35 => m29_vector_small x35))) hs46.ltw f48 ((CallsO1.some_ F36).step p47) hv49) rfl ?_)
  rintro v50 w51 ⟨hx52, h53⟩
  have hs54 := hs15.call hx52
  have p66 := Step.ext (O := ks [(k18, o19)] O) hx52
  clear hx52
  replace f_a := f_a.step p66
  replace f_b := f_b.step p66
  replace f7 := f7.step p66
  replace f21 := f21.step p66
  replace F25 := F25.step p66
  replace F36 := F36.step p66
  replace F56 := F56.step p66
  clear p66 hs15
  obtain rfl := h53
  refine Rg_op rfl (op_not rfl ?_)
  refine Rg_nil ?_
  refine Wp_cond rfl (fun hc68 => ?_) (fun hc68 => ?_)
  ·
    replace hm := bif_t hm hc68
    refine Wp_seq ?_
    obtain ⟨hs69, p70⟩ := hs54.sub (bs' := []) (.cons _ List.Sublist.slnil)
    clear f_a f_b f7 f21 F25 F36 F56
    clear p70 hs54
    refine Wp_region ?_  -- 2 vector.go:98
    refine Rg_op rfl (op_assign (v := (Value.slice none 0 0)) rfl ?_)
    refine Rg_op rfl (op_assign (v := (Value.int .i64 60)) rfl ?_)
    refine Rg_nil ?_
    refine Wp_ret ?_
    have hz := step_all hs69
    refine ⟨_, (show Closes [] _ _ from rfl), [(Value.slice none 0 0), (Value.int .i64 60)], ⟨rfl, rfl, trivial⟩, hs69.ext, ?_⟩
    exact Vr.eq (a := (vT2 (vC (rSl (rSl (rInt .i64)))) (vI .i64))) (x := (([] : List (List Int)), 60)) (mkT2 (mkC (mk_sl SlR.nil_)) ⟨rfl, (show InK .i64 60 from by decide)⟩) (Option.some.inj hm)
  ·
    replace hm := bif_f hm hc68
    refine Wp_skip ?_
    refine Wp_seq ?_
    refine Wp_reset [] [(0, (Value.slice a_a a.length c_a)), (1, (Value.slice a_b b.length c_b)), (4, (Value.slice none 0 0))] rfl ⟨rfl, rfl, rfl, trivial⟩ fun ξ71 => ?_
    replace hm := jn_elim hm; obtain ⟨k73, hk74, hm⟩ := hm
    refine Wp_seqJ [18, 19, 20, 21, 22, 23, 24, 25, 26, 27, 28, 29, 30, 31, 32, 33] (fun fr w' => ∃ (v_1 : Bool) (Ebs : Ents), Ebs = [(k18, o19)] ∧ fr [] [(33, (Value.bool v_1))] ∧ Step (ks [(k18, o19)] O) w51 (ks Ebs O) w' ∧ St ⟨w, [], []⟩ O w' Ebs ∧ k73 v_1 = some x) ?_ ?_
    ·
      rintro ρ80 w76 ⟨v_1, Ebs, hEbs, hfr79, hst78, hs77, hm⟩
      replace hm := jnE1 hk74 hm
      subst hEbs; rw [hfr79.eq]; clear hfr79
      replace f_a := f_a.step hst78
      replace f_b := f_b.step hst78
      replace f7 := f7.step hst78
      replace f21 := f21.step hst78
      replace F25 := F25.step hst78
      replace F36 := F36.step hst78
      replace F56 := F56.step hst78
      clear hst78 hs54
      refine Wp_cond rfl (fun hc81 => ?_) (fun hc81 => ?_)
      ·
        replace hm := bif_t hm hc81
        refine Wp_seq ?_
        obtain ⟨hs82, p83⟩ := hs77.sub (bs' := []) (.cons _ List.Sublist.slnil)
        clear f_a f_b f7 f21 F25 F36 F56
        clear p83 hs77
        refine Wp_region ?_  -- 4 vector.go:101
        refine Rg_op rfl (op_assign (v := (Value.slice none 0 0)) rfl ?_)
        refine Rg_op rfl (op_assign (v := (Value.int .i64 2)) rfl ?_)
        refine Rg_nil ?_
        refine Wp_ret ?_
        have hz := step_all hs82
        refine ⟨_, (show Closes [] _ _ from rfl), [(Value.slice none 0 0), (Value.int .i64 2)], ⟨rfl, rfl, trivial⟩, hs82.ext, ?_⟩
        exact Vr.eq (a := (vT2 (vC (rSl (rSl (rInt .i64)))) (vI .i64))) (x := (([] : List (List Int)), 2)) (mkT2 (mkC (mk_sl SlR.nil_)) ⟨rfl, (show InK .i64 2 from by decide)⟩) (Option.some.inj hm)
      ·
        replace hm := bif_f hm hc81
        refine Wp_skip ?_
        refine Wp_seq ?_
        refine Wp_seq ?_
        obtain ⟨hs84, p85⟩ := hs77.sub (bs' := []) (.cons _ List.Sublist.slnil)
        clear f7 f21 F25 F36 F56
        replace f_a := f_a.step p85
        replace f_b := f_b.step p85
        clear p85 hs77
        refine Wp_region ?_  -- 5 vector.go:103
        refine Rg_op rfl (op_move (v := (Value.slice a_a a.length c_a)) rfl ?_)
        refine Rg_op rfl (op_len Try.underlying33 rfl ?_)
        refine Rg_op rfl (op_move (v := (Value.int .i64 0)) rfl ?_)
        refine Rg_nil ?_
        refine Wp_block ?_
        refine Wp_reset [] [(1, (Value.slice a_b b.length c_b)), (4, (Value.slice none 0 0)), (34, (Value.slice a_a a.length c_a)), (35, (Value.int .i64 (a.length : Int))), (36, (Value.int .i64 0))] rfl ⟨rfl, rfl, rfl, rfl, rfl, trivial⟩ fun ξ89 => ?_
        have hs94 := hs84.ghost (Obj.cells #[] 22)
        refine Wp_loopM [4, 7, 9, 10, 11, 36, 37, 38, 39, 40, 41, 42, 43, 44, 45, 46, 47, 48, 49, 50, 51, 52, 53, 54, 55, 56, 57] (fun m fr w' => ∃ (x_1 : List (List Int)) (v_2 : Int) (a_g87 : Option Addr) (c_g87 : Nat) (k_g87 : Option Nat) (o_g87 : Obj) (Ebs : Ents), Ebs = [(k_g87, o_g87)] ∧ fr [] [(4, (Value.slice a_g87 x_1.length c_g87)), (36, (Value.int .i64 v_2))] ∧ Step (ks [(none, (Obj.cells #[] 22))] O) w76 (ks Ebs O) w' ∧ St ⟨w, [], []⟩ O w' Ebs ∧ Gs (rSl (rInt .i64)) 22 w' (ks Ebs O) a_g87 c_g87 x_1 k_g87 o_g87 ∧ InK .i64 v_2 ∧ loop2 (m23_vector_Sums_B0 a b) m x_1 v_2 = some x) (((a.length : Int) - 0).toNat + 1) ⟨([] : List (List Int)), 0, none, 0, none, (Obj.cells #[] 22), _, rfl, ⟨Out.refl _ _, rfl, rfl, rfl, trivial⟩, Step.refl _ _, hs94, Gs.nil_, (show InK .i64 0 from by decide), hm⟩ ?_ ?_
        · rintro _ _ ⟨_, _, _, _, _, _, _, _, _, _, _, _, _, hm⟩; exact loop2_z hm
        · rintro m93 K92 hK92 ρ100 w96 ⟨x_1, v_2, a_g87, c_g87, k_g87, o_g87, Ebs, hEbs, hfr99, hst98, hs97, f_g87, r_y88, hm⟩
          obtain ⟨sf90, hsf91, hm⟩ := loop2_s hm; unfold m23_vector_Sums_B0 at hm
          subst hEbs; rw [hfr99.eq]; clear hfr99
          replace f_a := f_a.step hst98
          replace f_b := f_b.step hst98
          have ch101 := hst98
          refine Wp_seq ?_
          refine Wp_region ?_  -- 6 vector.go:103
          refine Rg_op rfl (op_lss rfl rfl ?_)
          refine Rg_nil ?_
          refine Wp_seq ?_
          refine Wp_cond rfl (fun hc102 => ?_) (fun hc102 => ?_)
          ·
            replace hm := bif_t hm hc102
            refine Wp_skip ?_
            refine Wp_seq ?_
            refine Wp_block ?_
            refine Wp_seq ?_
            refine Wp_region ?_  -- 7 vector.go:103
            replace hm := ck_some hm; obtain ⟨hc103, hm⟩ := hm
            refine Rg_op rfl (op_indexAddr (q := (rSl (rInt .i64))) ty33 ty22 rfl rfl f_a rfl hc103.1 hc103.2 ?_)
            intro p104 f105
            refine Rg_op rfl (op_loadP ty22 rfl f105 rfl ?_)
            intro v106 h107
            obtain ⟨a_y108, c_y108, rfl, f_y108⟩ := un_sl h107
            refine Rg_op rfl (op_assign (v := (Value.slice a_y108 (a.getD v_2.toNat default).length c_y108)) rfl ?_)
            refine Rg_nil ?_
            refine Wp_seq ?_
            clear f105
            refine Wp_region ?_  -- 8 vector.go:104
            refine Rg_op rfl (op_move (v := (Value.slice a_b b.length c_b)) rfl ?_)
            refine Rg_op rfl (op_len Try.underlying33 rfl ?_)
            refine Rg_op rfl (op_move (v := (Value.int .i64 0)) rfl ?_)
            refine Rg_nil ?_
            refine Wp_block ?_
            refine Wp_reset2 [4, 7, 9, 10, 11, 36, 37, 38, 39, 40, 41, 42, 43, 44, 45, 46, 47, 48, 49, 50, 51, 52, 53, 54, 55, 56, 57] [] (updL ⟨ξ89, []⟩ [(1, (Value.slice a_b b.length c_b)), (4, (Value.slice none 0 0)), (34, (Value.slice a_a a.length c_a)), (35, (Value.int .i64 (a.length : Int))), (36, (Value.int .i64 0))]) [(4, (Value.slice a_g87 x_1.length c_g87)), (7, (Value.slice a_y108 (a.getD v_2.toNat default).length c_y108)), (36, (Value.int .i64 v_2)), (40, (Value.slice a_b b.length c_b)), (41, (Value.int .i64 (b.length : Int))), (42, (Value.int .i64 0))] (by repeat (first | with_reducible exact Out.refl _ _ | refine Out.upd ?_ rfl | refine Out.updL ?_ rfl | refine Out.mix' ?_ rfl | exact Out.refl _ _)) rfl ⟨rfl, rfl, rfl, rfl, rfl, rfl, trivial⟩ fun ξ111 => ?_
            refine Wp_loopM [4, 9, 10, 11, 42, 43, 44, 45, 46, 47, 48, 49, 50, 51, 52, 53, 54, 55, 56] (fun m fr w' => ∃ (x_2 : List (List Int)) (v_3 : Int) (a_g109 : Option Addr) (c_g109 : Nat) (k_g109 : Option Nat) (o_g109 : Obj) (Ebs : Ents), Ebs = [(k_g109, o_g109)] ∧ fr [] [(4, (Value.slice a_g109 x_2.length c_g109)), (42, (Value.int .i64 v_3))] ∧ Step (ks [(k_g87, o_g87)] O) w96 (ks Ebs O) w' ∧ St ⟨w, [], []⟩ O w' Ebs ∧ Gs (rSl (rInt .i64)) 22 w' (ks Ebs O) a_g109 c_g109 x_2 k_g109 o_g109 ∧ InK .i64 v_3 ∧ loop2 (m23_vector_Sums_B1 a b v_2 sf90) m x_2 v_3 = some x) (((b.length : Int) - 0).toNat + 1) ⟨x_1, 0, a_g87, c_g87, k_g87, o_g87, _, rfl, ⟨Out.refl _ _, rfl, rfl, rfl, trivial⟩, Step.refl _ _, hs97, f_g87, (show InK .i64 0 from by decide), hm⟩ ?_ ?_
            · rintro _ _ ⟨_, _, _, _, _, _, _, _, _, _, _, _, _, hm⟩; exact loop2_z hm
            · rintro m115 K114 hK114 ρ120 w116 ⟨x_2, v_3, a_g109, c_g109, k_g109, o_g109, Ebs, hEbs, hfr119, hst118, hs117, f_g109, r_y110, hm⟩
              obtain ⟨sf112, hsf113, hm⟩ := loop2_s hm; unfold m23_vector_Sums_B1 at hm
              subst hEbs; rw [hfr119.eq]; clear hfr119
              replace f_a := f_a.step hst118
              replace f_b := f_b.step hst118
              replace f_g87 := f_g87.step hst118
              replace f_y108 := f_y108.step hst118
              replace ch101 := ch101.trans hst118
              have ch121 := hst118
              refine Wp_seq ?_
              clear f_g87
              refine Wp_region ?_  -- 9 vector.go:104
              refine Rg_op rfl (op_lss rfl rfl ?_)
              refine Rg_nil ?_
              refine Wp_seq ?_
              refine Wp_cond rfl (fun hc122 => ?_) (fun hc122 => ?_)
              ·
                replace hm := bif_t hm hc122
                refine Wp_skip ?_
                refine Wp_seq ?_
                refine Wp_block ?_
                refine Wp_seq ?_
                refine Wp_region ?_  -- 10 vector.go:104
                replace hm := ck_some hm; obtain ⟨hc123, hm⟩ := hm
                refine Rg_op rfl (op_indexAddr (q := (rSl (rInt .i64))) ty33 ty22 rfl rfl f_b rfl hc123.1 hc123.2 ?_)
                intro p124 f125
                refine Rg_op rfl (op_loadP ty22 rfl f125 rfl ?_)
                intro v126 h127
                obtain ⟨a_y128, c_y128, rfl, f_y128⟩ := un_sl h127
                refine Rg_op rfl (op_assign (v := (Value.slice a_y128 (b.getD v_3.toNat default).length c_y128)) rfl ?_)
                refine Rg_nil ?_
                refine Wp_seq ?_
                clear f125
                refine Wp_region ?_  -- 11 vector.go:105
                refine Rg_op rfl (op_move (v := (Value.slice a_y108 (a.getD v_2.toNat default).length c_y108)) rfl ?_)
                refine Rg_op rfl (op_move (v := (Value.slice a_y128 (b.getD v_3.toNat default).length c_y128)) rfl ?_)
                replace hm := bd hm; obtain ⟨add_1, hv129, hm⟩ := hm
                refine Rg_op rfl (op_call Try.call13 (c13_vector_Add (a := (a.getD v_2.toNat default)) (b := (b.getD v_3.toNat default)) hs117.ltw f_y108 f_y128 hv129) rfl ?_)
                rintro v130 w131 ⟨hx132, h133⟩
                have hs134 := hs117.call hx132
                have p135 := Step.ext (O := ks [(k_g109, o_g109)] O) hx132
                clear hx132
                replace f_a := f_a.step p135
                replace f_b := f_b.step p135
                replace f_y108 := f_y108.step p135
                replace f_g109 := f_g109.step p135
                replace f_y128 := f_y128.step p135
                replace ch101 := ch101.trans p135
                replace ch121 := ch121.trans p135
                clear p135 hs117
                obtain ⟨v136, v137, rfl, h138, h139⟩ := h133
                obtain ⟨a_y140, c_y140, rfl, f_y140⟩ := un_sl h138
                obtain ⟨rfl, r_y141⟩ := h139
                refine Rg_op rfl (op_move (v := (Value.tuple [(Value.slice a_y140 add_1.1.length c_y140), (Value.int .i64 add_1.2)].toArray)) rfl ?_)
                refine Rg_op rfl (op_extract (v := (Value.slice a_y140 add_1.1.length c_y140)) rfl rfl ?_)
                refine Rg_op rfl (op_extract (v := (Value.int .i64 add_1.2)) rfl rfl ?_)
                refine Rg_op rfl (op_assign (v := (Value.slice a_y140 add_1.1.length c_y140)) rfl ?_)
                refine Rg_op rfl (op_assign (v := (Value.int .i64 add_1.2)) rfl ?_)
                refine Rg_nil ?_
                clear f_y128
                refine Wp_region ?_  -- 12 vector.go:106
                refine Rg_op rfl (op_move (v := (Value.slice a_g109 x_2.length c_g109)) rfl ?_)
                refine Rg_op rfl (op_move (v := (Value.slice a_y140 add_1.1.length c_y140)) rfl ?_)
                refine Rg_op rfl (op_buildSlice (cs := [(Value.slice a_y140 add_1.1.length c_y140)]) (parts := [(0, .tmp 53)]) ty33 ty22 hs134 (by decide) rfl ?_)
                intro b142 w143 hx146 p144 hs145
                replace f_a := f_a.step p144
                replace f_b := f_b.step p144
                replace f_y108 := f_y108.step p144
                replace f_g109 := f_g109.step p144
                replace f_y140 := f_y140.step p144
                replace ch101 := ch101.trans p144
                replace ch121 := ch121.trans p144
                clear p144 hs134
                replace hm := ck_some hm; obtain ⟨hc148, hm⟩ := hm
                refine Rg_op rfl (op_append (q := (rSl (rInt .i64))) (i := 1) (xs := x_2) (ys := [add_1.1]) (news := [(Value.slice a_y140 add_1.1.length c_y140)]) ty33 ty22 rfl (by decide) hs145 rfl rfl f_g109 rfl (Src.owned' (len := 1) (hs145.get (i := 0) rfl) rfl) (show Els (rSl (rInt .i64)) _ _ [(Value.slice a_y140 add_1.1.length c_y140)] [add_1.1] from ⟨_, _, rfl, (mk_sl f_y140), Els.nil⟩) hc148 (by have := hc148; simp only [maxLen]; omega) ?_)
                intro a152 c153 k154 o155 w149 p150 hs151 f156
                replace f_a := f_a.step p150
                replace f_b := f_b.step p150
                replace f_y108 := f_y108.step p150
                replace f_y140 := f_y140.step p150
                replace ch101 := ch101.trans p150
                replace ch121 := ch121.trans p150
                clear p150 hs145
                have hs157 := hs151.drop 0
                replace f_a := f_a.step (Step.drop _ _ [(some b142, Obj.cells [(Value.slice a_y140 add_1.1.length c_y140)].toArray 22), (k154, o155)] 0)
                replace f_b := f_b.step (Step.drop _ _ [(some b142, Obj.cells [(Value.slice a_y140 add_1.1.length c_y140)].toArray 22), (k154, o155)] 0)
                replace f_y108 := f_y108.step (Step.drop _ _ [(some b142, Obj.cells [(Value.slice a_y140 add_1.1.length c_y140)].toArray 22), (k154, o155)] 0)
                replace f_y140 := f_y140.step (Step.drop _ _ [(some b142, Obj.cells [(Value.slice a_y140 add_1.1.length c_y140)].toArray 22), (k154, o155)] 0)
                replace f156 := f156.step (Step.drop _ _ [(some b142, Obj.cells [(Value.slice a_y140 add_1.1.length c_y140)].toArray 22), (k154, o155)] 0)
                replace ch101 := ch101.trans (Step.drop _ _ [(some b142, Obj.cells [(Value.slice a_y140 add_1.1.length c_y140)].toArray 22), (k154, o155)] 0)
                replace ch121 := ch121.trans (Step.drop _ _ [(some b142, Obj.cells [(Value.slice a_y140 add_1.1.length c_y140)].toArray 22), (k154, o155)] 0)
                clear hs151
                refine Rg_op rfl (op_assign (v := (Value.slice a152 (x_2 ++ [add_1.1]).length c153)) rfl ?_)
                refine Rg_nil ?_
                clear f_y140
                refine Wp_region ?_  -- 13 vector.go:104
                refine Rg_op rfl (op_addw rfl rfl ?_)
                refine Rg_op rfl (op_move (v := (Value.int .i64 (IntKind.wrap .i64 (v_3 + 1)))) rfl ?_)
                refine Rg_nil ?_
                exact hK114 _ _ ⟨(x_2 ++ [add_1.1]), (IntKind.wrap .i64 (v_3 + 1)), a152, c153, k154, o155, _, rfl, ⟨(by repeat (first | with_reducible exact Out.refl _ _ | refine Out.upd ?_ rfl | refine Out.updL ?_ rfl | refine Out.mix' ?_ rfl | exact Out.refl _ _)), rfl, rfl, rfl, trivial⟩, ch121, hs157, f156, (inK_wrap .i64 _), jnE2 hsf113 hm⟩
              ·
                replace hm := bif_f hm hc122
                refine Wp_exit ?_
                clear f_y108
                refine Wp_region ?_  -- 14 vector.go:103
                refine Rg_op rfl (op_addw rfl rfl ?_)
                refine Rg_op rfl (op_move (v := (Value.int .i64 (IntKind.wrap .i64 (v_2 + 1)))) rfl ?_)
                refine Rg_nil ?_
                exact hK92 _ _ ⟨x_2, (IntKind.wrap .i64 (v_2 + 1)), a_g109, c_g109, k_g109, o_g109, _, rfl, ⟨(by repeat (first | with_reducible exact Out.refl _ _ | refine Out.upd ?_ rfl | refine Out.updL ?_ rfl | refine Out.mix' ?_ rfl | exact Out.refl _ _)), rfl, rfl, rfl, trivial⟩, ch101, hs117, f_g109, (inK_wrap .i64 _), jnE2 hsf91 hm⟩
          ·
            replace hm := bif_f hm hc102
            refine Wp_exit ?_
            refine Wp_seq ?_
            clear f_a f_b
            refine Wp_region ?_  -- 15 vector.go:109
            refine Rg_op rfl (op_move (v := (Value.slice a_g87 x_1.length c_g87)) rfl ?_)
            obtain ⟨hs159, p160, f158⟩ := Gs.publish (i := 0) hs97 rfl f_g87
            replace ch101 := ch101.trans p160
            clear p160 hs97
            replace hm := bd hm; obtain ⟨least_1, hv161, hm⟩ := hm
            refine Rg_op rfl (op_call Try.call37 (g37_vector_least (l := x_1) hs159.ltw f158 hv161) rfl ?_)
            rintro _ w163 ⟨hx164, a167, c168, k169, o170, rfl, hk171, f172⟩
            obtain ⟨hs166, p173⟩ := hs159.callG (o := o170) hx164 hk171
            rw [← ks_cons (o := o170)] at f172
            replace f158 := f158.step p173
            replace ch101 := ch101.trans p173
            clear p173 hs159
            refine Rg_op rfl (op_assign (v := (Value.slice a167 least_1.length c168)) rfl ?_)
            refine Rg_nil ?_
            refine Wp_seq ?_
            refine Wp_seq ?_
            clear f158
            refine Wp_region ?_  -- 16 vector.go:110
            refine Rg_op rfl (op_move (v := (Value.slice a167 least_1.length c168)) rfl ?_)
            refine Rg_op rfl (op_len Try.underlying33 rfl ?_)
            refine Rg_op rfl (op_gtr rfl rfl ?_)
            refine Rg_nil ?_
            refine Wp_cond rfl (fun hc175 => ?_) (fun hc175 => ?_)
            ·
              replace hm := bif_t hm hc175
              refine Wp_seq ?_
              obtain ⟨hs176, p177⟩ := hs166.sub (bs' := []) (.cons _ List.Sublist.slnil)
              clear f172
              replace ch101 := ch101.trans p177
              clear p177 hs166
              refine Wp_region ?_  -- 17 vector.go:111
              refine Rg_op rfl (op_assign (v := (Value.slice none 0 0)) rfl ?_)
              refine Rg_op rfl (op_assign (v := (Value.int .i64 2)) rfl ?_)
              refine Rg_nil ?_
              refine Wp_ret ?_
              have hz := step_all hs176
              refine ⟨_, (show Closes [] _ _ from rfl), [(Value.slice none 0 0), (Value.int .i64 2)], ⟨rfl, rfl, trivial⟩, hs176.ext, ?_⟩
              exact Vr.eq (a := (vT2 (vC (rSl (rSl (rInt .i64)))) (vI .i64))) (x := (([] : List (List Int)), 2)) (mkT2 (mkC (mk_sl SlR.nil_)) ⟨rfl, (show InK .i64 2 from by decide)⟩) (Option.some.inj hm)
            ·
              replace hm := bif_f hm hc175
              refine Wp_skip ?_
              refine Wp_seq ?_
              refine Wp_region ?_  -- 18 vector.go:113
              refine Rg_op rfl (op_move (v := (Value.slice a167 least_1.length c168)) rfl ?_)
              refine Rg_op rfl (op_assign (v := (Value.slice a167 least_1.length c168)) rfl ?_)
              refine Rg_op rfl (op_assign (v := (Value.int .i64 0)) rfl ?_)
              refine Rg_nil ?_
              refine Wp_ret ?_
              obtain ⟨hs179, p180, f178⟩ := Gs.publish (i := 0) hs166 rfl f172
              replace ch101 := ch101.trans p180
              clear p180 hs166
              have hz := step_all hs179
              replace f178 := f178.step hz
              refine ⟨_, (show Closes [] _ _ from rfl), [(Value.slice a167 least_1.length c168), (Value.int .i64 0)], ⟨rfl, rfl, trivial⟩, hs179.ext, ?_⟩
              exact Vr.eq (a := (vT2 (vC (rSl (rSl (rInt .i64)))) (vI .i64))) (x := (least_1, 0)) (mkT2 (mkC (mk_sl f178)) ⟨rfl, (show InK .i64 0 from by decide)⟩) (Option.some.inj hm)
    ·
      intro K75 hK75
      have ch181 := Step.refl (ks [(k18, o19)] O) w51
      clear f7 f21 F25 F36 F56
      refine Wp_region ?_  -- 3 vector.go:100
      refine Rg_op rfl (op_move (v := (Value.slice a_a a.length c_a)) rfl ?_)
      refine Rg_op rfl (op_len Try.underlying33 rfl ?_)
      refine Rg_op rfl (op_gtr rfl rfl ?_)
      refine Rg_op rfl (op_move (v := (Value.bool (decide (4096 < (a.length : Int))))) rfl ?_)
      refine Rg_case (fun hg182 => ?_) (fun hg182 => ?_)
      ·
        replace hm := bif_t hm hg182
        refine Rg_opx rfl (asB_ne rfl rfl) rfl ?_
        refine Rg_opx rfl (asB_ne rfl rfl) rfl ?_
        refine Rg_opx rfl (asB_ne rfl rfl) rfl ?_
        refine Rg_op rfl (op_pick_t (v := (Value.bool true)) rfl rfl ?_)
        refine Rg_op rfl (op_move (v := (Value.bool true)) rfl ?_)
        refine Rg_opx rfl (asB_ne rfl rfl) rfl ?_
        refine Rg_opx rfl (asB_ne rfl rfl) rfl ?_
        refine Rg_opx rfl (asB_ne rfl rfl) rfl ?_
        refine Rg_opx rfl (asB_ne rfl rfl) rfl ?_
        refine Rg_opx rfl (asB_ne rfl rfl) rfl ?_
        refine Rg_opx rfl (asB_ne rfl rfl) rfl ?_
        refine Rg_op rfl (op_pick_t (v := (Value.bool true)) rfl rfl ?_)
        refine Rg_nil ?_
        exact hK75 _ _ ⟨true, _, rfl, ⟨(by repeat (first | with_reducible exact Out.refl _ _ | refine Out.upd ?_ rfl | refine Out.updL ?_ rfl | refine Out.mix' ?_ rfl | exact Out.refl _ _)), rfl, rfl, trivial⟩, ch181, hs54, hm⟩
      ·
        replace hm := bif_f hm hg182
        refine Rg_opg rfl rfl rfl (op_move (v := (Value.slice a_b b.length c_b)) rfl ?_)
        refine Rg_opg rfl rfl rfl (op_len Try.underlying33 rfl ?_)
        refine Rg_opg rfl rfl rfl (op_gtr rfl rfl ?_)
        refine Rg_op rfl (op_pick_f (v := (Value.bool (decide (4096 < (b.length : Int))))) rfl rfl ?_)
        refine Rg_op rfl (op_move (v := (Value.bool (decide (4096 < (b.length : Int))))) rfl ?_)
        refine Rg_case (fun hg183 => ?_) (fun hg183 => ?_)
        ·
          replace hm := bif_t hm hg183
          refine Rg_opx rfl (asB_ne rfl rfl) rfl ?_
          refine Rg_opx rfl (asB_ne rfl rfl) rfl ?_
          refine Rg_opx rfl (asB_ne rfl rfl) rfl ?_
          refine Rg_opx rfl (asB_ne rfl rfl) rfl ?_
          refine Rg_opx rfl (asB_ne rfl rfl) rfl ?_
          refine Rg_opx rfl (asB_ne rfl rfl) rfl ?_
          refine Rg_op rfl (op_pick_t (v := (Value.bool true)) rfl rfl ?_)
          refine Rg_nil ?_
          exact hK75 _ _ ⟨true, _, rfl, ⟨(by repeat (first | with_reducible exact Out.refl _ _ | refine Out.upd ?_ rfl | refine Out.updL ?_ rfl | refine Out.mix' ?_ rfl | exact Out.refl _ _)), rfl, rfl, trivial⟩, ch181, hs54, hm⟩
        ·
          replace hm := bif_f hm hg183
          refine Rg_opg rfl rfl rfl (op_move (v := (Value.slice a_a a.length c_a)) rfl ?_)
          refine Rg_opg rfl rfl rfl (op_len Try.underlying33 rfl ?_)
          refine Rg_opg rfl rfl rfl (op_move (v := (Value.slice a_b b.length c_b)) rfl ?_)
          refine Rg_opg rfl rfl rfl (op_len Try.underlying33 rfl ?_)
          refine Rg_opg rfl rfl rfl (op_mulw rfl rfl ?_)
          refine Rg_opg rfl rfl rfl (op_gtr rfl rfl ?_)
          refine Rg_op rfl (op_pick_f (v := (Value.bool (decide (1048576 < (IntKind.wrap .i64 ((a.length : Int) * (b.length : Int))))))) rfl rfl ?_)
          refine Rg_nil ?_
          exact hK75 _ _ ⟨(decide (1048576 < (IntKind.wrap .i64 ((a.length : Int) * (b.length : Int))))), _, rfl, ⟨(by repeat (first | with_reducible exact Out.refl _ _ | refine Out.upd ?_ rfl | refine Out.updL ?_ rfl | refine Out.mix' ?_ rfl | exact Out.refl _ _)), rfl, rfl, trivial⟩, ch181, hs54, hm⟩

end Go.Fx


set_option linter.unusedVariables false
set_option linter.unusedSimpArgs false
set_option maxRecDepth 100000
set_option maxHeartbeats 0
namespace Go.Fx
open Go Go.RowKit Go.Proofs
def m43_vector_Fits_1 (a : List Int) (fv0_ : List Int) : Option Bool :=
  some (decide ((a.length : Int) ≠ (fv0_.length : Int)))

theorem c43_vector_Fits_1 {w : World} {O : List Nat} {a : List Int} {fv0_ : List Int} {a_a : Option Addr} {c_a : Nat} {p_fv0_ : Addr} (hO : ∀ k ∈ O, k < w.heap.size) (f_a : SlR (rInt .i64) w O a_a c_a a) (f_fv0_ : PtR (rSl (rInt .i64)) w O p_fv0_ fv0_) {x : Bool} (hm : m43_vector_Fits_1 a fv0_ = some x) :
    Ok Try.prog 43 [(Value.slice a_a a.length c_a), (Value.pointer (some p_fv0_))] w O vB x := by
  unfold m43_vector_Fits_1 at hm
  refine Fn_of_Wp (n := 9) (xs := [.tmp 3]) Try.func43 rfl Try.ntmps43 Try.results43 rfl ?_
  have hs := St.start hO
  refine Wp_seq ?_
  refine Wp_region ?_  -- 0 vector.go:118
  refine Rg_op rfl (op_assign (v := (Value.bool false)) rfl ?_)
  refine Rg_nil ?_
  refine Wp_seq ?_
  refine Wp_region ?_  -- 1 vector.go:118
  refine Rg_op rfl (op_move (v := (Value.slice a_a a.length c_a)) rfl ?_)
  refine Rg_op rfl (op_len Try.underlying22 rfl ?_)
  refine Rg_op rfl (op_loadP ty22 rfl f_fv0_ rfl ?_)
  intro v1 h2
  obtain ⟨a_y3, c_y3, rfl, f_y3⟩ := un_sl h2
  refine Rg_op rfl (op_len Try.underlying22 rfl ?_)
  refine Rg_op rfl (op_neq rfl rfl ?_)
  refine Rg_op rfl (op_assign (v := (Value.bool (decide ((a.length : Int) ≠ (fv0_.length : Int))))) rfl ?_)
  refine Rg_nil ?_
  refine Wp_ret ?_
  have hz := step_all hs
  replace f_a := f_a.step hz
  replace f_fv0_ := f_fv0_.step hz
  replace f_y3 := f_y3.step hz
  refine ⟨_, (show Closes [] _ _ from rfl), [(Value.bool (decide ((a.length : Int) ≠ (fv0_.length : Int))))], ⟨rfl, trivial⟩, hs.ext, ?_⟩
  exact Vr.eq (a := vB) (x := (decide ((a.length : Int) ≠ (fv0_.length : Int)))) rfl (Option.some.inj hm)

end Go.Fx


set_option linter.unusedVariables false
set_option linter.unusedSimpArgs false
set_option maxRecDepth 100000
set_option maxHeartbeats 0
namespace Go.Fx
open Go Go.RowKit Go.Proofs
def m44_vector_Fits_2 (a : List Int) (fv0_ : List Int) : Option Bool :=
  (m32_vector_below a fv0_).bind fun below_1 =>
  some below_1

theorem c44_vector_Fits_2 {w : World} {O : List Nat} {a : List Int} {fv0_ : List Int} {a_a : Option Addr} {c_a : Nat} {p_fv0_ : Addr} (hO : ∀ k ∈ O, k < w.heap.size) (f_a : SlR (rInt .i64) w O a_a c_a a) (f_fv0_ : PtR (rSl (rInt .i64)) w O p_fv0_ fv0_) {x : Bool} (hm : m44_vector_Fits_2 a fv0_ = some x) :
    Ok Try.prog 44 [(Value.slice a_a a.length c_a), (Value.pointer (some p_fv0_))] w O vB x := by
  unfold m44_vector_Fits_2 at hm
  refine Fn_of_Wp (n := 7) (xs := [.tmp 3]) Try.func44 rfl Try.ntmps44 Try.results44 rfl ?_
  have hs := St.start hO
  refine Wp_seq ?_
  refine Wp_region ?_  -- 0 vector.go:121
  refine Rg_op rfl (op_assign (v := (Value.bool false)) rfl ?_)
  refine Rg_nil ?_
  refine Wp_seq ?_
  refine Wp_region ?_  -- 1 vector.go:121
  refine Rg_op rfl (op_move (v := (Value.slice a_a a.length c_a)) rfl ?_)
  refine Rg_op rfl (op_loadP ty22 rfl f_fv0_ rfl ?_)
  intro v1 h2
  obtain ⟨a_y3, c_y3, rfl, f_y3⟩ := un_sl h2
  replace hm := bd hm; obtain ⟨below_1, hv4, hm⟩ := hm
  refine Rg_op rfl (op_call Try.call32 (c32_vector_below (a := a) (b := fv0_) hs.ltw f_a f_y3 hv4) rfl ?_)
  rintro v5 w6 ⟨hx7, h8⟩
  have hs9 := hs.call hx7
  have p10 := Step.ext (O := ks [] O) hx7
  clear hx7
  replace f_a := f_a.step p10
  replace f_fv0_ := f_fv0_.step p10
  replace f_y3 := f_y3.step p10
  clear p10
  obtain rfl := h8
  refine Rg_op rfl (op_assign (v := (Value.bool below_1)) rfl ?_)
  refine Rg_nil ?_
  refine Wp_ret ?_
  have hz := step_all hs9
  replace f_a := f_a.step hz
  replace f_fv0_ := f_fv0_.step hz
  replace f_y3 := f_y3.step hz
  refine ⟨_, (show Closes [] _ _ from rfl), [(Value.bool below_1)], ⟨rfl, trivial⟩, hs9.ext, ?_⟩
  exact Vr.eq (a := vB) (x := below_1) rfl (Option.some.inj hm)

end Go.Fx


set_option linter.unusedVariables false
set_option linter.unusedSimpArgs false
set_option maxRecDepth 100000
set_option maxHeartbeats 0
namespace Go.Fx
open Go Go.RowKit Go.Proofs
def m25_vector_Fits (l : List (List Int)) (budget : List Int) : Option (Bool × Int) :=
  (m42_slices_ContainsFuncint_int_ l (some (fun x9 => m43_vector_Fits_1 x9 budget))).bind fun containsfunc_1 =>
  bif containsfunc_1 then
    some (false, 60)
  else
    (m42_slices_ContainsFuncint_int_ l (some (fun x29 => m44_vector_Fits_2 x29 budget))).bind fun containsfunc_2 =>
    some (containsfunc_2, 0)

theorem c25_vector_Fits {w : World} {O : List Nat} {l : List (List Int)} {budget : List Int} {a_l : Option Addr} {c_l : Nat} {a_budget : Option Addr} {c_budget : Nat} (hO : ∀ k ∈ O, k < w.heap.size) (f_l : SlR (rSl (rInt .i64)) w O a_l c_l l) (f_budget : SlR (rInt .i64) w O a_budget c_budget budget) {x : Bool × Int} (hm : m25_vector_Fits l budget = some x) :
    Ok Try.prog 25 [(Value.slice a_l l.length c_l), (Value.slice a_budget budget.length c_budget)] w O (vT2 vB (vI .i64)) x := by
  unfold m25_vector_Fits at hm
  refine Fn_of_Wp (n := 12) (xs := [.tmp 4, .tmp 5]) Try.func25 rfl Try.ntmps25 Try.results25 rfl ?_
  have hs := St.start hO
  refine Wp_seq ?_
  refine Wp_region ?_  -- 0 vector.go:117
  refine Rg_op rfl (op_box (cs := [(Value.slice a_budget budget.length c_budget)]) hs rfl rfl ?_)
  intro b1 w2 _ p3 hs4
  replace f_l := f_l.step p3
  replace f_budget := f_budget.step p3
  clear p3
  refine Rg_op rfl (op_assign (v := (Value.bool false)) rfl ?_)
  refine Rg_op rfl (op_assign (v := (Value.int .i64 0)) rfl ?_)
  refine Rg_nil ?_
  refine Wp_seq ?_
  refine Wp_seq ?_
  refine Wp_region ?_  -- 1 vector.go:118
  refine Rg_op rfl (op_move (v := (Value.slice a_l l.length c_l)) rfl ?_)
  obtain ⟨hs7, p8, f6⟩ := St.publishP (p := (rSl (rInt .i64))) (i := 0) (x := budget) hs4 rfl (mk_sl f_budget)
  replace f_l := f_l.step p8
  replace f_budget := f_budget.step p8
  clear p8 hs4
  refine Rg_op rfl (op_makeFunc' (a' := []) (c' := [(Value.pointer (some (⟨b1, 0, none⟩ : Addr)))]) rfl rfl ?_)
  have F10 : CallsTo1 Try.prog w2 (ks [] O) (Value.func (.func 43) #[] #[(Value.pointer (some (⟨b1, 0, none⟩ : Addr)))]) (vC (rSl (rInt .i64))) vB (fun x9 => m43_vector_Fits_1 x9 budget) := by
    intro w11 O12 st13 hO14 v17 x9 y15 h18 hy16
    obtain ⟨a_y19, c_y19, rfl, f_y19⟩ := un_sl h18
    exact ⟨43, #[], #[(Value.pointer (some (⟨b1, 0, none⟩ : Addr)))], rfl, Try.call43, c43_vector_Fits_1 (a := x9) hO14 f_y19 (f6.step st13) hy16⟩
  replace hm := bd hm; obtain ⟨containsfunc_1, hv20, hm⟩ := hm
  refine Rg_op rfl (op_call Try.call42 (c42_slices_ContainsFuncint_int_ (s := l) (f := (some (fun x9 => m43_vector_Fits_1 x9 budget))) hs7.ltw f_l (CallsO1.some_ F10) hv20) rfl ?_)
  rintro v21 w22 ⟨hx23, h24⟩
  have hs25 := hs7.call hx23
  have p26 := Step.ext (O := ks [] O) hx23
  clear hx23
  replace f_l := f_l.step p26
  replace f_budget := f_budget.step p26
  replace f6 := f6.step p26
  replace F10 := F10.step p26
  clear p26 hs7
  obtain rfl := h24
  refine Rg_nil ?_
  refine Wp_cond rfl (fun hc28 => ?_) (fun hc28 => ?_)
  ·
    replace hm := bif_t hm hc28
    refine Wp_seq ?_
    clear f_l f_budget f6 F10
    refine Wp_region ?_  -- 2 vector.go:119
    refine Rg_op rfl (op_assign (v := (Value.bool false)) rfl ?_)
    refine Rg_op rfl (op_assign (v := (Value.int .i64 60)) rfl ?_)
    refine Rg_nil ?_
    refine Wp_ret ?_
    have hz := step_all hs25
    refine ⟨_, (show Closes [] _ _ from rfl), [(Value.bool false), (Value.int .i64 60)], ⟨rfl, rfl, trivial⟩, hs25.ext, ?_⟩
    exact Vr.eq (a := (vT2 vB (vI .i64))) (x := (false, 60)) (mkT2 rfl ⟨rfl, (show InK .i64 60 from by decide)⟩) (Option.some.inj hm)
  ·
    replace hm := bif_f hm hc28
    refine Wp_skip ?_
    refine Wp_seq ?_
    clear f_budget F10
    refine Wp_region ?_  -- 3 vector.go:121
    refine Rg_op rfl (op_move (v := (Value.slice a_l l.length c_l)) rfl ?_)
    refine Rg_op rfl (op_makeFunc' (a' := []) (c' := [(Value.pointer (some (⟨b1, 0, none⟩ : Addr)))]) rfl rfl ?_)
    have F30 : CallsTo1 Try.prog w22 (ks [] O) (Value.func (.func 44) #[] #[(Value.pointer (some (⟨b1, 0, none⟩ : Addr)))]) (vC (rSl (rInt .i64))) vB (fun x29 => m44_vector_Fits_2 x29 budget) := by
      intro w31 O32 st33 hO34 v37 x29 y35 h38 hy36
      obtain ⟨a_y39, c_y39, rfl, f_y39⟩ := un_sl h38
      exact ⟨44, #[], #[(Value.pointer (some (⟨b1, 0, none⟩ : Addr)))], rfl, Try.call44, c44_vector_Fits_2 (a := x29) hO34 f_y39 (f6.step st33) hy36⟩
    replace hm := bd hm; obtain ⟨containsfunc_2, hv40, hm⟩ := hm
    refine Rg_op rfl (op_call Try.call42 (c42_slices_ContainsFuncint_int_ (s := l) (f := (some (fun x29 => m44_vector_Fits_2 x29 budget))) hs25.ltw f_l (CallsO1.some_ F30) hv40) rfl ?_)
    rintro v41 w42 ⟨hx43, h44⟩
    have hs45 := hs25.call hx43
    have p46 := Step.ext (O := ks [] O) hx43
    clear hx43
    replace f_l := f_l.step p46
    replace f6 := f6.step p46
    replace F30 := F30.step p46
    clear p46 hs25
    obtain rfl := h44
    refine Rg_op rfl (op_assign (v := (Value.bool containsfunc_2)) rfl ?_)
    refine Rg_op rfl (op_assign (v := (Value.int .i64 0)) rfl ?_)
    refine Rg_nil ?_
    refine Wp_ret ?_
    have hz := step_all hs45
    replace f_l := f_l.step hz
    replace f6 := f6.step hz
    replace F30 := F30.step hz
    refine ⟨_, (show Closes [] _ _ from rfl), [(Value.bool containsfunc_2), (Value.int .i64 0)], ⟨rfl, rfl, trivial⟩, hs45.ext, ?_⟩
    exact Vr.eq (a := (vT2 vB (vI .i64))) (x := (containsfunc_2, 0)) (mkT2 rfl ⟨rfl, (show InK .i64 0 from by decide)⟩) (Option.some.inj hm)

end Go.Fx


set_option linter.unusedVariables false
set_option linter.unusedSimpArgs false
set_option maxRecDepth 100000
set_option maxHeartbeats 0
namespace Go.Fx
open Go Go.RowKit Go.Proofs
def m27_overflightref06_SameList_B0 (a : List (List Int)) (b : List (List Int)) (sf4 : Int → Option Bool) (i_1 : Int) : Option Bool :=
  bif (decide (i_1 < (a.length : Int))) then
    ck ((0 : Int) ≤ i_1 ∧ i_1 < (a.length : Int)) <|
    ck ((0 : Int) ≤ i_1 ∧ i_1 < (b.length : Int)) <|
    (m19_overflightref06_Same (a.getD i_1.toNat default) (b.getD i_1.toNat default)).bind fun same_1 =>
    bif (!same_1) then
      some false
    else
      sf4 (IntKind.wrap .i64 (i_1 + 1))
  else
    some true

def m27_overflightref06_SameList (a : List (List Int)) (b : List (List Int)) : Option Bool :=
  bif (decide ((a.length : Int) ≠ (b.length : Int))) then
    some false
  else
    loop1 (m27_overflightref06_SameList_B0 a b) (((a.length : Int) - 0).toNat + 1) 0

theorem c27_overflightref06_SameList {w : World} {O : List Nat} {a : List (List Int)} {b : List (List Int)} {a_a : Option Addr} {c_a : Nat} {a_b : Option Addr} {c_b : Nat} (hO : ∀ k ∈ O, k < w.heap.size) (f_a : SlR (rSl (rInt .i64)) w O a_a c_a a) (f_b : SlR (rSl (rInt .i64)) w O a_b c_b b) {x : Bool} (hm : m27_overflightref06_SameList a b = some x) :
    Ok Try.prog 27 [(Value.slice a_a a.length c_a), (Value.slice a_b b.length c_b)] w O vB x := by
  unfold m27_overflightref06_SameList at hm
  refine Fn_of_Wp (n := 27) (xs := [.tmp 4]) Try.func27 rfl Try.ntmps27 Try.results27 rfl ?_
  have hs := St.start hO
  refine Wp_seq ?_
  refine Wp_region ?_  -- 0 ref.go:181
  refine Rg_op rfl (op_assign (v := (Value.bool false)) rfl ?_)
  refine Rg_nil ?_
  refine Wp_seq ?_
  refine Wp_seq ?_
  refine Wp_region ?_  -- 1 ref.go:182
  refine Rg_op rfl (op_move (v := (Value.slice a_a a.length c_a)) rfl ?_)
  refine Rg_op rfl (op_len Try.underlying33 rfl ?_)
  refine Rg_op rfl (op_move (v := (Value.slice a_b b.length c_b)) rfl ?_)
  refine Rg_op rfl (op_len Try.underlying33 rfl ?_)
  refine Rg_op rfl (op_neq rfl rfl ?_)
  refine Rg_nil ?_
  refine Wp_cond rfl (fun hc1 => ?_) (fun hc1 => ?_)
  ·
    replace hm := bif_t hm hc1
    refine Wp_seq ?_
    clear f_a f_b
    refine Wp_region ?_  -- 2 ref.go:183
    refine Rg_op rfl (op_assign (v := (Value.bool false)) rfl ?_)
    refine Rg_nil ?_
    refine Wp_ret ?_
    have hz := step_all hs
    refine ⟨_, (show Closes [] _ _ from rfl), [(Value.bool false)], ⟨rfl, trivial⟩, hs.ext, ?_⟩
    exact Vr.eq (a := vB) (x := false) rfl (Option.some.inj hm)
  ·
    replace hm := bif_f hm hc1
    refine Wp_skip ?_
    refine Wp_seq ?_
    refine Wp_seq ?_
    refine Wp_region ?_  -- 3 ref.go:185
    refine Rg_op rfl (op_assign (v := (Value.int .i64 0)) rfl ?_)
    refine Rg_nil ?_
    refine Wp_block ?_
    refine Wp_reset [] [(0, (Value.slice a_a a.length c_a)), (1, (Value.slice a_b b.length c_b)), (5, (Value.int .i64 0))] rfl ⟨rfl, rfl, rfl, trivial⟩ fun ξ3 => ?_
    refine Wp_loopM [4, 5, 11, 12, 13, 14, 15, 16, 17, 18, 19, 20, 21, 22, 23, 24, 25, 26] (fun m fr w' => ∃ (i_1 : Int) (Ebs : Ents), Ebs = [] ∧ fr [] [(5, (Value.int .i64 i_1))] ∧ Step (ks [] O) w (ks Ebs O) w' ∧ St ⟨w, [], []⟩ O w' Ebs ∧ InK .i64 i_1 ∧ loop1 (m27_overflightref06_SameList_B0 a b) m i_1 = some x) (((a.length : Int) - 0).toNat + 1) ⟨0, _, rfl, ⟨Out.refl _ _, rfl, rfl, trivial⟩, Step.refl _ _, hs, (show InK .i64 0 from by decide), hm⟩ ?_ ?_
    · rintro _ _ ⟨_, _, _, _, _, _, _, hm⟩; exact loop1_z hm
    · rintro m7 K6 hK6 ρ12 w8 ⟨i_1, Ebs, hEbs, hfr11, hst10, hs9, r_y2, hm⟩
      obtain ⟨sf4, hsf5, hm⟩ := loop1_s hm; unfold m27_overflightref06_SameList_B0 at hm
      subst hEbs; rw [hfr11.eq]; clear hfr11
      replace f_a := f_a.step hst10
      replace f_b := f_b.step hst10
      have ch13 := hst10
      refine Wp_seq ?_
      refine Wp_seq ?_
      refine Wp_region ?_  -- 4 ref.go:185
      refine Rg_op rfl (op_move (v := (Value.int .i64 i_1)) rfl ?_)
      refine Rg_op rfl (op_move (v := (Value.slice a_a a.length c_a)) rfl ?_)
      refine Rg_op rfl (op_len Try.underlying33 rfl ?_)
      refine Rg_op rfl (op_lss rfl rfl ?_)
      refine Rg_nil ?_
      refine Wp_cond rfl (fun hc14 => ?_) (fun hc14 => ?_)
      ·
        replace hm := bif_t hm hc14
        refine Wp_skip ?_
        refine Wp_seq ?_
        refine Wp_block ?_
        refine Wp_seq ?_
        refine Wp_drawR (g0 := []) (m := 8) (fl := []) (TS_inv hs9) (.inl rfl) rfl (by decide +kernel) ?_  -- 6
        refine Dw_eq (Value.slice a_a a.length c_a) (fun ρ15 w16 g hle hi ht => ?_) ?_
        ·
          obtain ⟨-, hst, -⟩ := hle
          refine StepOp_plain (op_move (v := (Value.slice a_a a.length c_a)) (ht 0 rfl) ?_)
          exact Goes.same hi rfl
        refine Dw_eq (Value.int .i64 i_1) (fun ρ18 w19 g hle hi ht => ?_) ?_
        ·
          obtain ⟨-, hst, -⟩ := hle
          refine StepOp_plain (op_move (v := (Value.int .i64 i_1)) (ht 5 rfl) ?_)
          exact Goes.same hi rfl
        replace hm := ck_some hm; obtain ⟨hc24, hm⟩ := hm
        refine Dw_op (VP O [] (rSl (rInt .i64)) (a.getD i_1.toNat default)) (VP.stab _ _) (fun ρ21 w22 g hle hi ht => ?_) ?_
        ·
          obtain ⟨-, hst, -⟩ := hle
          replace f_a := f_a.step hst
          refine StepOp_plain (op_indexAddr (q := (rSl (rInt .i64))) ty33 ty22 (ht 17 rfl) (ht 18 rfl) f_a rfl hc24.1 hc24.2 ?_)
          intro p25 f26
          exact Goes.same hi ⟨_, rfl, f26⟩
        refine Dw_op (VD O [] (vC (rSl (rInt .i64))) (a.getD i_1.toNat default)) (VD.stab _ _) (fun ρ27 w28 g hle hi ht => ?_) ?_
        ·
          obtain ⟨-, hst, -⟩ := hle
          obtain ⟨p30, q31, f32⟩ := ht 19 rfl
          refine StepOp_plain (op_loadP ty22 q31 f32 rfl ?_)
          intro v33 h34
          obtain ⟨a_y35, c_y35, rfl, f_y35⟩ := un_sl h34
          exact Goes.same hi (show Vr.vd (vC (rSl (rInt .i64))) _ _ _ _ from (mkC (mk_sl f_y35)))
        refine Dw_eq (Value.slice a_b b.length c_b) (fun ρ36 w37 g hle hi ht => ?_) ?_
        ·
          obtain ⟨-, hst, -⟩ := hle
          refine StepOp_plain (op_move (v := (Value.slice a_b b.length c_b)) (ht 1 rfl) ?_)
          exact Goes.same hi rfl
        refine Dw_eq (Value.int .i64 i_1) (fun ρ39 w40 g hle hi ht => ?_) ?_
        ·
          obtain ⟨-, hst, -⟩ := hle
          refine StepOp_plain (op_move (v := (Value.int .i64 i_1)) (ht 5 rfl) ?_)
          exact Goes.same hi rfl
        replace hm := ck_some hm; obtain ⟨hc45, hm⟩ := hm
        refine Dw_op (VP O [] (rSl (rInt .i64)) (b.getD i_1.toNat default)) (VP.stab _ _) (fun ρ42 w43 g hle hi ht => ?_) ?_
        ·
          obtain ⟨-, hst, -⟩ := hle
          replace f_b := f_b.step hst
          refine StepOp_plain (op_indexAddr (q := (rSl (rInt .i64))) ty33 ty22 (ht 21 rfl) (ht 22 rfl) f_b rfl hc45.1 hc45.2 ?_)
          intro p46 f47
          exact Goes.same hi ⟨_, rfl, f47⟩
        refine Dw_op (VD O [] (vC (rSl (rInt .i64))) (b.getD i_1.toNat default)) (VD.stab _ _) (fun ρ48 w49 g hle hi ht => ?_) ?_
        ·
          obtain ⟨-, hst, -⟩ := hle
          obtain ⟨p51, q52, f53⟩ := ht 23 rfl
          refine StepOp_plain (op_loadP ty22 q52 f53 rfl ?_)
          intro v54 h55
          obtain ⟨a_y56, c_y56, rfl, f_y56⟩ := un_sl h55
          exact Goes.same hi (show Vr.vd (vC (rSl (rInt .i64))) _ _ _ _ from (mkC (mk_sl f_y56)))
        refine Dw_nil fun w61 g62 hl63 hi64 => ?_
        obtain ⟨-, hst65, -⟩ := hl63
        obtain ⟨hs67, p66⟩ := Step.nx hi64
        rintro v68 h69
        replace h69 : Vr.vd (vC (rSl (rInt .i64))) _ _ _ _ := h69
        obtain ⟨a_y70, c_y70, rfl, f_y70⟩ := un_sl h69
        rintro _ ⟨p71, rfl, f72⟩
        rintro _ rfl
        rintro _ rfl
        rintro v73 h74
        replace h74 : Vr.vd (vC (rSl (rInt .i64))) _ _ _ _ := h74
        obtain ⟨a_y75, c_y75, rfl, f_y75⟩ := un_sl h74
        rintro _ ⟨p76, rfl, f77⟩
        rintro _ rfl
        rintro _ rfl
        have p78 : Step (ks [] O) w8 (ks [] O) w61 := hst65.trans p66
        replace f_y70 := f_y70.step p66
        replace f72 := f72.step p66
        replace f_y75 := f_y75.step p66
        replace f77 := f77.step p66
        replace f_a := f_a.step p78
        replace f_b := f_b.step p78
        replace ch13 := ch13.trans p78
        clear p78 hs9
        replace hm := bd hm; obtain ⟨same_1, hv79, hm⟩ := hm
        refine Rg_op rfl (op_call Try.call19 (c19_overflightref06_Same (a := (a.getD i_1.toNat default)) (b := (b.getD i_1.toNat default)) hs67.ltw f_y75 f_y70 hv79) rfl ?_)
        rintro v80 w81 ⟨hx82, h83⟩
        have hs84 := hs67.call hx82
        have p85 := Step.ext (O := ks [] O) hx82
        clear hx82
        replace f_a := f_a.step p85
        replace f_b := f_b.step p85
        replace f_y70 := f_y70.step p85
        replace f72 := f72.step p85
        replace f_y75 := f_y75.step p85
        replace f77 := f77.step p85
        replace ch13 := ch13.trans p85
        clear p85 hs67
        obtain rfl := h83
        refine Rg_op rfl (op_not rfl ?_)
        refine Rg_nil ?_
        refine Wp_cond rfl (fun hc87 => ?_) (fun hc87 => ?_)
        ·
          replace hm := bif_t hm hc87
          refine Wp_seq ?_
          clear f_a f_b f_y70 f72 f_y75 f77
          refine Wp_region ?_  -- 7 ref.go:187
          refine Rg_op rfl (op_assign (v := (Value.bool false)) rfl ?_)
          refine Rg_nil ?_
          refine Wp_ret ?_
          have hz := step_all hs84
          refine ⟨_, (show Closes [] _ _ from rfl), [(Value.bool false)], ⟨rfl, trivial⟩, hs84.ext, ?_⟩
          exact Vr.eq (a := vB) (x := false) rfl (Option.some.inj hm)
        ·
          replace hm := bif_f hm hc87
          refine Wp_skip ?_
          clear f_y70 f72 f_y75 f77
          refine Wp_region ?_  -- 5 ref.go:185
          refine Rg_op rfl (op_move (v := (Value.int .i64 i_1)) rfl ?_)
          refine Rg_op rfl (op_addw rfl rfl ?_)
          refine Rg_op rfl (op_assign (v := (Value.int .i64 (IntKind.wrap .i64 (i_1 + 1)))) rfl ?_)
          refine Rg_nil ?_
          exact hK6 _ _ ⟨(IntKind.wrap .i64 (i_1 + 1)), _, rfl, ⟨(by repeat (first | with_reducible exact Out.refl _ _ | refine Out.upd ?_ rfl | refine Out.updL ?_ rfl | refine Out.mix' ?_ rfl | exact Out.refl _ _)), rfl, rfl, trivial⟩, ch13, hs84, (inK_wrap .i64 _), jnE1 hsf5 hm⟩
      ·
        replace hm := bif_f hm hc14
        refine Wp_exit ?_
        refine Wp_seq ?_
        clear f_a f_b
        refine Wp_region ?_  -- 8 ref.go:190
        refine Rg_op rfl (op_assign (v := (Value.bool true)) rfl ?_)
        refine Rg_nil ?_
        refine Wp_ret ?_
        have hz := step_all hs9
        refine ⟨_, (show Closes [] _ _ from rfl), [(Value.bool true)], ⟨rfl, trivial⟩, hs9.ext, ?_⟩
        exact Vr.eq (a := vB) (x := true) rfl (Option.some.inj hm)

end Go.Fx


set_option linter.unusedVariables false
set_option linter.unusedSimpArgs false
set_option maxRecDepth 100000
set_option maxHeartbeats 0
namespace Go.Fx
open Go Go.RowKit Go.Proofs
def m11_overflightlaw06_sane : Option Bool :=
  (m15_vector_Below [1, 5] [2, 4]).bind fun below_1 =>
  (m17_vector_Compare [1, 5] [2, 4]).bind fun compare_1 =>
  (m17_vector_Compare ([] : List Int) ([] : List Int)).bind fun compare_2 =>
  (m13_vector_Add [1] [1, 2]).bind fun add_1 =>
  (m13_vector_Add [1, 5] [2, (-4)]).bind fun add_2 =>
  (m21_vector_Least [[1, 5], [2, 4], [2, 5], [1, 5]]).bind fun least_1 =>
  (m21_vector_Least ([] : List (List Int))).bind fun least_2 =>
  (m23_vector_Sums ([] : List (List Int)) [[1]]).bind fun sums_1 =>
  (m23_vector_Sums [[1, 5], [2, 4]] [[1, 0], [0, 1]]).bind fun sums_2 =>
  (m25_vector_Fits [[0, 0]] [0, 0]).bind fun fits_1 =>
  (m25_vector_Fits ([] : List (List Int)) [9]).bind fun fits_2 =>
  jn (fun (one_1 : Bool) =>
    jn (fun (v_1 : Bool) =>
      some v_1)
    (fun k384 =>
      bif one_1 then
        bif (decide (least_2.2 = 0)) then
          bif (decide ((least_2.1.length : Int) = 0)) then
            bif (decide (sums_1.2 = 0)) then
              bif (decide ((sums_1.1.length : Int) = 0)) then
                bif (decide (sums_2.2 = 0)) then
                  (m27_overflightref06_SameList sums_2.1 [[1, 6], [2, 5], [3, 4]]).bind fun samelist_1 =>
                  bif samelist_1 then
                    bif (decide (fits_1.2 = 0)) then
                      bif fits_1.1 then
                        bif (decide (fits_2.2 = 0)) then
                          k384 (!fits_2.1)
                        else
                          k384 false
                      else
                        k384 false
                    else
                      k384 false
                  else
                    k384 false
                else
                  k384 false
              else
                k384 false
            else
              k384 false
          else
            k384 false
        else
          k384 false
      else
        k384 false))
  (fun k374 =>
    bif (decide (below_1.2 = 0)) then
      bif (!below_1.1) then
        bif (decide (compare_1.2 = 0)) then
          bif (decide (compare_1.1 = (-1))) then
            bif (decide (compare_2.2 = 0)) then
              bif (decide (compare_2.1 = 0)) then
                bif (decide (add_1.2 = 60)) then
                  bif (decide (add_2.2 = 0)) then
                    (m19_overflightref06_Same add_2.1 [3, 1]).bind fun same_1 =>
                    bif same_1 then
                      bif (decide (least_1.2 = 0)) then
                        (m27_overflightref06_SameList least_1.1 [[1, 5], [2, 4]]).bind fun samelist_2 =>
                        k374 samelist_2
                      else
                        k374 false
                    else
                      k374 false
                  else
                    k374 false
                else
                  k374 false
              else
                k374 false
            else
              k374 false
          else
            k374 false
        else
          k374 false
      else
        k374 false
    else
      k374 false)

theorem c11_overflightlaw06_sane {w : World} {O : List Nat} (hO : ∀ k ∈ O, k < w.heap.size) {x : Bool} (hm : m11_overflightlaw06_sane = some x) :
    Ok Try.prog 11 [] w O vB x := by
  unfold m11_overflightlaw06_sane at hm
  refine Fn_of_Wp (n := 185) (xs := [.tmp 0]) Try.func11 rfl Try.ntmps11 Try.results11 rfl ?_
  have hs := St.start hO
  refine Wp_seq ?_
  refine Wp_region ?_  -- 0 law.go:11
  refine Rg_op rfl (op_assign (v := (Value.bool false)) rfl ?_)
  refine Rg_nil ?_
  refine Wp_seq ?_
  refine Wp_region ?_  -- 1 law.go:12
  refine Rg_op rfl (op_buildSlice (cs := [(Value.int .i64 1), (Value.int .i64 5)]) (parts := [(0, .const (.int .i64 1)), (1, .const (.int .i64 5))]) ty22 ty3 hs (by decide) rfl ?_)
  intro b1 w2 hx5 p3 hs4
  clear p3
  refine Rg_op rfl (op_buildSlice (cs := [(Value.int .i64 2), (Value.int .i64 4)]) (parts := [(0, .const (.int .i64 2)), (1, .const (.int .i64 4))]) ty22 ty3 hs4 (by decide) rfl ?_)
  intro b7 w8 hx11 p9 hs10
  clear p9 hs4
  obtain ⟨hs14, p15, f13⟩ := St.publish (i := 1) (o := 0) (c := 2) (xs := [1, 5]) hs10 rfl (show Els (rInt .i64) _ _ [(Value.int .i64 1), (Value.int .i64 5)] [1, 5] from ⟨_, _, rfl, (mk_int (show InK .i64 1 from by decide)), ⟨_, _, rfl, (mk_int (show InK .i64 5 from by decide)), Els.nil⟩⟩) (le_lit rfl) (le_lit rfl) (le_lit rfl)
  clear p15 hs10
  obtain ⟨hs17, p18, f16⟩ := St.publish (i := 0) (o := 0) (c := 2) (xs := [2, 4]) hs14 rfl (show Els (rInt .i64) _ _ [(Value.int .i64 2), (Value.int .i64 4)] [2, 4] from ⟨_, _, rfl, (mk_int (show InK .i64 2 from by decide)), ⟨_, _, rfl, (mk_int (show InK .i64 4 from by decide)), Els.nil⟩⟩) (le_lit rfl) (le_lit rfl) (le_lit rfl)
  replace f13 := f13.step p18
  clear p18 hs14
  replace hm := bd hm; obtain ⟨below_1, hv19, hm⟩ := hm
  refine Rg_op rfl (op_call Try.call15 (c15_vector_Below (a := [1, 5]) (b := [2, 4]) hs17.ltw f13 f16 hv19) rfl ?_)
  rintro v20 w21 ⟨hx22, h23⟩
  have hs24 := hs17.call hx22
  have p25 := Step.ext (O := ks [] O) hx22
  clear hx22
  replace f13 := f13.step p25
  replace f16 := f16.step p25
  clear p25 hs17
  obtain ⟨v26, v27, rfl, h28, h29⟩ := h23
  obtain rfl := h28
  obtain ⟨rfl, r_y31⟩ := h29
  refine Rg_op rfl (op_move (v := (Value.tuple [(Value.bool below_1.1), (Value.int .i64 below_1.2)].toArray)) rfl ?_)
  refine Rg_op rfl (op_extract (v := (Value.bool below_1.1)) rfl rfl ?_)
  refine Rg_op rfl (op_extract (v := (Value.int .i64 below_1.2)) rfl rfl ?_)
  refine Rg_op rfl (op_assign (v := (Value.bool below_1.1)) rfl ?_)
  refine Rg_op rfl (op_assign (v := (Value.int .i64 below_1.2)) rfl ?_)
  refine Rg_nil ?_
  refine Wp_seq ?_
  clear f13 f16
  refine Wp_region ?_  -- 2 law.go:13
  refine Rg_op rfl (op_buildSlice (cs := [(Value.int .i64 1), (Value.int .i64 5)]) (parts := [(0, .const (.int .i64 1)), (1, .const (.int .i64 5))]) ty22 ty3 hs24 (by decide) rfl ?_)
  intro b32 w33 hx36 p34 hs35
  clear p34 hs24
  refine Rg_op rfl (op_buildSlice (cs := [(Value.int .i64 2), (Value.int .i64 4)]) (parts := [(0, .const (.int .i64 2)), (1, .const (.int .i64 4))]) ty22 ty3 hs35 (by decide) rfl ?_)
  intro b38 w39 hx42 p40 hs41
  clear p40 hs35
  obtain ⟨hs45, p46, f44⟩ := St.publish (i := 1) (o := 0) (c := 2) (xs := [1, 5]) hs41 rfl (show Els (rInt .i64) _ _ [(Value.int .i64 1), (Value.int .i64 5)] [1, 5] from ⟨_, _, rfl, (mk_int (show InK .i64 1 from by decide)), ⟨_, _, rfl, (mk_int (show InK .i64 5 from by decide)), Els.nil⟩⟩) (le_lit rfl) (le_lit rfl) (le_lit rfl)
  clear p46 hs41
  obtain ⟨hs48, p49, f47⟩ := St.publish (i := 0) (o := 0) (c := 2) (xs := [2, 4]) hs45 rfl (show Els (rInt .i64) _ _ [(Value.int .i64 2), (Value.int .i64 4)] [2, 4] from ⟨_, _, rfl, (mk_int (show InK .i64 2 from by decide)), ⟨_, _, rfl, (mk_int (show InK .i64 4 from by decide)), Els.nil⟩⟩) (le_lit rfl) (le_lit rfl) (le_lit rfl)
  replace f44 := f44.step p49
  clear p49 hs45
  replace hm := bd hm; obtain ⟨compare_1, hv50, hm⟩ := hm
  refine Rg_op rfl (op_call Try.call17 (c17_vector_Compare (a := [1, 5]) (b := [2, 4]) hs48.ltw f44 f47 hv50) rfl ?_)
  rintro v51 w52 ⟨hx53, h54⟩
  have hs55 := hs48.call hx53
  have p56 := Step.ext (O := ks [] O) hx53
  clear hx53
  replace f44 := f44.step p56
  replace f47 := f47.step p56
  clear p56 hs48
  obtain ⟨v57, v58, rfl, h59, h60⟩ := h54
  obtain ⟨rfl, r_y61⟩ := h59
  obtain ⟨rfl, r_y62⟩ := h60
  refine Rg_op rfl (op_move (v := (Value.tuple [(Value.int .i64 compare_1.1), (Value.int .i64 compare_1.2)].toArray)) rfl ?_)
  refine Rg_op rfl (op_extract (v := (Value.int .i64 compare_1.1)) rfl rfl ?_)
  refine Rg_op rfl (op_extract (v := (Value.int .i64 compare_1.2)) rfl rfl ?_)
  refine Rg_op rfl (op_assign (v := (Value.int .i64 compare_1.1)) rfl ?_)
  refine Rg_op rfl (op_assign (v := (Value.int .i64 compare_1.2)) rfl ?_)
  refine Rg_nil ?_
  refine Wp_seq ?_
  clear f44 f47
  refine Wp_region ?_  -- 3 law.go:14
  replace hm := bd hm; obtain ⟨compare_2, hv63, hm⟩ := hm
  refine Rg_op rfl (op_call Try.call17 (c17_vector_Compare (a := ([] : List Int)) (b := ([] : List Int)) hs55.ltw SlR.nil_ SlR.nil_ hv63) rfl ?_)
  rintro v64 w65 ⟨hx66, h67⟩
  have hs68 := hs55.call hx66
  have p69 := Step.ext (O := ks [] O) hx66
  clear hx66
  clear p69 hs55
  obtain ⟨v70, v71, rfl, h72, h73⟩ := h67
  obtain ⟨rfl, r_y74⟩ := h72
  obtain ⟨rfl, r_y75⟩ := h73
  refine Rg_op rfl (op_move (v := (Value.tuple [(Value.int .i64 compare_2.1), (Value.int .i64 compare_2.2)].toArray)) rfl ?_)
  refine Rg_op rfl (op_extract (v := (Value.int .i64 compare_2.1)) rfl rfl ?_)
  refine Rg_op rfl (op_extract (v := (Value.int .i64 compare_2.2)) rfl rfl ?_)
  refine Rg_op rfl (op_assign (v := (Value.int .i64 compare_2.1)) rfl ?_)
  refine Rg_op rfl (op_assign (v := (Value.int .i64 compare_2.2)) rfl ?_)
  refine Rg_nil ?_
  refine Wp_seq ?_
  refine Wp_region ?_  -- 4 law.go:15
  refine Rg_op rfl (op_buildSlice (cs := [(Value.int .i64 1)]) (parts := [(0, .const (.int .i64 1))]) ty22 ty3 hs68 (by decide) rfl ?_)
  intro b76 w77 hx80 p78 hs79
  clear p78 hs68
  refine Rg_op rfl (op_buildSlice (cs := [(Value.int .i64 1), (Value.int .i64 2)]) (parts := [(0, .const (.int .i64 1)), (1, .const (.int .i64 2))]) ty22 ty3 hs79 (by decide) rfl ?_)
  intro b82 w83 hx86 p84 hs85
  clear p84 hs79
  obtain ⟨hs89, p90, f88⟩ := St.publish (i := 1) (o := 0) (c := 1) (xs := [1]) hs85 rfl (show Els (rInt .i64) _ _ [(Value.int .i64 1)] [1] from ⟨_, _, rfl, (mk_int (show InK .i64 1 from by decide)), Els.nil⟩) (le_lit rfl) (le_lit rfl) (le_lit rfl)
  clear p90 hs85
  obtain ⟨hs92, p93, f91⟩ := St.publish (i := 0) (o := 0) (c := 2) (xs := [1, 2]) hs89 rfl (show Els (rInt .i64) _ _ [(Value.int .i64 1), (Value.int .i64 2)] [1, 2] from ⟨_, _, rfl, (mk_int (show InK .i64 1 from by decide)), ⟨_, _, rfl, (mk_int (show InK .i64 2 from by decide)), Els.nil⟩⟩) (le_lit rfl) (le_lit rfl) (le_lit rfl)
  replace f88 := f88.step p93
  clear p93 hs89
  replace hm := bd hm; obtain ⟨add_1, hv94, hm⟩ := hm
  refine Rg_op rfl (op_call Try.call13 (c13_vector_Add (a := [1]) (b := [1, 2]) hs92.ltw f88 f91 hv94) rfl ?_)
  rintro v95 w96 ⟨hx97, h98⟩
  have hs99 := hs92.call hx97
  have p100 := Step.ext (O := ks [] O) hx97
  clear hx97
  replace f88 := f88.step p100
  replace f91 := f91.step p100
  clear p100 hs92
  obtain ⟨v101, v102, rfl, h103, h104⟩ := h98
  obtain ⟨a_y105, c_y105, rfl, f_y105⟩ := un_sl h103
  obtain ⟨rfl, r_y106⟩ := h104
  refine Rg_op rfl (op_move (v := (Value.tuple [(Value.slice a_y105 add_1.1.length c_y105), (Value.int .i64 add_1.2)].toArray)) rfl ?_)
  refine Rg_op rfl (op_extract (v := (Value.slice a_y105 add_1.1.length c_y105)) rfl rfl ?_)
  refine Rg_op rfl (op_extract (v := (Value.int .i64 add_1.2)) rfl rfl ?_)
  refine Rg_op rfl (op_assign (v := (Value.slice a_y105 add_1.1.length c_y105)) rfl ?_)
  refine Rg_op rfl (op_assign (v := (Value.int .i64 add_1.2)) rfl ?_)
  refine Rg_nil ?_
  refine Wp_seq ?_
  clear f88 f91 f_y105
  refine Wp_reset [] [(1, (Value.bool below_1.1)), (2, (Value.int .i64 below_1.2)), (3, (Value.int .i64 compare_1.1)), (4, (Value.int .i64 compare_1.2)), (5, (Value.int .i64 compare_2.1)), (6, (Value.int .i64 compare_2.2)), (8, (Value.int .i64 add_1.2))] rfl ⟨rfl, rfl, rfl, rfl, rfl, rfl, rfl, trivial⟩ fun ξ107 => ?_
  refine Wp_region ?_  -- 5 law.go:16
  refine Rg_op rfl (op_buildSlice (cs := [(Value.int .i64 1), (Value.int .i64 5)]) (parts := [(0, .const (.int .i64 1)), (1, .const (.int .i64 5))]) ty22 ty3 hs99 (by decide) rfl ?_)
  intro b108 w109 hx112 p110 hs111
  clear p110 hs99
  refine Rg_op rfl (op_buildSlice (cs := [(Value.int .i64 2), (Value.int .i64 (-4))]) (parts := [(0, .const (.int .i64 2)), (1, .const (.int .i64 (-4)))]) ty22 ty3 hs111 (by decide) rfl ?_)
  intro b114 w115 hx118 p116 hs117
  clear p116 hs111
  obtain ⟨hs121, p122, f120⟩ := St.publish (i := 1) (o := 0) (c := 2) (xs := [1, 5]) hs117 rfl (show Els (rInt .i64) _ _ [(Value.int .i64 1), (Value.int .i64 5)] [1, 5] from ⟨_, _, rfl, (mk_int (show InK .i64 1 from by decide)), ⟨_, _, rfl, (mk_int (show InK .i64 5 from by decide)), Els.nil⟩⟩) (le_lit rfl) (le_lit rfl) (le_lit rfl)
  clear p122 hs117
  obtain ⟨hs124, p125, f123⟩ := St.publish (i := 0) (o := 0) (c := 2) (xs := [2, (-4)]) hs121 rfl (show Els (rInt .i64) _ _ [(Value.int .i64 2), (Value.int .i64 (-4))] [2, (-4)] from ⟨_, _, rfl, (mk_int (show InK .i64 2 from by decide)), ⟨_, _, rfl, (mk_int (show InK .i64 (-4) from by decide)), Els.nil⟩⟩) (le_lit rfl) (le_lit rfl) (le_lit rfl)
  replace f120 := f120.step p125
  clear p125 hs121
  replace hm := bd hm; obtain ⟨add_2, hv126, hm⟩ := hm
  refine Rg_op rfl (op_call Try.call13 (c13_vector_Add (a := [1, 5]) (b := [2, (-4)]) hs124.ltw f120 f123 hv126) rfl ?_)
  rintro v127 w128 ⟨hx129, h130⟩
  have hs131 := hs124.call hx129
  have p132 := Step.ext (O := ks [] O) hx129
  clear hx129
  replace f120 := f120.step p132
  replace f123 := f123.step p132
  clear p132 hs124
  obtain ⟨v133, v134, rfl, h135, h136⟩ := h130
  obtain ⟨a_y137, c_y137, rfl, f_y137⟩ := un_sl h135
  obtain ⟨rfl, r_y138⟩ := h136
  refine Rg_op rfl (op_move (v := (Value.tuple [(Value.slice a_y137 add_2.1.length c_y137), (Value.int .i64 add_2.2)].toArray)) rfl ?_)
  refine Rg_op rfl (op_extract (v := (Value.slice a_y137 add_2.1.length c_y137)) rfl rfl ?_)
  refine Rg_op rfl (op_extract (v := (Value.int .i64 add_2.2)) rfl rfl ?_)
  refine Rg_op rfl (op_assign (v := (Value.slice a_y137 add_2.1.length c_y137)) rfl ?_)
  refine Rg_op rfl (op_assign (v := (Value.int .i64 add_2.2)) rfl ?_)
  refine Rg_nil ?_
  refine Wp_seq ?_
  clear f120 f123
  refine Wp_region ?_  -- 6 law.go:17
  refine Rg_op rfl (op_buildSlice (cs := [(Value.int .i64 1), (Value.int .i64 5)]) (parts := [(0, .const (.int .i64 1)), (1, .const (.int .i64 5))]) ty22 ty3 hs131 (by decide) rfl ?_)
  intro b139 w140 hx143 p141 hs142
  replace f_y137 := f_y137.step p141
  clear p141 hs131
  refine Rg_op rfl (op_buildSlice (cs := [(Value.int .i64 2), (Value.int .i64 4)]) (parts := [(0, .const (.int .i64 2)), (1, .const (.int .i64 4))]) ty22 ty3 hs142 (by decide) rfl ?_)
  intro b145 w146 hx149 p147 hs148
  replace f_y137 := f_y137.step p147
  clear p147 hs142
  refine Rg_op rfl (op_buildSlice (cs := [(Value.int .i64 2), (Value.int .i64 5)]) (parts := [(0, .const (.int .i64 2)), (1, .const (.int .i64 5))]) ty22 ty3 hs148 (by decide) rfl ?_)
  intro b151 w152 hx155 p153 hs154
  replace f_y137 := f_y137.step p153
  clear p153 hs148
  refine Rg_op rfl (op_buildSlice (cs := [(Value.int .i64 1), (Value.int .i64 5)]) (parts := [(0, .const (.int .i64 1)), (1, .const (.int .i64 5))]) ty22 ty3 hs154 (by decide) rfl ?_)
  intro b157 w158 hx161 p159 hs160
  replace f_y137 := f_y137.step p159
  clear p159 hs154
  obtain ⟨hs164, p165, f163⟩ := St.publish (i := 3) (o := 0) (c := 2) (xs := [1, 5]) hs160 rfl (show Els (rInt .i64) _ _ [(Value.int .i64 1), (Value.int .i64 5)] [1, 5] from ⟨_, _, rfl, (mk_int (show InK .i64 1 from by decide)), ⟨_, _, rfl, (mk_int (show InK .i64 5 from by decide)), Els.nil⟩⟩) (le_lit rfl) (le_lit rfl) (le_lit rfl)
  replace f_y137 := f_y137.step p165
  clear p165 hs160
  obtain ⟨hs167, p168, f166⟩ := St.publish (i := 2) (o := 0) (c := 2) (xs := [2, 4]) hs164 rfl (show Els (rInt .i64) _ _ [(Value.int .i64 2), (Value.int .i64 4)] [2, 4] from ⟨_, _, rfl, (mk_int (show InK .i64 2 from by decide)), ⟨_, _, rfl, (mk_int (show InK .i64 4 from by decide)), Els.nil⟩⟩) (le_lit rfl) (le_lit rfl) (le_lit rfl)
  replace f_y137 := f_y137.step p168
  replace f163 := f163.step p168
  clear p168 hs164
  obtain ⟨hs170, p171, f169⟩ := St.publish (i := 1) (o := 0) (c := 2) (xs := [2, 5]) hs167 rfl (show Els (rInt .i64) _ _ [(Value.int .i64 2), (Value.int .i64 5)] [2, 5] from ⟨_, _, rfl, (mk_int (show InK .i64 2 from by decide)), ⟨_, _, rfl, (mk_int (show InK .i64 5 from by decide)), Els.nil⟩⟩) (le_lit rfl) (le_lit rfl) (le_lit rfl)
  replace f_y137 := f_y137.step p171
  replace f163 := f163.step p171
  replace f166 := f166.step p171
  clear p171 hs167
  obtain ⟨hs173, p174, f172⟩ := St.publish (i := 0) (o := 0) (c := 2) (xs := [1, 5]) hs170 rfl (show Els (rInt .i64) _ _ [(Value.int .i64 1), (Value.int .i64 5)] [1, 5] from ⟨_, _, rfl, (mk_int (show InK .i64 1 from by decide)), ⟨_, _, rfl, (mk_int (show InK .i64 5 from by decide)), Els.nil⟩⟩) (le_lit rfl) (le_lit rfl) (le_lit rfl)
  replace f_y137 := f_y137.step p174
  replace f163 := f163.step p174
  replace f166 := f166.step p174
  replace f169 := f169.step p174
  clear p174 hs170
  refine Rg_op rfl (op_buildSlice (cs := [(Value.slice (some ⟨b139, 0, none⟩) [1, 5].length 2), (Value.slice (some ⟨b145, 0, none⟩) [2, 4].length 2), (Value.slice (some ⟨b151, 0, none⟩) [2, 5].length 2), (Value.slice (some ⟨b157, 0, none⟩) [1, 5].length 2)]) (parts := [(0, .tmp 53), (1, .tmp 54), (2, .tmp 55), (3, .tmp 56)]) ty33 ty22 hs173 (by decide) rfl ?_)
  intro b175 w176 hx179 p177 hs178
  replace f_y137 := f_y137.step p177
  replace f163 := f163.step p177
  replace f166 := f166.step p177
  replace f169 := f169.step p177
  replace f172 := f172.step p177
  clear p177 hs173
  obtain ⟨hs182, p183, f181⟩ := St.publish (i := 0) (o := 0) (c := 4) (xs := [[1, 5], [2, 4], [2, 5], [1, 5]]) hs178 rfl (show Els (rSl (rInt .i64)) _ _ [(Value.slice (some ⟨b139, 0, none⟩) [1, 5].length 2), (Value.slice (some ⟨b145, 0, none⟩) [2, 4].length 2), (Value.slice (some ⟨b151, 0, none⟩) [2, 5].length 2), (Value.slice (some ⟨b157, 0, none⟩) [1, 5].length 2)] [[1, 5], [2, 4], [2, 5], [1, 5]] from ⟨_, _, rfl, (mk_sl f163), ⟨_, _, rfl, (mk_sl f166), ⟨_, _, rfl, (mk_sl f169), ⟨_, _, rfl, (mk_sl f172), Els.nil⟩⟩⟩⟩) (le_lit rfl) (le_lit rfl) (le_lit rfl)
  replace f_y137 := f_y137.step p183
  replace f163 := f163.step p183
  replace f166 := f166.step p183
  replace f169 := f169.step p183
  replace f172 := f172.step p183
  clear p183 hs178
  replace hm := bd hm; obtain ⟨least_1, hv184, hm⟩ := hm
  refine Rg_op rfl (op_call Try.call21 (c21_vector_Least (l := [[1, 5], [2, 4], [2, 5], [1, 5]]) hs182.ltw f181 hv184) rfl ?_)
  rintro v185 w186 ⟨hx187, h188⟩
  have hs189 := hs182.call hx187
  have p190 := Step.ext (O := ks [] O) hx187
  clear hx187
  replace f_y137 := f_y137.step p190
  replace f163 := f163.step p190
  replace f166 := f166.step p190
  replace f169 := f169.step p190
  replace f172 := f172.step p190
  replace f181 := f181.step p190
  clear p190 hs182
  obtain ⟨v191, v192, rfl, h193, h194⟩ := h188
  obtain ⟨a_y195, c_y195, rfl, f_y195⟩ := un_sl h193
  obtain ⟨rfl, r_y196⟩ := h194
  refine Rg_op rfl (op_move (v := (Value.tuple [(Value.slice a_y195 least_1.1.length c_y195), (Value.int .i64 least_1.2)].toArray)) rfl ?_)
  refine Rg_op rfl (op_extract (v := (Value.slice a_y195 least_1.1.length c_y195)) rfl rfl ?_)
  refine Rg_op rfl (op_extract (v := (Value.int .i64 least_1.2)) rfl rfl ?_)
  refine Rg_op rfl (op_assign (v := (Value.slice a_y195 least_1.1.length c_y195)) rfl ?_)
  refine Rg_op rfl (op_assign (v := (Value.int .i64 least_1.2)) rfl ?_)
  refine Rg_nil ?_
  refine Wp_seq ?_
  clear f163 f166 f169 f172 f181
  refine Wp_region ?_  -- 7 law.go:18
  replace hm := bd hm; obtain ⟨least_2, hv197, hm⟩ := hm
  refine Rg_op rfl (op_call Try.call21 (c21_vector_Least (l := ([] : List (List Int))) hs189.ltw SlR.nil_ hv197) rfl ?_)
  rintro v198 w199 ⟨hx200, h201⟩
  have hs202 := hs189.call hx200
  have p203 := Step.ext (O := ks [] O) hx200
  clear hx200
  replace f_y137 := f_y137.step p203
  replace f_y195 := f_y195.step p203
  clear p203 hs189
  obtain ⟨v204, v205, rfl, h206, h207⟩ := h201
  obtain ⟨a_y208, c_y208, rfl, f_y208⟩ := un_sl h206
  obtain ⟨rfl, r_y209⟩ := h207
  refine Rg_op rfl (op_move (v := (Value.tuple [(Value.slice a_y208 least_2.1.length c_y208), (Value.int .i64 least_2.2)].toArray)) rfl ?_)
  refine Rg_op rfl (op_extract (v := (Value.slice a_y208 least_2.1.length c_y208)) rfl rfl ?_)
  refine Rg_op rfl (op_extract (v := (Value.int .i64 least_2.2)) rfl rfl ?_)
  refine Rg_op rfl (op_assign (v := (Value.slice a_y208 least_2.1.length c_y208)) rfl ?_)
  refine Rg_op rfl (op_assign (v := (Value.int .i64 least_2.2)) rfl ?_)
  refine Rg_nil ?_
  refine Wp_seq ?_
  refine Wp_reset [] [(1, (Value.bool below_1.1)), (2, (Value.int .i64 below_1.2)), (3, (Value.int .i64 compare_1.1)), (4, (Value.int .i64 compare_1.2)), (5, (Value.int .i64 compare_2.1)), (6, (Value.int .i64 compare_2.2)), (8, (Value.int .i64 add_1.2)), (9, (Value.slice a_y137 add_2.1.length c_y137)), (10, (Value.int .i64 add_2.2)), (11, (Value.slice a_y195 least_1.1.length c_y195)), (12, (Value.int .i64 least_1.2)), (13, (Value.slice a_y208 least_2.1.length c_y208)), (14, (Value.int .i64 least_2.2))] rfl ⟨rfl, rfl, rfl, rfl, rfl, rfl, rfl, rfl, rfl, rfl, rfl, rfl, rfl, trivial⟩ fun ξ210 => ?_
  refine Wp_region ?_  -- 8 law.go:19
  refine Rg_op rfl (op_buildSlice (cs := [(Value.int .i64 1)]) (parts := [(0, .const (.int .i64 1))]) ty22 ty3 hs202 (by decide) rfl ?_)
  intro b211 w212 hx215 p213 hs214
  replace f_y137 := f_y137.step p213
  replace f_y195 := f_y195.step p213
  replace f_y208 := f_y208.step p213
  clear p213 hs202
  obtain ⟨hs218, p219, f217⟩ := St.publish (i := 0) (o := 0) (c := 1) (xs := [1]) hs214 rfl (show Els (rInt .i64) _ _ [(Value.int .i64 1)] [1] from ⟨_, _, rfl, (mk_int (show InK .i64 1 from by decide)), Els.nil⟩) (le_lit rfl) (le_lit rfl) (le_lit rfl)
  replace f_y137 := f_y137.step p219
  replace f_y195 := f_y195.step p219
  replace f_y208 := f_y208.step p219
  clear p219 hs214
  refine Rg_op rfl (op_buildSlice (cs := [(Value.slice (some ⟨b211, 0, none⟩) [1].length 1)]) (parts := [(0, .tmp 66)]) ty33 ty22 hs218 (by decide) rfl ?_)
  intro b220 w221 hx224 p222 hs223
  replace f_y137 := f_y137.step p222
  replace f_y195 := f_y195.step p222
  replace f_y208 := f_y208.step p222
  replace f217 := f217.step p222
  clear p222 hs218
  obtain ⟨hs227, p228, f226⟩ := St.publish (i := 0) (o := 0) (c := 1) (xs := [[1]]) hs223 rfl (show Els (rSl (rInt .i64)) _ _ [(Value.slice (some ⟨b211, 0, none⟩) [1].length 1)] [[1]] from ⟨_, _, rfl, (mk_sl f217), Els.nil⟩) (le_lit rfl) (le_lit rfl) (le_lit rfl)
  replace f_y137 := f_y137.step p228
  replace f_y195 := f_y195.step p228
  replace f_y208 := f_y208.step p228
  replace f217 := f217.step p228
  clear p228 hs223
  replace hm := bd hm; obtain ⟨sums_1, hv229, hm⟩ := hm
  refine Rg_op rfl (op_call Try.call23 (c23_vector_Sums (a := ([] : List (List Int))) (b := [[1]]) hs227.ltw SlR.nil_ f226 hv229) rfl ?_)
  rintro v230 w231 ⟨hx232, h233⟩
  have hs234 := hs227.call hx232
  have p235 := Step.ext (O := ks [] O) hx232
  clear hx232
  replace f_y137 := f_y137.step p235
  replace f_y195 := f_y195.step p235
  replace f_y208 := f_y208.step p235
  replace f217 := f217.step p235
  replace f226 := f226.step p235
  clear p235 hs227
  obtain ⟨v236, v237, rfl, h238, h239⟩ := h233
  obtain ⟨a_y240, c_y240, rfl, f_y240⟩ := un_sl h238
  obtain ⟨rfl, r_y241⟩ := h239
  refine Rg_op rfl (op_move (v := (Value.tuple [(Value.slice a_y240 sums_1.1.length c_y240), (Value.int .i64 sums_1.2)].toArray)) rfl ?_)
  refine Rg_op rfl (op_extract (v := (Value.slice a_y240 sums_1.1.length c_y240)) rfl rfl ?_)
  refine Rg_op rfl (op_extract (v := (Value.int .i64 sums_1.2)) rfl rfl ?_)
  refine Rg_op rfl (op_assign (v := (Value.slice a_y240 sums_1.1.length c_y240)) rfl ?_)
  refine Rg_op rfl (op_assign (v := (Value.int .i64 sums_1.2)) rfl ?_)
  refine Rg_nil ?_
  refine Wp_seq ?_
  clear f217 f226
  refine Wp_region ?_  -- 9 law.go:20
  refine Rg_op rfl (op_buildSlice (cs := [(Value.int .i64 1), (Value.int .i64 5)]) (parts := [(0, .const (.int .i64 1)), (1, .const (.int .i64 5))]) ty22 ty3 hs234 (by decide) rfl ?_)
  intro b242 w243 hx246 p244 hs245
  replace f_y137 := f_y137.step p244
  replace f_y195 := f_y195.step p244
  replace f_y208 := f_y208.step p244
  replace f_y240 := f_y240.step p244
  clear p244 hs234
  refine Rg_op rfl (op_buildSlice (cs := [(Value.int .i64 2), (Value.int .i64 4)]) (parts := [(0, .const (.int .i64 2)), (1, .const (.int .i64 4))]) ty22 ty3 hs245 (by decide) rfl ?_)
  intro b248 w249 hx252 p250 hs251
  replace f_y137 := f_y137.step p250
  replace f_y195 := f_y195.step p250
  replace f_y208 := f_y208.step p250
  replace f_y240 := f_y240.step p250
  clear p250 hs245
  obtain ⟨hs255, p256, f254⟩ := St.publish (i := 1) (o := 0) (c := 2) (xs := [1, 5]) hs251 rfl (show Els (rInt .i64) _ _ [(Value.int .i64 1), (Value.int .i64 5)] [1, 5] from ⟨_, _, rfl, (mk_int (show InK .i64 1 from by decide)), ⟨_, _, rfl, (mk_int (show InK .i64 5 from by decide)), Els.nil⟩⟩) (le_lit rfl) (le_lit rfl) (le_lit rfl)
  replace f_y137 := f_y137.step p256
  replace f_y195 := f_y195.step p256
  replace f_y208 := f_y208.step p256
  replace f_y240 := f_y240.step p256
  clear p256 hs251
  obtain ⟨hs258, p259, f257⟩ := St.publish (i := 0) (o := 0) (c := 2) (xs := [2, 4]) hs255 rfl (show Els (rInt .i64) _ _ [(Value.int .i64 2), (Value.int .i64 4)] [2, 4] from ⟨_, _, rfl, (mk_int (show InK .i64 2 from by decide)), ⟨_, _, rfl, (mk_int (show InK .i64 4 from by decide)), Els.nil⟩⟩) (le_lit rfl) (le_lit rfl) (le_lit rfl)
  replace f_y137 := f_y137.step p259
  replace f_y195 := f_y195.step p259
  replace f_y208 := f_y208.step p259
  replace f_y240 := f_y240.step p259
  replace f254 := f254.step p259
  clear p259 hs255
  refine Rg_op rfl (op_buildSlice (cs := [(Value.slice (some ⟨b242, 0, none⟩) [1, 5].length 2), (Value.slice (some ⟨b248, 0, none⟩) [2, 4].length 2)]) (parts := [(0, .tmp 72), (1, .tmp 73)]) ty33 ty22 hs258 (by decide) rfl ?_)
  intro b260 w261 hx264 p262 hs263
  replace f_y137 := f_y137.step p262
  replace f_y195 := f_y195.step p262
  replace f_y208 := f_y208.step p262
  replace f_y240 := f_y240.step p262
  replace f254 := f254.step p262
  replace f257 := f257.step p262
  clear p262 hs258
  refine Rg_op rfl (op_buildSlice (cs := [(Value.int .i64 1), (Value.int .i64 0)]) (parts := [(0, .const (.int .i64 1)), (1, .const (.int .i64 0))]) ty22 ty3 hs263 (by decide) rfl ?_)
  intro b266 w267 hx270 p268 hs269
  replace f_y137 := f_y137.step p268
  replace f_y195 := f_y195.step p268
  replace f_y208 := f_y208.step p268
  replace f_y240 := f_y240.step p268
  replace f254 := f254.step p268
  replace f257 := f257.step p268
  clear p268 hs263
  refine Rg_op rfl (op_buildSlice (cs := [(Value.int .i64 0), (Value.int .i64 1)]) (parts := [(0, .const (.int .i64 0)), (1, .const (.int .i64 1))]) ty22 ty3 hs269 (by decide) rfl ?_)
  intro b272 w273 hx276 p274 hs275
  replace f_y137 := f_y137.step p274
  replace f_y195 := f_y195.step p274
  replace f_y208 := f_y208.step p274
  replace f_y240 := f_y240.step p274
  replace f254 := f254.step p274
  replace f257 := f257.step p274
  clear p274 hs269
  obtain ⟨hs279, p280, f278⟩ := St.publish (i := 1) (o := 0) (c := 2) (xs := [1, 0]) hs275 rfl (show Els (rInt .i64) _ _ [(Value.int .i64 1), (Value.int .i64 0)] [1, 0] from ⟨_, _, rfl, (mk_int (show InK .i64 1 from by decide)), ⟨_, _, rfl, (mk_int (show InK .i64 0 from by decide)), Els.nil⟩⟩) (le_lit rfl) (le_lit rfl) (le_lit rfl)
  replace f_y137 := f_y137.step p280
  replace f_y195 := f_y195.step p280
  replace f_y208 := f_y208.step p280
  replace f_y240 := f_y240.step p280
  replace f254 := f254.step p280
  replace f257 := f257.step p280
  clear p280 hs275
  obtain ⟨hs282, p283, f281⟩ := St.publish (i := 0) (o := 0) (c := 2) (xs := [0, 1]) hs279 rfl (show Els (rInt .i64) _ _ [(Value.int .i64 0), (Value.int .i64 1)] [0, 1] from ⟨_, _, rfl, (mk_int (show InK .i64 0 from by decide)), ⟨_, _, rfl, (mk_int (show InK .i64 1 from by decide)), Els.nil⟩⟩) (le_lit rfl) (le_lit rfl) (le_lit rfl)
  replace f_y137 := f_y137.step p283
  replace f_y195 := f_y195.step p283
  replace f_y208 := f_y208.step p283
  replace f_y240 := f_y240.step p283
  replace f254 := f254.step p283
  replace f257 := f257.step p283
  replace f278 := f278.step p283
  clear p283 hs279
  refine Rg_op rfl (op_buildSlice (cs := [(Value.slice (some ⟨b266, 0, none⟩) [1, 0].length 2), (Value.slice (some ⟨b272, 0, none⟩) [0, 1].length 2)]) (parts := [(0, .tmp 75), (1, .tmp 76)]) ty33 ty22 hs282 (by decide) rfl ?_)
  intro b284 w285 hx288 p286 hs287
  replace f_y137 := f_y137.step p286
  replace f_y195 := f_y195.step p286
  replace f_y208 := f_y208.step p286
  replace f_y240 := f_y240.step p286
  replace f254 := f254.step p286
  replace f257 := f257.step p286
  replace f278 := f278.step p286
  replace f281 := f281.step p286
  clear p286 hs282
  obtain ⟨hs291, p292, f290⟩ := St.publish (i := 1) (o := 0) (c := 2) (xs := [[1, 5], [2, 4]]) hs287 rfl (show Els (rSl (rInt .i64)) _ _ [(Value.slice (some ⟨b242, 0, none⟩) [1, 5].length 2), (Value.slice (some ⟨b248, 0, none⟩) [2, 4].length 2)] [[1, 5], [2, 4]] from ⟨_, _, rfl, (mk_sl f254), ⟨_, _, rfl, (mk_sl f257), Els.nil⟩⟩) (le_lit rfl) (le_lit rfl) (le_lit rfl)
  replace f_y137 := f_y137.step p292
  replace f_y195 := f_y195.step p292
  replace f_y208 := f_y208.step p292
  replace f_y240 := f_y240.step p292
  replace f254 := f254.step p292
  replace f257 := f257.step p292
  replace f278 := f278.step p292
  replace f281 := f281.step p292
  clear p292 hs287
  obtain ⟨hs294, p295, f293⟩ := St.publish (i := 0) (o := 0) (c := 2) (xs := [[1, 0], [0, 1]]) hs291 rfl (show Els (rSl (rInt .i64)) _ _ [(Value.slice (some ⟨b266, 0, none⟩) [1, 0].length 2), (Value.slice (some ⟨b272, 0, none⟩) [0, 1].length 2)] [[1, 0], [0, 1]] from ⟨_, _, rfl, (mk_sl f278), ⟨_, _, rfl, (mk_sl f281), Els.nil⟩⟩) (le_lit rfl) (le_lit rfl) (le_lit rfl)
  replace f_y137 := f_y137.step p295
  replace f_y195 := f_y195.step p295
  replace f_y208 := f_y208.step p295
  replace f_y240 := f_y240.step p295
  replace f254 := f254.step p295
  replace f257 := f257.step p295
  replace f278 := f278.step p295
  replace f281 := f281.step p295
  replace f290 := f290.step p295
  clear p295 hs291
  replace hm := bd hm; obtain ⟨sums_2, hv296, hm⟩ := hm
  refine Rg_op rfl (op_call Try.call23 (c23_vector_Sums (a := [[1, 5], [2, 4]]) (b := [[1, 0], [0, 1]]) hs294.ltw f290 f293 hv296) rfl ?_)
  rintro v297 w298 ⟨hx299, h300⟩
  have hs301 := hs294.call hx299
  have p302 := Step.ext (O := ks [] O) hx299
  clear hx299
  replace f_y137 := f_y137.step p302
  replace f_y195 := f_y195.step p302
  replace f_y208 := f_y208.step p302
  replace f_y240 := f_y240.step p302
  replace f254 := f254.step p302
  replace f257 := f257.step p302
  replace f278 := f278.step p302
  replace f281 := f281.step p302
  replace f290 := f290.step p302
  replace f293 := f293.step p302
  clear p302 hs294
  obtain ⟨v303, v304, rfl, h305, h306⟩ := h300
  obtain ⟨a_y307, c_y307, rfl, f_y307⟩ := un_sl h305
  obtain ⟨rfl, r_y308⟩ := h306
  refine Rg_op rfl (op_move (v := (Value.tuple [(Value.slice a_y307 sums_2.1.length c_y307), (Value.int .i64 sums_2.2)].toArray)) rfl ?_)
  refine Rg_op rfl (op_extract (v := (Value.slice a_y307 sums_2.1.length c_y307)) rfl rfl ?_)
  refine Rg_op rfl (op_extract (v := (Value.int .i64 sums_2.2)) rfl rfl ?_)
  refine Rg_op rfl (op_assign (v := (Value.slice a_y307 sums_2.1.length c_y307)) rfl ?_)
  refine Rg_op rfl (op_assign (v := (Value.int .i64 sums_2.2)) rfl ?_)
  refine Rg_nil ?_
  refine Wp_seq ?_
  clear f254 f257 f278 f281 f290 f293
  refine Wp_region ?_  -- 10 law.go:21
  refine Rg_op rfl (op_buildSlice (cs := [(Value.int .i64 0), (Value.int .i64 0)]) (parts := [(0, .const (.int .i64 0)), (1, .const (.int .i64 0))]) ty22 ty3 hs301 (by decide) rfl ?_)
  intro b309 w310 hx313 p311 hs312
  replace f_y137 := f_y137.step p311
  replace f_y195 := f_y195.step p311
  replace f_y208 := f_y208.step p311
  replace f_y240 := f_y240.step p311
  replace f_y307 := f_y307.step p311
  clear p311 hs301
  obtain ⟨hs316, p317, f315⟩ := St.publish (i := 0) (o := 0) (c := 2) (xs := [0, 0]) hs312 rfl (show Els (rInt .i64) _ _ [(Value.int .i64 0), (Value.int .i64 0)] [0, 0] from ⟨_, _, rfl, (mk_int (show InK .i64 0 from by decide)), ⟨_, _, rfl, (mk_int (show InK .i64 0 from by decide)), Els.nil⟩⟩) (le_lit rfl) (le_lit rfl) (le_lit rfl)
  replace f_y137 := f_y137.step p317
  replace f_y195 := f_y195.step p317
  replace f_y208 := f_y208.step p317
  replace f_y240 := f_y240.step p317
  replace f_y307 := f_y307.step p317
  clear p317 hs312
  refine Rg_op rfl (op_buildSlice (cs := [(Value.slice (some ⟨b309, 0, none⟩) [0, 0].length 2)]) (parts := [(0, .tmp 82)]) ty33 ty22 hs316 (by decide) rfl ?_)
  intro b318 w319 hx322 p320 hs321
  replace f_y137 := f_y137.step p320
  replace f_y195 := f_y195.step p320
  replace f_y208 := f_y208.step p320
  replace f_y240 := f_y240.step p320
  replace f_y307 := f_y307.step p320
  replace f315 := f315.step p320
  clear p320 hs316
  refine Rg_op rfl (op_buildSlice (cs := [(Value.int .i64 0), (Value.int .i64 0)]) (parts := [(0, .const (.int .i64 0)), (1, .const (.int .i64 0))]) ty22 ty3 hs321 (by decide) rfl ?_)
  intro b324 w325 hx328 p326 hs327
  replace f_y137 := f_y137.step p326
  replace f_y195 := f_y195.step p326
  replace f_y208 := f_y208.step p326
  replace f_y240 := f_y240.step p326
  replace f_y307 := f_y307.step p326
  replace f315 := f315.step p326
  clear p326 hs321
  obtain ⟨hs331, p332, f330⟩ := St.publish (i := 1) (o := 0) (c := 1) (xs := [[0, 0]]) hs327 rfl (show Els (rSl (rInt .i64)) _ _ [(Value.slice (some ⟨b309, 0, none⟩) [0, 0].length 2)] [[0, 0]] from ⟨_, _, rfl, (mk_sl f315), Els.nil⟩) (le_lit rfl) (le_lit rfl) (le_lit rfl)
  replace f_y137 := f_y137.step p332
  replace f_y195 := f_y195.step p332
  replace f_y208 := f_y208.step p332
  replace f_y240 := f_y240.step p332
  replace f_y307 := f_y307.step p332
  replace f315 := f315.step p332
  clear p332 hs327
  obtain ⟨hs334, p335, f333⟩ := St.publish (i := 0) (o := 0) (c := 2) (xs := [0, 0]) hs331 rfl (show Els (rInt .i64) _ _ [(Value.int .i64 0), (Value.int .i64 0)] [0, 0] from ⟨_, _, rfl, (mk_int (show InK .i64 0 from by decide)), ⟨_, _, rfl, (mk_int (show InK .i64 0 from by decide)), Els.nil⟩⟩) (le_lit rfl) (le_lit rfl) (le_lit rfl)
  replace f_y137 := f_y137.step p335
  replace f_y195 := f_y195.step p335
  replace f_y208 := f_y208.step p335
  replace f_y240 := f_y240.step p335
  replace f_y307 := f_y307.step p335
  replace f315 := f315.step p335
  replace f330 := f330.step p335
  clear p335 hs331
  replace hm := bd hm; obtain ⟨fits_1, hv336, hm⟩ := hm
  refine Rg_op rfl (op_call Try.call25 (c25_vector_Fits (l := [[0, 0]]) (budget := [0, 0]) hs334.ltw f330 f333 hv336) rfl ?_)
  rintro v337 w338 ⟨hx339, h340⟩
  have hs341 := hs334.call hx339
  have p342 := Step.ext (O := ks [] O) hx339
  clear hx339
  replace f_y137 := f_y137.step p342
  replace f_y195 := f_y195.step p342
  replace f_y208 := f_y208.step p342
  replace f_y240 := f_y240.step p342
  replace f_y307 := f_y307.step p342
  replace f315 := f315.step p342
  replace f330 := f330.step p342
  replace f333 := f333.step p342
  clear p342 hs334
  obtain ⟨v343, v344, rfl, h345, h346⟩ := h340
  obtain rfl := h345
  obtain ⟨rfl, r_y348⟩ := h346
  refine Rg_op rfl (op_move (v := (Value.tuple [(Value.bool fits_1.1), (Value.int .i64 fits_1.2)].toArray)) rfl ?_)
  refine Rg_op rfl (op_extract (v := (Value.bool fits_1.1)) rfl rfl ?_)
  refine Rg_op rfl (op_extract (v := (Value.int .i64 fits_1.2)) rfl rfl ?_)
  refine Rg_op rfl (op_assign (v := (Value.bool fits_1.1)) rfl ?_)
  refine Rg_op rfl (op_assign (v := (Value.int .i64 fits_1.2)) rfl ?_)
  refine Rg_nil ?_
  refine Wp_seq ?_
  clear f315 f330 f333
  refine Wp_reset [] [(1, (Value.bool below_1.1)), (2, (Value.int .i64 below_1.2)), (3, (Value.int .i64 compare_1.1)), (4, (Value.int .i64 compare_1.2)), (5, (Value.int .i64 compare_2.1)), (6, (Value.int .i64 compare_2.2)), (8, (Value.int .i64 add_1.2)), (9, (Value.slice a_y137 add_2.1.length c_y137)), (10, (Value.int .i64 add_2.2)), (11, (Value.slice a_y195 least_1.1.length c_y195)), (12, (Value.int .i64 least_1.2)), (13, (Value.slice a_y208 least_2.1.length c_y208)), (14, (Value.int .i64 least_2.2)), (15, (Value.slice a_y240 sums_1.1.length c_y240)), (16, (Value.int .i64 sums_1.2)), (17, (Value.slice a_y307 sums_2.1.length c_y307)), (18, (Value.int .i64 sums_2.2)), (19, (Value.bool fits_1.1)), (20, (Value.int .i64 fits_1.2))] rfl ⟨rfl, rfl, rfl, rfl, rfl, rfl, rfl, rfl, rfl, rfl, rfl, rfl, rfl, rfl, rfl, rfl, rfl, rfl, rfl, trivial⟩ fun ξ349 => ?_
  refine Wp_region ?_  -- 11 law.go:22
  refine Rg_op rfl (op_buildSlice (cs := [(Value.int .i64 9)]) (parts := [(0, .const (.int .i64 9))]) ty22 ty3 hs341 (by decide) rfl ?_)
  intro b350 w351 hx354 p352 hs353
  replace f_y137 := f_y137.step p352
  replace f_y195 := f_y195.step p352
  replace f_y208 := f_y208.step p352
  replace f_y240 := f_y240.step p352
  replace f_y307 := f_y307.step p352
  clear p352 hs341
  obtain ⟨hs357, p358, f356⟩ := St.publish (i := 0) (o := 0) (c := 1) (xs := [9]) hs353 rfl (show Els (rInt .i64) _ _ [(Value.int .i64 9)] [9] from ⟨_, _, rfl, (mk_int (show InK .i64 9 from by decide)), Els.nil⟩) (le_lit rfl) (le_lit rfl) (le_lit rfl)
  replace f_y137 := f_y137.step p358
  replace f_y195 := f_y195.step p358
  replace f_y208 := f_y208.step p358
  replace f_y240 := f_y240.step p358
  replace f_y307 := f_y307.step p358
  clear p358 hs353
  replace hm := bd hm; obtain ⟨fits_2, hv359, hm⟩ := hm
  refine Rg_op rfl (op_call Try.call25 (c25_vector_Fits (l := ([] : List (List Int))) (budget := [9]) hs357.ltw SlR.nil_ f356 hv359) rfl ?_)
  rintro v360 w361 ⟨hx362, h363⟩
  have hs364 := hs357.call hx362
  have p365 := Step.ext (O := ks [] O) hx362
  clear hx362
  replace f_y137 := f_y137.step p365
  replace f_y195 := f_y195.step p365
  replace f_y208 := f_y208.step p365
  replace f_y240 := f_y240.step p365
  replace f_y307 := f_y307.step p365
  replace f356 := f356.step p365
  clear p365 hs357
  obtain ⟨v366, v367, rfl, h368, h369⟩ := h363
  obtain rfl := h368
  obtain ⟨rfl, r_y371⟩ := h369
  refine Rg_op rfl (op_move (v := (Value.tuple [(Value.bool fits_2.1), (Value.int .i64 fits_2.2)].toArray)) rfl ?_)
  refine Rg_op rfl (op_extract (v := (Value.bool fits_2.1)) rfl rfl ?_)
  refine Rg_op rfl (op_extract (v := (Value.int .i64 fits_2.2)) rfl rfl ?_)
  refine Rg_op rfl (op_assign (v := (Value.bool fits_2.1)) rfl ?_)
  refine Rg_op rfl (op_assign (v := (Value.int .i64 fits_2.2)) rfl ?_)
  refine Rg_nil ?_
  refine Wp_reset [] [(1, (Value.bool below_1.1)), (2, (Value.int .i64 below_1.2)), (3, (Value.int .i64 compare_1.1)), (4, (Value.int .i64 compare_1.2)), (5, (Value.int .i64 compare_2.1)), (6, (Value.int .i64 compare_2.2)), (8, (Value.int .i64 add_1.2)), (9, (Value.slice a_y137 add_2.1.length c_y137)), (10, (Value.int .i64 add_2.2)), (11, (Value.slice a_y195 least_1.1.length c_y195)), (12, (Value.int .i64 least_1.2)), (13, (Value.slice a_y208 least_2.1.length c_y208)), (14, (Value.int .i64 least_2.2)), (15, (Value.slice a_y240 sums_1.1.length c_y240)), (16, (Value.int .i64 sums_1.2)), (17, (Value.slice a_y307 sums_2.1.length c_y307)), (18, (Value.int .i64 sums_2.2)), (19, (Value.bool fits_1.1)), (20, (Value.int .i64 fits_1.2)), (21, (Value.bool fits_2.1)), (22, (Value.int .i64 fits_2.2))] rfl ⟨rfl, rfl, rfl, rfl, rfl, rfl, rfl, rfl, rfl, rfl, rfl, rfl, rfl, rfl, rfl, rfl, rfl, rfl, rfl, rfl, rfl, trivial⟩ fun ξ372 => ?_
  replace hm := jn_elim hm; obtain ⟨k374, hk375, hm⟩ := hm
  refine Wp_seqJ [23, 93, 94, 95, 96, 97, 98, 99, 100, 101, 102, 103, 104, 105, 106, 107, 108, 109, 110, 111, 112, 113, 114, 115, 116, 117, 118, 119, 120, 121, 122, 123, 124, 125, 126, 127, 128, 129, 130, 131, 132, 133, 134, 135, 136, 137, 138] (fun fr w' => ∃ (one_1 : Bool) (Ebs : Ents), Ebs = [] ∧ fr [] [(23, (Value.bool one_1))] ∧ Step (ks [] O) w361 (ks Ebs O) w' ∧ St ⟨w, [], []⟩ O w' Ebs ∧ k374 one_1 = some x) ?_ ?_
  ·
    rintro ρ381 w377 ⟨one_1, Ebs, hEbs, hfr380, hst379, hs378, hm⟩
    replace hm := jnE1 hk375 hm
    subst hEbs; rw [hfr380.eq]; clear hfr380
    replace f_y137 := f_y137.step hst379
    replace f_y195 := f_y195.step hst379
    replace f_y208 := f_y208.step hst379
    replace f_y240 := f_y240.step hst379
    replace f_y307 := f_y307.step hst379
    replace f356 := f356.step hst379
    clear hst379 hs364
    refine Wp_reset [] [(13, (Value.slice a_y208 least_2.1.length c_y208)), (14, (Value.int .i64 least_2.2)), (15, (Value.slice a_y240 sums_1.1.length c_y240)), (16, (Value.int .i64 sums_1.2)), (17, (Value.slice a_y307 sums_2.1.length c_y307)), (18, (Value.int .i64 sums_2.2)), (19, (Value.bool fits_1.1)), (20, (Value.int .i64 fits_1.2)), (21, (Value.bool fits_2.1)), (22, (Value.int .i64 fits_2.2)), (23, (Value.bool one_1))] rfl ⟨rfl, rfl, rfl, rfl, rfl, rfl, rfl, rfl, rfl, rfl, rfl, trivial⟩ fun ξ382 => ?_
    replace hm := jn_elim hm; obtain ⟨k384, hk385, hm⟩ := hm
    refine Wp_seqJ [0, 139, 140, 141, 142, 143, 144, 145, 146, 147, 148, 149, 150, 151, 152, 153, 154, 155, 156, 157, 158, 159, 160, 161, 162, 163, 164, 165, 166, 167, 168, 169, 170, 171, 172, 173, 174, 175, 176, 177, 178, 179, 180, 181, 182, 183, 184] (fun fr w' => ∃ (v_1 : Bool) (Ebs : Ents), Ebs = [] ∧ fr [] [(0, (Value.bool v_1))] ∧ Step (ks [] O) w377 (ks Ebs O) w' ∧ St ⟨w, [], []⟩ O w' Ebs ∧ k384 v_1 = some x) ?_ ?_
    ·
      rintro ρ391 w387 ⟨v_1, Ebs, hEbs, hfr390, hst389, hs388, hm⟩
      replace hm := jnE1 hk385 hm
      subst hEbs; rw [hfr390.eq]; clear hfr390
      replace f_y137 := f_y137.step hst389
      replace f_y195 := f_y195.step hst389
      replace f_y208 := f_y208.step hst389
      replace f_y240 := f_y240.step hst389
      replace f_y307 := f_y307.step hst389
      replace f356 := f356.step hst389
      clear hst389 hs378
      refine Wp_ret ?_
      have hz := step_all hs388
      replace f_y137 := f_y137.step hz
      replace f_y195 := f_y195.step hz
      replace f_y208 := f_y208.step hz
      replace f_y240 := f_y240.step hz
      replace f_y307 := f_y307.step hz
      replace f356 := f356.step hz
      refine ⟨_, (show Closes [] _ _ from rfl), [(Value.bool v_1)], ⟨rfl, trivial⟩, hs388.ext, ?_⟩
      exact Vr.eq (a := vB) (x := v_1) rfl (Option.some.inj hm)
    ·
      intro K386 hK386
      have ch392 := Step.refl (ks [] O) w377
      clear f_y137 f_y195 f356
      refine Wp_region ?_  -- 13 law.go:24
      refine Rg_op rfl (op_move (v := (Value.bool one_1)) rfl ?_)
      refine Rg_op rfl (op_move (v := (Value.bool one_1)) rfl ?_)
      refine Rg_case (fun hg393 => ?_) (fun hg393 => ?_)
      ·
        replace hm := bif_t hm hg393
        refine Rg_opg rfl rfl rfl (op_move (v := (Value.int .i64 least_2.2)) rfl ?_)
        refine Rg_opg rfl rfl rfl (op_eql rfl rfl ?_)
        refine Rg_op rfl (op_pick_t (v := (Value.bool (decide (least_2.2 = 0)))) rfl rfl ?_)
        refine Rg_op rfl (op_move (v := (Value.bool (decide (least_2.2 = 0)))) rfl ?_)
        refine Rg_case (fun hg394 => ?_) (fun hg394 => ?_)
        ·
          replace hm := bif_t hm hg394
          refine Rg_opg rfl rfl rfl (op_move (v := (Value.slice a_y208 least_2.1.length c_y208)) rfl ?_)
          refine Rg_opg rfl rfl rfl (op_len Try.underlying33 rfl ?_)
          refine Rg_opg rfl rfl rfl (op_eql rfl rfl ?_)
          refine Rg_op rfl (op_pick_t (v := (Value.bool (decide ((least_2.1.length : Int) = 0)))) rfl rfl ?_)
          refine Rg_op rfl (op_move (v := (Value.bool (decide ((least_2.1.length : Int) = 0)))) rfl ?_)
          refine Rg_case (fun hg395 => ?_) (fun hg395 => ?_)
          ·
            replace hm := bif_t hm hg395
            refine Rg_opg rfl rfl rfl (op_move (v := (Value.int .i64 sums_1.2)) rfl ?_)
            refine Rg_opg rfl rfl rfl (op_eql rfl rfl ?_)
            refine Rg_op rfl (op_pick_t (v := (Value.bool (decide (sums_1.2 = 0)))) rfl rfl ?_)
            refine Rg_op rfl (op_move (v := (Value.bool (decide (sums_1.2 = 0)))) rfl ?_)
            refine Rg_case (fun hg396 => ?_) (fun hg396 => ?_)
            ·
              replace hm := bif_t hm hg396
              refine Rg_opg rfl rfl rfl (op_move (v := (Value.slice a_y240 sums_1.1.length c_y240)) rfl ?_)
              refine Rg_opg rfl rfl rfl (op_len Try.underlying33 rfl ?_)
              refine Rg_opg rfl rfl rfl (op_eql rfl rfl ?_)
              refine Rg_op rfl (op_pick_t (v := (Value.bool (decide ((sums_1.1.length : Int) = 0)))) rfl rfl ?_)
              refine Rg_op rfl (op_move (v := (Value.bool (decide ((sums_1.1.length : Int) = 0)))) rfl ?_)
              refine Rg_case (fun hg397 => ?_) (fun hg397 => ?_)
              ·
                replace hm := bif_t hm hg397
                refine Rg_opg rfl rfl rfl (op_move (v := (Value.int .i64 sums_2.2)) rfl ?_)
                refine Rg_opg rfl rfl rfl (op_eql rfl rfl ?_)
                refine Rg_op rfl (op_pick_t (v := (Value.bool (decide (sums_2.2 = 0)))) rfl rfl ?_)
                refine Rg_op rfl (op_move (v := (Value.bool (decide (sums_2.2 = 0)))) rfl ?_)
                refine Rg_case (fun hg398 => ?_) (fun hg398 => ?_)
                ·
                  replace hm := bif_t hm hg398
                  refine Rg_opg rfl rfl rfl (op_move (v := (Value.slice a_y307 sums_2.1.length c_y307)) rfl ?_)
                  refine Rg_opg rfl rfl rfl (op_buildSlice (cs := [(Value.int .i64 1), (Value.int .i64 6)]) (parts := [(0, .const (.int .i64 1)), (1, .const (.int .i64 6))]) ty22 ty3 hs378 (by decide) rfl ?_)
                  intro b399 w400 hx403 p401 hs402
                  replace f_y208 := f_y208.step p401
                  replace f_y240 := f_y240.step p401
                  replace f_y307 := f_y307.step p401
                  replace ch392 := ch392.trans p401
                  clear p401 hs378
                  refine Rg_opg rfl rfl rfl (op_buildSlice (cs := [(Value.int .i64 2), (Value.int .i64 5)]) (parts := [(0, .const (.int .i64 2)), (1, .const (.int .i64 5))]) ty22 ty3 hs402 (by decide) rfl ?_)
                  intro b405 w406 hx409 p407 hs408
                  replace f_y208 := f_y208.step p407
                  replace f_y240 := f_y240.step p407
                  replace f_y307 := f_y307.step p407
                  replace ch392 := ch392.trans p407
                  clear p407 hs402
                  refine Rg_opg rfl rfl rfl (op_buildSlice (cs := [(Value.int .i64 3), (Value.int .i64 4)]) (parts := [(0, .const (.int .i64 3)), (1, .const (.int .i64 4))]) ty22 ty3 hs408 (by decide) rfl ?_)
                  intro b411 w412 hx415 p413 hs414
                  replace f_y208 := f_y208.step p413
                  replace f_y240 := f_y240.step p413
                  replace f_y307 := f_y307.step p413
                  replace ch392 := ch392.trans p413
                  clear p413 hs408
                  obtain ⟨hs418, p419, f417⟩ := St.publish (i := 2) (o := 0) (c := 2) (xs := [1, 6]) hs414 rfl (show Els (rInt .i64) _ _ [(Value.int .i64 1), (Value.int .i64 6)] [1, 6] from ⟨_, _, rfl, (mk_int (show InK .i64 1 from by decide)), ⟨_, _, rfl, (mk_int (show InK .i64 6 from by decide)), Els.nil⟩⟩) (le_lit rfl) (le_lit rfl) (le_lit rfl)
                  replace f_y208 := f_y208.step p419
                  replace f_y240 := f_y240.step p419
                  replace f_y307 := f_y307.step p419
                  replace ch392 := ch392.trans p419
                  clear p419 hs414
                  obtain ⟨hs421, p422, f420⟩ := St.publish (i := 1) (o := 0) (c := 2) (xs := [2, 5]) hs418 rfl (show Els (rInt .i64) _ _ [(Value.int .i64 2), (Value.int .i64 5)] [2, 5] from ⟨_, _, rfl, (mk_int (show InK .i64 2 from by decide)), ⟨_, _, rfl, (mk_int (show InK .i64 5 from by decide)), Els.nil⟩⟩) (le_lit rfl) (le_lit rfl) (le_lit rfl)
                  replace f_y208 := f_y208.step p422
                  replace f_y240 := f_y240.step p422
                  replace f_y307 := f_y307.step p422
                  replace f417 := f417.step p422
                  replace ch392 := ch392.trans p422
                  clear p422 hs418
                  obtain ⟨hs424, p425, f423⟩ := St.publish (i := 0) (o := 0) (c := 2) (xs := [3, 4]) hs421 rfl (show Els (rInt .i64) _ _ [(Value.int .i64 3), (Value.int .i64 4)] [3, 4] from ⟨_, _, rfl, (mk_int (show InK .i64 3 from by decide)), ⟨_, _, rfl, (mk_int (show InK .i64 4 from by decide)), Els.nil⟩⟩) (le_lit rfl) (le_lit rfl) (le_lit rfl)
                  replace f_y208 := f_y208.step p425
                  replace f_y240 := f_y240.step p425
                  replace f_y307 := f_y307.step p425
                  replace f417 := f417.step p425
                  replace f420 := f420.step p425
                  replace ch392 := ch392.trans p425
                  clear p425 hs421
                  refine Rg_opg rfl rfl rfl (op_buildSlice (cs := [(Value.slice (some ⟨b399, 0, none⟩) [1, 6].length 2), (Value.slice (some ⟨b405, 0, none⟩) [2, 5].length 2), (Value.slice (some ⟨b411, 0, none⟩) [3, 4].length 2)]) (parts := [(0, .tmp 164), (1, .tmp 165), (2, .tmp 166)]) ty33 ty22 hs424 (by decide) rfl ?_)
                  intro b426 w427 hx430 p428 hs429
                  replace f_y208 := f_y208.step p428
                  replace f_y240 := f_y240.step p428
                  replace f_y307 := f_y307.step p428
                  replace f417 := f417.step p428
                  replace f420 := f420.step p428
                  replace f423 := f423.step p428
                  replace ch392 := ch392.trans p428
                  clear p428 hs424
                  obtain ⟨hs433, p434, f432⟩ := St.publish (i := 0) (o := 0) (c := 3) (xs := [[1, 6], [2, 5], [3, 4]]) hs429 rfl (show Els (rSl (rInt .i64)) _ _ [(Value.slice (some ⟨b399, 0, none⟩) [1, 6].length 2), (Value.slice (some ⟨b405, 0, none⟩) [2, 5].length 2), (Value.slice (some ⟨b411, 0, none⟩) [3, 4].length 2)] [[1, 6], [2, 5], [3, 4]] from ⟨_, _, rfl, (mk_sl f417), ⟨_, _, rfl, (mk_sl f420), ⟨_, _, rfl, (mk_sl f423), Els.nil⟩⟩⟩) (le_lit rfl) (le_lit rfl) (le_lit rfl)
                  replace f_y208 := f_y208.step p434
                  replace f_y240 := f_y240.step p434
                  replace f_y307 := f_y307.step p434
                  replace f417 := f417.step p434
                  replace f420 := f420.step p434
                  replace f423 := f423.step p434
                  replace ch392 := ch392.trans p434
                  clear p434 hs429
                  replace hm := bd hm; obtain ⟨samelist_1, hv435, hm⟩ := hm
                  refine Rg_opg rfl rfl rfl (op_call Try.call27 (c27_overflightref06_SameList (a := sums_2.1) (b := [[1, 6], [2, 5], [3, 4]]) hs433.ltw f_y307 f432 hv435) rfl ?_)
                  rintro v436 w437 ⟨hx438, h439⟩
                  have hs440 := hs433.call hx438
                  have p441 := Step.ext (O := ks [] O) hx438
                  clear hx438
                  replace f_y208 := f_y208.step p441
                  replace f_y240 := f_y240.step p441
                  replace f_y307 := f_y307.step p441
                  replace f417 := f417.step p441
                  replace f420 := f420.step p441
                  replace f423 := f423.step p441
                  replace f432 := f432.step p441
                  replace ch392 := ch392.trans p441
                  clear p441 hs433
                  obtain rfl := h439
                  refine Rg_op rfl (op_pick_t (v := (Value.bool samelist_1)) rfl rfl ?_)
                  refine Rg_op rfl (op_move (v := (Value.bool samelist_1)) rfl ?_)
                  refine Rg_case (fun hg443 => ?_) (fun hg443 => ?_)
                  ·
                    replace hm := bif_t hm hg443
                    refine Rg_opg rfl rfl rfl (op_move (v := (Value.int .i64 fits_1.2)) rfl ?_)
                    refine Rg_opg rfl rfl rfl (op_eql rfl rfl ?_)
                    refine Rg_op rfl (op_pick_t (v := (Value.bool (decide (fits_1.2 = 0)))) rfl rfl ?_)
                    refine Rg_op rfl (op_move (v := (Value.bool (decide (fits_1.2 = 0)))) rfl ?_)
                    refine Rg_case (fun hg444 => ?_) (fun hg444 => ?_)
                    ·
                      replace hm := bif_t hm hg444
                      refine Rg_opg rfl rfl rfl (op_move (v := (Value.bool fits_1.1)) rfl ?_)
                      refine Rg_op rfl (op_pick_t (v := (Value.bool fits_1.1)) rfl rfl ?_)
                      refine Rg_op rfl (op_move (v := (Value.bool fits_1.1)) rfl ?_)
                      refine Rg_case (fun hg445 => ?_) (fun hg445 => ?_)
                      ·
                        replace hm := bif_t hm hg445
                        refine Rg_opg rfl rfl rfl (op_move (v := (Value.int .i64 fits_2.2)) rfl ?_)
                        refine Rg_opg rfl rfl rfl (op_eql rfl rfl ?_)
                        refine Rg_op rfl (op_pick_t (v := (Value.bool (decide (fits_2.2 = 0)))) rfl rfl ?_)
                        refine Rg_op rfl (op_move (v := (Value.bool (decide (fits_2.2 = 0)))) rfl ?_)
                        refine Rg_case (fun hg446 => ?_) (fun hg446 => ?_)
                        ·
                          replace hm := bif_t hm hg446
                          refine Rg_opg rfl rfl rfl (op_move (v := (Value.bool fits_2.1)) rfl ?_)
                          refine Rg_opg rfl rfl rfl (op_not rfl ?_)
                          refine Rg_op rfl (op_pick_t (v := (Value.bool (!fits_2.1))) rfl rfl ?_)
                          refine Rg_op rfl (op_assign (v := (Value.bool (!fits_2.1))) rfl ?_)
                          refine Rg_nil ?_
                          exact hK386 _ _ ⟨(!fits_2.1), _, rfl, ⟨(by repeat (first | with_reducible exact Out.refl _ _ | refine Out.upd ?_ rfl | refine Out.updL ?_ rfl | refine Out.mix' ?_ rfl | exact Out.refl _ _)), rfl, rfl, trivial⟩, ch392, hs440, hm⟩
                        ·
                          replace hm := bif_f hm hg446
                          refine Rg_opx rfl (asB_ne rfl rfl) rfl ?_
                          refine Rg_opx rfl (asB_ne rfl rfl) rfl ?_
                          refine Rg_op rfl (op_pick_f (v := (Value.bool false)) rfl rfl ?_)
                          refine Rg_op rfl (op_assign (v := (Value.bool false)) rfl ?_)
                          refine Rg_nil ?_
                          exact hK386 _ _ ⟨false, _, rfl, ⟨(by repeat (first | with_reducible exact Out.refl _ _ | refine Out.upd ?_ rfl | refine Out.updL ?_ rfl | refine Out.mix' ?_ rfl | exact Out.refl _ _)), rfl, rfl, trivial⟩, ch392, hs440, hm⟩
                      ·
                        replace hm := bif_f hm hg445
                        refine Rg_opx rfl (asB_ne rfl rfl) rfl ?_
                        refine Rg_opx rfl (asB_ne rfl rfl) rfl ?_
                        refine Rg_op rfl (op_pick_f (v := (Value.bool false)) rfl rfl ?_)
                        refine Rg_op rfl (op_move (v := (Value.bool false)) rfl ?_)
                        refine Rg_opx rfl (asB_ne rfl rfl) rfl ?_
                        refine Rg_opx rfl (asB_ne rfl rfl) rfl ?_
                        refine Rg_op rfl (op_pick_f (v := (Value.bool false)) rfl rfl ?_)
                        refine Rg_op rfl (op_assign (v := (Value.bool false)) rfl ?_)
                        refine Rg_nil ?_
                        exact hK386 _ _ ⟨false, _, rfl, ⟨(by repeat (first | with_reducible exact Out.refl _ _ | refine Out.upd ?_ rfl | refine Out.updL ?_ rfl | refine Out.mix' ?_ rfl | exact Out.refl _ _)), rfl, rfl, trivial⟩, ch392, hs440, hm⟩
                    ·
                      replace hm := bif_f hm hg444
                      refine Rg_opx rfl (asB_ne rfl rfl) rfl ?_
                      refine Rg_op rfl (op_pick_f (v := (Value.bool false)) rfl rfl ?_)
                      refine Rg_op rfl (op_move (v := (Value.bool false)) rfl ?_)
                      refine Rg_opx rfl (asB_ne rfl rfl) rfl ?_
                      refine Rg_opx rfl (asB_ne rfl rfl) rfl ?_
                      refine Rg_op rfl (op_pick_f (v := (Value.bool false)) rfl rfl ?_)
                      refine Rg_op rfl (op_move (v := (Value.bool false)) rfl ?_)
                      refine Rg_opx rfl (asB_ne rfl rfl) rfl ?_
                      refine Rg_opx rfl (asB_ne rfl rfl) rfl ?_
                      refine Rg_op rfl (op_pick_f (v := (Value.bool false)) rfl rfl ?_)
                      refine Rg_op rfl (op_assign (v := (Value.bool false)) rfl ?_)
                      refine Rg_nil ?_
                      exact hK386 _ _ ⟨false, _, rfl, ⟨(by repeat (first | with_reducible exact Out.refl _ _ | refine Out.upd ?_ rfl | refine Out.updL ?_ rfl | refine Out.mix' ?_ rfl | exact Out.refl _ _)), rfl, rfl, trivial⟩, ch392, hs440, hm⟩
                  ·
                    replace hm := bif_f hm hg443
                    refine Rg_opx rfl (asB_ne rfl rfl) rfl ?_
                    refine Rg_opx rfl (asB_ne rfl rfl) rfl ?_
                    refine Rg_op rfl (op_pick_f (v := (Value.bool false)) rfl rfl ?_)
                    refine Rg_op rfl (op_move (v := (Value.bool false)) rfl ?_)
                    refine Rg_opx rfl (asB_ne rfl rfl) rfl ?_
                    refine Rg_op rfl (op_pick_f (v := (Value.bool false)) rfl rfl ?_)
                    refine Rg_op rfl (op_move (v := (Value.bool false)) rfl ?_)
                    refine Rg_opx rfl (asB_ne rfl rfl) rfl ?_
                    refine Rg_opx rfl (asB_ne rfl rfl) rfl ?_
                    refine Rg_op rfl (op_pick_f (v := (Value.bool false)) rfl rfl ?_)
                    refine Rg_op rfl (op_move (v := (Value.bool false)) rfl ?_)
                    refine Rg_opx rfl (asB_ne rfl rfl) rfl ?_
                    refine Rg_opx rfl (asB_ne rfl rfl) rfl ?_
                    refine Rg_op rfl (op_pick_f (v := (Value.bool false)) rfl rfl ?_)
                    refine Rg_op rfl (op_assign (v := (Value.bool false)) rfl ?_)
                    refine Rg_nil ?_
                    exact hK386 _ _ ⟨false, _, rfl, ⟨(by repeat (first | with_reducible exact Out.refl _ _ | refine Out.upd ?_ rfl | refine Out.updL ?_ rfl | refine Out.mix' ?_ rfl | exact Out.refl _ _)), rfl, rfl, trivial⟩, ch392, hs440, hm⟩
                ·
                  replace hm := bif_f hm hg398
                  refine Rg_opx rfl (asB_ne rfl rfl) rfl ?_
                  refine Rg_opx rfl (asB_ne rfl rfl) rfl ?_
                  refine Rg_opx rfl (asB_ne rfl rfl) rfl ?_
                  refine Rg_opx rfl (asB_ne rfl rfl) rfl ?_
                  refine Rg_opx rfl (asB_ne rfl rfl) rfl ?_
                  refine Rg_opx rfl (asB_ne rfl rfl) rfl ?_
                  refine Rg_op rfl (op_pick_f (v := (Value.bool false)) rfl rfl ?_)
                  refine Rg_op rfl (op_move (v := (Value.bool false)) rfl ?_)
                  refine Rg_opx rfl (asB_ne rfl rfl) rfl ?_
                  refine Rg_opx rfl (asB_ne rfl rfl) rfl ?_
                  refine Rg_op rfl (op_pick_f (v := (Value.bool false)) rfl rfl ?_)
                  refine Rg_op rfl (op_move (v := (Value.bool false)) rfl ?_)
                  refine Rg_opx rfl (asB_ne rfl rfl) rfl ?_
                  refine Rg_op rfl (op_pick_f (v := (Value.bool false)) rfl rfl ?_)
                  refine Rg_op rfl (op_move (v := (Value.bool false)) rfl ?_)
                  refine Rg_opx rfl (asB_ne rfl rfl) rfl ?_
                  refine Rg_opx rfl (asB_ne rfl rfl) rfl ?_
                  refine Rg_op rfl (op_pick_f (v := (Value.bool false)) rfl rfl ?_)
                  refine Rg_op rfl (op_move (v := (Value.bool false)) rfl ?_)
                  refine Rg_opx rfl (asB_ne rfl rfl) rfl ?_
                  refine Rg_opx rfl (asB_ne rfl rfl) rfl ?_
                  refine Rg_op rfl (op_pick_f (v := (Value.bool false)) rfl rfl ?_)
                  refine Rg_op rfl (op_assign (v := (Value.bool false)) rfl ?_)
                  refine Rg_nil ?_
                  exact hK386 _ _ ⟨false, _, rfl, ⟨(by repeat (first | with_reducible exact Out.refl _ _ | refine Out.upd ?_ rfl | refine Out.updL ?_ rfl | refine Out.mix' ?_ rfl | exact Out.refl _ _)), rfl, rfl, trivial⟩, ch392, hs378, hm⟩
              ·
                replace hm := bif_f hm hg397
                refine Rg_opx rfl (asB_ne rfl rfl) rfl ?_
                refine Rg_opx rfl (asB_ne rfl rfl) rfl ?_
                refine Rg_op rfl (op_pick_f (v := (Value.bool false)) rfl rfl ?_)
                refine Rg_op rfl (op_move (v := (Value.bool false)) rfl ?_)
                refine Rg_opx rfl (asB_ne rfl rfl) rfl ?_
                refine Rg_opx rfl (asB_ne rfl rfl) rfl ?_
                refine Rg_opx rfl (asB_ne rfl rfl) rfl ?_
                refine Rg_opx rfl (asB_ne rfl rfl) rfl ?_
                refine Rg_opx rfl (asB_ne rfl rfl) rfl ?_
                refine Rg_opx rfl (asB_ne rfl rfl) rfl ?_
                refine Rg_op rfl (op_pick_f (v := (Value.bool false)) rfl rfl ?_)
                refine Rg_op rfl (op_move (v := (Value.bool false)) rfl ?_)
                refine Rg_opx rfl (asB_ne rfl rfl) rfl ?_
                refine Rg_opx rfl (asB_ne rfl rfl) rfl ?_
                refine Rg_op rfl (op_pick_f (v := (Value.bool false)) rfl rfl ?_)
                refine Rg_op rfl (op_move (v := (Value.bool false)) rfl ?_)
                refine Rg_opx rfl (asB_ne rfl rfl) rfl ?_
                refine Rg_op rfl (op_pick_f (v := (Value.bool false)) rfl rfl ?_)
                refine Rg_op rfl (op_move (v := (Value.bool false)) rfl ?_)
                refine Rg_opx rfl (asB_ne rfl rfl) rfl ?_
                refine Rg_opx rfl (asB_ne rfl rfl) rfl ?_
                refine Rg_op rfl (op_pick_f (v := (Value.bool false)) rfl rfl ?_)
                refine Rg_op rfl (op_move (v := (Value.bool false)) rfl ?_)
                refine Rg_opx rfl (asB_ne rfl rfl) rfl ?_
                refine Rg_opx rfl (asB_ne rfl rfl) rfl ?_
                refine Rg_op rfl (op_pick_f (v := (Value.bool false)) rfl rfl ?_)
                refine Rg_op rfl (op_assign (v := (Value.bool false)) rfl ?_)
                refine Rg_nil ?_
                exact hK386 _ _ ⟨false, _, rfl, ⟨(by repeat (first | with_reducible exact Out.refl _ _ | refine Out.upd ?_ rfl | refine Out.updL ?_ rfl | refine Out.mix' ?_ rfl | exact Out.refl _ _)), rfl, rfl, trivial⟩, ch392, hs378, hm⟩
            ·
              replace hm := bif_f hm hg396
              refine Rg_opx rfl (asB_ne rfl rfl) rfl ?_
              refine Rg_opx rfl (asB_ne rfl rfl) rfl ?_
              refine Rg_opx rfl (asB_ne rfl rfl) rfl ?_
              refine Rg_op rfl (op_pick_f (v := (Value.bool false)) rfl rfl ?_)
              refine Rg_op rfl (op_move (v := (Value.bool false)) rfl ?_)
              refine Rg_opx rfl (asB_ne rfl rfl) rfl ?_
              refine Rg_opx rfl (asB_ne rfl rfl) rfl ?_
              refine Rg_op rfl (op_pick_f (v := (Value.bool false)) rfl rfl ?_)
              refine Rg_op rfl (op_move (v := (Value.bool false)) rfl ?_)
              refine Rg_opx rfl (asB_ne rfl rfl) rfl ?_
              refine Rg_opx rfl (asB_ne rfl rfl) rfl ?_
              refine Rg_opx rfl (asB_ne rfl rfl) rfl ?_
              refine Rg_opx rfl (asB_ne rfl rfl) rfl ?_
              refine Rg_opx rfl (asB_ne rfl rfl) rfl ?_
              refine Rg_opx rfl (asB_ne rfl rfl) rfl ?_
              refine Rg_op rfl (op_pick_f (v := (Value.bool false)) rfl rfl ?_)
              refine Rg_op rfl (op_move (v := (Value.bool false)) rfl ?_)
              refine Rg_opx rfl (asB_ne rfl rfl) rfl ?_
              refine Rg_opx rfl (asB_ne rfl rfl) rfl ?_
              refine Rg_op rfl (op_pick_f (v := (Value.bool false)) rfl rfl ?_)
              refine Rg_op rfl (op_move (v := (Value.bool false)) rfl ?_)
              refine Rg_opx rfl (asB_ne rfl rfl) rfl ?_
              refine Rg_op rfl (op_pick_f (v := (Value.bool false)) rfl rfl ?_)
              refine Rg_op rfl (op_move (v := (Value.bool false)) rfl ?_)
              refine Rg_opx rfl (asB_ne rfl rfl) rfl ?_
              refine Rg_opx rfl (asB_ne rfl rfl) rfl ?_
              refine Rg_op rfl (op_pick_f (v := (Value.bool false)) rfl rfl ?_)
              refine Rg_op rfl (op_move (v := (Value.bool false)) rfl ?_)
              refine Rg_opx rfl (asB_ne rfl rfl) rfl ?_
              refine Rg_opx rfl (asB_ne rfl rfl) rfl ?_
              refine Rg_op rfl (op_pick_f (v := (Value.bool false)) rfl rfl ?_)
              refine Rg_op rfl (op_assign (v := (Value.bool false)) rfl ?_)
              refine Rg_nil ?_
              exact hK386 _ _ ⟨false, _, rfl, ⟨(by repeat (first | with_reducible exact Out.refl _ _ | refine Out.upd ?_ rfl | refine Out.updL ?_ rfl | refine Out.mix' ?_ rfl | exact Out.refl _ _)), rfl, rfl, trivial⟩, ch392, hs378, hm⟩
          ·
            replace hm := bif_f hm hg395
            refine Rg_opx rfl (asB_ne rfl rfl) rfl ?_
            refine Rg_opx rfl (asB_ne rfl rfl) rfl ?_
            refine Rg_op rfl (op_pick_f (v := (Value.bool false)) rfl rfl ?_)
            refine Rg_op rfl (op_move (v := (Value.bool false)) rfl ?_)
            refine Rg_opx rfl (asB_ne rfl rfl) rfl ?_
            refine Rg_opx rfl (asB_ne rfl rfl) rfl ?_
            refine Rg_opx rfl (asB_ne rfl rfl) rfl ?_
            refine Rg_op rfl (op_pick_f (v := (Value.bool false)) rfl rfl ?_)
            refine Rg_op rfl (op_move (v := (Value.bool false)) rfl ?_)
            refine Rg_opx rfl (asB_ne rfl rfl) rfl ?_
            refine Rg_opx rfl (asB_ne rfl rfl) rfl ?_
            refine Rg_op rfl (op_pick_f (v := (Value.bool false)) rfl rfl ?_)
            refine Rg_op rfl (op_move (v := (Value.bool false)) rfl ?_)
            refine Rg_opx rfl (asB_ne rfl rfl) rfl ?_
            refine Rg_opx rfl (asB_ne rfl rfl) rfl ?_
            refine Rg_opx rfl (asB_ne rfl rfl) rfl ?_
            refine Rg_opx rfl (asB_ne rfl rfl) rfl ?_
            refine Rg_opx rfl (asB_ne rfl rfl) rfl ?_
            refine Rg_opx rfl (asB_ne rfl rfl) rfl ?_
            refine Rg_op rfl (op_pick_f (v := (Value.bool false)) rfl rfl ?_)
            refine Rg_op rfl (op_move (v := (Value.bool false)) rfl ?_)
            refine Rg_opx rfl (asB_ne rfl rfl) rfl ?_
            refine Rg_opx rfl (asB_ne rfl rfl) rfl ?_
            refine Rg_op rfl (op_pick_f (v := (Value.bool false)) rfl rfl ?_)
            refine Rg_op rfl (op_move (v := (Value.bool false)) rfl ?_)
            refine Rg_opx rfl (asB_ne rfl rfl) rfl ?_
            refine Rg_op rfl (op_pick_f (v := (Value.bool false)) rfl rfl ?_)
            refine Rg_op rfl (op_move (v := (Value.bool false)) rfl ?_)
            refine Rg_opx rfl (asB_ne rfl rfl) rfl ?_
            refine Rg_opx rfl (asB_ne rfl rfl) rfl ?_
            refine Rg_op rfl (op_pick_f (v := (Value.bool false)) rfl rfl ?_)
            refine Rg_op rfl (op_move (v := (Value.bool false)) rfl ?_)
            refine Rg_opx rfl (asB_ne rfl rfl) rfl ?_
            refine Rg_opx rfl (asB_ne rfl rfl) rfl ?_
            refine Rg_op rfl (op_pick_f (v := (Value.bool false)) rfl rfl ?_)
            refine Rg_op rfl (op_assign (v := (Value.bool false)) rfl ?_)
            refine Rg_nil ?_
            exact hK386 _ _ ⟨false, _, rfl, ⟨(by repeat (first | with_reducible exact Out.refl _ _ | refine Out.upd ?_ rfl | refine Out.updL ?_ rfl | refine Out.mix' ?_ rfl | exact Out.refl _ _)), rfl, rfl, trivial⟩, ch392, hs378, hm⟩
        ·
          replace hm := bif_f hm hg394
          refine Rg_opx rfl (asB_ne rfl rfl) rfl ?_
          refine Rg_opx rfl (asB_ne rfl rfl) rfl ?_
          refine Rg_opx rfl (asB_ne rfl rfl) rfl ?_
          refine Rg_op rfl (op_pick_f (v := (Value.bool false)) rfl rfl ?_)
          refine Rg_op rfl (op_move (v := (Value.bool false)) rfl ?_)
          refine Rg_opx rfl (asB_ne rfl rfl) rfl ?_
          refine Rg_opx rfl (asB_ne rfl rfl) rfl ?_
          refine Rg_op rfl (op_pick_f (v := (Value.bool false)) rfl rfl ?_)
          refine Rg_op rfl (op_move (v := (Value.bool false)) rfl ?_)
          refine Rg_opx rfl (asB_ne rfl rfl) rfl ?_
          refine Rg_opx rfl (asB_ne rfl rfl) rfl ?_
          refine Rg_opx rfl (asB_ne rfl rfl) rfl ?_
          refine Rg_op rfl (op_pick_f (v := (Value.bool false)) rfl rfl ?_)
          refine Rg_op rfl (op_move (v := (Value.bool false)) rfl ?_)
          refine Rg_opx rfl (asB_ne rfl rfl) rfl ?_
          refine Rg_opx rfl (asB_ne rfl rfl) rfl ?_
          refine Rg_op rfl (op_pick_f (v := (Value.bool false)) rfl rfl ?_)
          refine Rg_op rfl (op_move (v := (Value.bool false)) rfl ?_)
          refine Rg_opx rfl (asB_ne rfl rfl) rfl ?_
          refine Rg_opx rfl (asB_ne rfl rfl) rfl ?_
          refine Rg_opx rfl (asB_ne rfl rfl) rfl ?_
          refine Rg_opx rfl (asB_ne rfl rfl) rfl ?_
          refine Rg_opx rfl (asB_ne rfl rfl) rfl ?_
          refine Rg_opx rfl (asB_ne rfl rfl) rfl ?_
          refine Rg_op rfl (op_pick_f (v := (Value.bool false)) rfl rfl ?_)
          refine Rg_op rfl (op_move (v := (Value.bool false)) rfl ?_)
          refine Rg_opx rfl (asB_ne rfl rfl) rfl ?_
          refine Rg_opx rfl (asB_ne rfl rfl) rfl ?_
          refine Rg_op rfl (op_pick_f (v := (Value.bool false)) rfl rfl ?_)
          refine Rg_op rfl (op_move (v := (Value.bool false)) rfl ?_)
          refine Rg_opx rfl (asB_ne rfl rfl) rfl ?_
          refine Rg_op rfl (op_pick_f (v := (Value.bool false)) rfl rfl ?_)
          refine Rg_op rfl (op_move (v := (Value.bool false)) rfl ?_)
          refine Rg_opx rfl (asB_ne rfl rfl) rfl ?_
          refine Rg_opx rfl (asB_ne rfl rfl) rfl ?_
          refine Rg_op rfl (op_pick_f (v := (Value.bool false)) rfl rfl ?_)
          refine Rg_op rfl (op_move (v := (Value.bool false)) rfl ?_)
          refine Rg_opx rfl (asB_ne rfl rfl) rfl ?_
          refine Rg_opx rfl (asB_ne rfl rfl) rfl ?_
          refine Rg_op rfl (op_pick_f (v := (Value.bool false)) rfl rfl ?_)
          refine Rg_op rfl (op_assign (v := (Value.bool false)) rfl ?_)
          refine Rg_nil ?_
          exact hK386 _ _ ⟨false, _, rfl, ⟨(by repeat (first | with_reducible exact Out.refl _ _ | refine Out.upd ?_ rfl | refine Out.updL ?_ rfl | refine Out.mix' ?_ rfl | exact Out.refl _ _)), rfl, rfl, trivial⟩, ch392, hs378, hm⟩
      ·
        replace hm := bif_f hm hg393
        refine Rg_opx rfl (asB_ne rfl rfl) rfl ?_
        refine Rg_opx rfl (asB_ne rfl rfl) rfl ?_
        refine Rg_op rfl (op_pick_f (v := (Value.bool false)) rfl rfl ?_)
        refine Rg_op rfl (op_move (v := (Value.bool false)) rfl ?_)
        refine Rg_opx rfl (asB_ne rfl rfl) rfl ?_
        refine Rg_opx rfl (asB_ne rfl rfl) rfl ?_
        refine Rg_opx rfl (asB_ne rfl rfl) rfl ?_
        refine Rg_op rfl (op_pick_f (v := (Value.bool false)) rfl rfl ?_)
        refine Rg_op rfl (op_move (v := (Value.bool false)) rfl ?_)
        refine Rg_opx rfl (asB_ne rfl rfl) rfl ?_
        refine Rg_opx rfl (asB_ne rfl rfl) rfl ?_
        refine Rg_op rfl (op_pick_f (v := (Value.bool false)) rfl rfl ?_)
        refine Rg_op rfl (op_move (v := (Value.bool false)) rfl ?_)
        refine Rg_opx rfl (asB_ne rfl rfl) rfl ?_
        refine Rg_opx rfl (asB_ne rfl rfl) rfl ?_
        refine Rg_opx rfl (asB_ne rfl rfl) rfl ?_
        refine Rg_op rfl (op_pick_f (v := (Value.bool false)) rfl rfl ?_)
        refine Rg_op rfl (op_move (v := (Value.bool false)) rfl ?_)
        refine Rg_opx rfl (asB_ne rfl rfl) rfl ?_
        refine Rg_opx rfl (asB_ne rfl rfl) rfl ?_
        refine Rg_op rfl (op_pick_f (v := (Value.bool false)) rfl rfl ?_)
        refine Rg_op rfl (op_move (v := (Value.bool false)) rfl ?_)
        refine Rg_opx rfl (asB_ne rfl rfl) rfl ?_
        refine Rg_opx rfl (asB_ne rfl rfl) rfl ?_
        refine Rg_opx rfl (asB_ne rfl rfl) rfl ?_
        refine Rg_opx rfl (asB_ne rfl rfl) rfl ?_
        refine Rg_opx rfl (asB_ne rfl rfl) rfl ?_
        refine Rg_opx rfl (asB_ne rfl rfl) rfl ?_
        refine Rg_op rfl (op_pick_f (v := (Value.bool false)) rfl rfl ?_)
        refine Rg_op rfl (op_move (v := (Value.bool false)) rfl ?_)
        refine Rg_opx rfl (asB_ne rfl rfl) rfl ?_
        refine Rg_opx rfl (asB_ne rfl rfl) rfl ?_
        refine Rg_op rfl (op_pick_f (v := (Value.bool false)) rfl rfl ?_)
        refine Rg_op rfl (op_move (v := (Value.bool false)) rfl ?_)
        refine Rg_opx rfl (asB_ne rfl rfl) rfl ?_
        refine Rg_op rfl (op_pick_f (v := (Value.bool false)) rfl rfl ?_)
        refine Rg_op rfl (op_move (v := (Value.bool false)) rfl ?_)
        refine Rg_opx rfl (asB_ne rfl rfl) rfl ?_
        refine Rg_opx rfl (asB_ne rfl rfl) rfl ?_
        refine Rg_op rfl (op_pick_f (v := (Value.bool false)) rfl rfl ?_)
        refine Rg_op rfl (op_move (v := (Value.bool false)) rfl ?_)
        refine Rg_opx rfl (asB_ne rfl rfl) rfl ?_
        refine Rg_opx rfl (asB_ne rfl rfl) rfl ?_
        refine Rg_op rfl (op_pick_f (v := (Value.bool false)) rfl rfl ?_)
        refine Rg_op rfl (op_assign (v := (Value.bool false)) rfl ?_)
        refine Rg_nil ?_
        exact hK386 _ _ ⟨false, _, rfl, ⟨(by repeat (first | with_reducible exact Out.refl _ _ | refine Out.upd ?_ rfl | refine Out.updL ?_ rfl | refine Out.mix' ?_ rfl | exact Out.refl _ _)), rfl, rfl, trivial⟩, ch392, hs378, hm⟩
  ·
    intro K376 hK376
    have ch447 := Step.refl (ks [] O) w361
    clear f356
    refine Wp_region ?_  -- 12 law.go:23
    refine Rg_op rfl (op_move (v := (Value.int .i64 below_1.2)) rfl ?_)
    refine Rg_op rfl (op_eql rfl rfl ?_)
    refine Rg_op rfl (op_move (v := (Value.bool (decide (below_1.2 = 0)))) rfl ?_)
    refine Rg_case (fun hg448 => ?_) (fun hg448 => ?_)
    ·
      replace hm := bif_t hm hg448
      refine Rg_opg rfl rfl rfl (op_move (v := (Value.bool below_1.1)) rfl ?_)
      refine Rg_opg rfl rfl rfl (op_not rfl ?_)
      refine Rg_op rfl (op_pick_t (v := (Value.bool (!below_1.1))) rfl rfl ?_)
      refine Rg_op rfl (op_move (v := (Value.bool (!below_1.1))) rfl ?_)
      refine Rg_case (fun hg449 => ?_) (fun hg449 => ?_)
      ·
        replace hm := bif_t hm hg449
        refine Rg_opg rfl rfl rfl (op_move (v := (Value.int .i64 compare_1.2)) rfl ?_)
        refine Rg_opg rfl rfl rfl (op_eql rfl rfl ?_)
        refine Rg_op rfl (op_pick_t (v := (Value.bool (decide (compare_1.2 = 0)))) rfl rfl ?_)
        refine Rg_op rfl (op_move (v := (Value.bool (decide (compare_1.2 = 0)))) rfl ?_)
        refine Rg_case (fun hg450 => ?_) (fun hg450 => ?_)
        ·
          replace hm := bif_t hm hg450
          refine Rg_opg rfl rfl rfl (op_move (v := (Value.int .i64 compare_1.1)) rfl ?_)
          refine Rg_opg rfl rfl rfl (op_eql rfl rfl ?_)
          refine Rg_op rfl (op_pick_t (v := (Value.bool (decide (compare_1.1 = (-1))))) rfl rfl ?_)
          refine Rg_op rfl (op_move (v := (Value.bool (decide (compare_1.1 = (-1))))) rfl ?_)
          refine Rg_case (fun hg451 => ?_) (fun hg451 => ?_)
          ·
            replace hm := bif_t hm hg451
            refine Rg_opg rfl rfl rfl (op_move (v := (Value.int .i64 compare_2.2)) rfl ?_)
            refine Rg_opg rfl rfl rfl (op_eql rfl rfl ?_)
            refine Rg_op rfl (op_pick_t (v := (Value.bool (decide (compare_2.2 = 0)))) rfl rfl ?_)
            refine Rg_op rfl (op_move (v := (Value.bool (decide (compare_2.2 = 0)))) rfl ?_)
            refine Rg_case (fun hg452 => ?_) (fun hg452 => ?_)
            ·
              replace hm := bif_t hm hg452
              refine Rg_opg rfl rfl rfl (op_move (v := (Value.int .i64 compare_2.1)) rfl ?_)
              refine Rg_opg rfl rfl rfl (op_eql rfl rfl ?_)
              refine Rg_op rfl (op_pick_t (v := (Value.bool (decide (compare_2.1 = 0)))) rfl rfl ?_)
              refine Rg_op rfl (op_move (v := (Value.bool (decide (compare_2.1 = 0)))) rfl ?_)
              refine Rg_case (fun hg453 => ?_) (fun hg453 => ?_)
              ·
                replace hm := bif_t hm hg453
                refine Rg_opg rfl rfl rfl (op_move (v := (Value.int .i64 add_1.2)) rfl ?_)
                refine Rg_opg rfl rfl rfl (op_eql rfl rfl ?_)
                refine Rg_op rfl (op_pick_t (v := (Value.bool (decide (add_1.2 = 60)))) rfl rfl ?_)
                refine Rg_op rfl (op_move (v := (Value.bool (decide (add_1.2 = 60)))) rfl ?_)
                refine Rg_case (fun hg454 => ?_) (fun hg454 => ?_)
                ·
                  replace hm := bif_t hm hg454
                  refine Rg_opg rfl rfl rfl (op_move (v := (Value.int .i64 add_2.2)) rfl ?_)
                  refine Rg_opg rfl rfl rfl (op_eql rfl rfl ?_)
                  refine Rg_op rfl (op_pick_t (v := (Value.bool (decide (add_2.2 = 0)))) rfl rfl ?_)
                  refine Rg_op rfl (op_move (v := (Value.bool (decide (add_2.2 = 0)))) rfl ?_)
                  refine Rg_case (fun hg455 => ?_) (fun hg455 => ?_)
                  ·
                    replace hm := bif_t hm hg455
                    refine Rg_opg rfl rfl rfl (op_move (v := (Value.slice a_y137 add_2.1.length c_y137)) rfl ?_)
                    refine Rg_opg rfl rfl rfl (op_buildSlice (cs := [(Value.int .i64 3), (Value.int .i64 1)]) (parts := [(0, .const (.int .i64 3)), (1, .const (.int .i64 1))]) ty22 ty3 hs364 (by decide) rfl ?_)
                    intro b456 w457 hx460 p458 hs459
                    replace f_y137 := f_y137.step p458
                    replace f_y195 := f_y195.step p458
                    replace f_y208 := f_y208.step p458
                    replace f_y240 := f_y240.step p458
                    replace f_y307 := f_y307.step p458
                    replace ch447 := ch447.trans p458
                    clear p458 hs364
                    obtain ⟨hs463, p464, f462⟩ := St.publish (i := 0) (o := 0) (c := 2) (xs := [3, 1]) hs459 rfl (show Els (rInt .i64) _ _ [(Value.int .i64 3), (Value.int .i64 1)] [3, 1] from ⟨_, _, rfl, (mk_int (show InK .i64 3 from by decide)), ⟨_, _, rfl, (mk_int (show InK .i64 1 from by decide)), Els.nil⟩⟩) (le_lit rfl) (le_lit rfl) (le_lit rfl)
                    replace f_y137 := f_y137.step p464
                    replace f_y195 := f_y195.step p464
                    replace f_y208 := f_y208.step p464
                    replace f_y240 := f_y240.step p464
                    replace f_y307 := f_y307.step p464
                    replace ch447 := ch447.trans p464
                    clear p464 hs459
                    replace hm := bd hm; obtain ⟨same_1, hv465, hm⟩ := hm
                    refine Rg_opg rfl rfl rfl (op_call Try.call19 (c19_overflightref06_Same (a := add_2.1) (b := [3, 1]) hs463.ltw f_y137 f462 hv465) rfl ?_)
                    rintro v466 w467 ⟨hx468, h469⟩
                    have hs470 := hs463.call hx468
                    have p471 := Step.ext (O := ks [] O) hx468
                    clear hx468
                    replace f_y137 := f_y137.step p471
                    replace f_y195 := f_y195.step p471
                    replace f_y208 := f_y208.step p471
                    replace f_y240 := f_y240.step p471
                    replace f_y307 := f_y307.step p471
                    replace f462 := f462.step p471
                    replace ch447 := ch447.trans p471
                    clear p471 hs463
                    obtain rfl := h469
                    refine Rg_op rfl (op_pick_t (v := (Value.bool same_1)) rfl rfl ?_)
                    refine Rg_op rfl (op_move (v := (Value.bool same_1)) rfl ?_)
                    refine Rg_case (fun hg473 => ?_) (fun hg473 => ?_)
                    ·
                      replace hm := bif_t hm hg473
                      refine Rg_opg rfl rfl rfl (op_move (v := (Value.int .i64 least_1.2)) rfl ?_)
                      refine Rg_opg rfl rfl rfl (op_eql rfl rfl ?_)
                      refine Rg_op rfl (op_pick_t (v := (Value.bool (decide (least_1.2 = 0)))) rfl rfl ?_)
                      refine Rg_op rfl (op_move (v := (Value.bool (decide (least_1.2 = 0)))) rfl ?_)
                      refine Rg_case (fun hg474 => ?_) (fun hg474 => ?_)
                      ·
                        replace hm := bif_t hm hg474
                        refine Rg_opg rfl rfl rfl (op_move (v := (Value.slice a_y195 least_1.1.length c_y195)) rfl ?_)
                        refine Rg_opg rfl rfl rfl (op_buildSlice (cs := [(Value.int .i64 1), (Value.int .i64 5)]) (parts := [(0, .const (.int .i64 1)), (1, .const (.int .i64 5))]) ty22 ty3 hs470 (by decide) rfl ?_)
                        intro b475 w476 hx479 p477 hs478
                        replace f_y137 := f_y137.step p477
                        replace f_y195 := f_y195.step p477
                        replace f_y208 := f_y208.step p477
                        replace f_y240 := f_y240.step p477
                        replace f_y307 := f_y307.step p477
                        replace f462 := f462.step p477
                        replace ch447 := ch447.trans p477
                        clear p477 hs470
                        refine Rg_opg rfl rfl rfl (op_buildSlice (cs := [(Value.int .i64 2), (Value.int .i64 4)]) (parts := [(0, .const (.int .i64 2)), (1, .const (.int .i64 4))]) ty22 ty3 hs478 (by decide) rfl ?_)
                        intro b481 w482 hx485 p483 hs484
                        replace f_y137 := f_y137.step p483
                        replace f_y195 := f_y195.step p483
                        replace f_y208 := f_y208.step p483
                        replace f_y240 := f_y240.step p483
                        replace f_y307 := f_y307.step p483
                        replace f462 := f462.step p483
                        replace ch447 := ch447.trans p483
                        clear p483 hs478
                        obtain ⟨hs488, p489, f487⟩ := St.publish (i := 1) (o := 0) (c := 2) (xs := [1, 5]) hs484 rfl (show Els (rInt .i64) _ _ [(Value.int .i64 1), (Value.int .i64 5)] [1, 5] from ⟨_, _, rfl, (mk_int (show InK .i64 1 from by decide)), ⟨_, _, rfl, (mk_int (show InK .i64 5 from by decide)), Els.nil⟩⟩) (le_lit rfl) (le_lit rfl) (le_lit rfl)
                        replace f_y137 := f_y137.step p489
                        replace f_y195 := f_y195.step p489
                        replace f_y208 := f_y208.step p489
                        replace f_y240 := f_y240.step p489
                        replace f_y307 := f_y307.step p489
                        replace f462 := f462.step p489
                        replace ch447 := ch447.trans p489
                        clear p489 hs484
                        obtain ⟨hs491, p492, f490⟩ := St.publish (i := 0) (o := 0) (c := 2) (xs := [2, 4]) hs488 rfl (show Els (rInt .i64) _ _ [(Value.int .i64 2), (Value.int .i64 4)] [2, 4] from ⟨_, _, rfl, (mk_int (show InK .i64 2 from by decide)), ⟨_, _, rfl, (mk_int (show InK .i64 4 from by decide)), Els.nil⟩⟩) (le_lit rfl) (le_lit rfl) (le_lit rfl)
                        replace f_y137 := f_y137.step p492
                        replace f_y195 := f_y195.step p492
                        replace f_y208 := f_y208.step p492
                        replace f_y240 := f_y240.step p492
                        replace f_y307 := f_y307.step p492
                        replace f462 := f462.step p492
                        replace f487 := f487.step p492
                        replace ch447 := ch447.trans p492
                        clear p492 hs488
                        refine Rg_opg rfl rfl rfl (op_buildSlice (cs := [(Value.slice (some ⟨b475, 0, none⟩) [1, 5].length 2), (Value.slice (some ⟨b481, 0, none⟩) [2, 4].length 2)]) (parts := [(0, .tmp 134), (1, .tmp 135)]) ty33 ty22 hs491 (by decide) rfl ?_)
                        intro b493 w494 hx497 p495 hs496
                        replace f_y137 := f_y137.step p495
                        replace f_y195 := f_y195.step p495
                        replace f_y208 := f_y208.step p495
                        replace f_y240 := f_y240.step p495
                        replace f_y307 := f_y307.step p495
                        replace f462 := f462.step p495
                        replace f487 := f487.step p495
                        replace f490 := f490.step p495
                        replace ch447 := ch447.trans p495
                        clear p495 hs491
                        obtain ⟨hs500, p501, f499⟩ := St.publish (i := 0) (o := 0) (c := 2) (xs := [[1, 5], [2, 4]]) hs496 rfl (show Els (rSl (rInt .i64)) _ _ [(Value.slice (some ⟨b475, 0, none⟩) [1, 5].length 2), (Value.slice (some ⟨b481, 0, none⟩) [2, 4].length 2)] [[1, 5], [2, 4]] from ⟨_, _, rfl, (mk_sl f487), ⟨_, _, rfl, (mk_sl f490), Els.nil⟩⟩) (le_lit rfl) (le_lit rfl) (le_lit rfl)
                        replace f_y137 := f_y137.step p501
                        replace f_y195 := f_y195.step p501
                        replace f_y208 := f_y208.step p501
                        replace f_y240 := f_y240.step p501
                        replace f_y307 := f_y307.step p501
                        replace f462 := f462.step p501
                        replace f487 := f487.step p501
                        replace f490 := f490.step p501
                        replace ch447 := ch447.trans p501
                        clear p501 hs496
                        replace hm := bd hm; obtain ⟨samelist_2, hv502, hm⟩ := hm
                        refine Rg_opg rfl rfl rfl (op_call Try.call27 (c27_overflightref06_SameList (a := least_1.1) (b := [[1, 5], [2, 4]]) hs500.ltw f_y195 f499 hv502) rfl ?_)
                        rintro v503 w504 ⟨hx505, h506⟩
                        have hs507 := hs500.call hx505
                        have p508 := Step.ext (O := ks [] O) hx505
                        clear hx505
                        replace f_y137 := f_y137.step p508
                        replace f_y195 := f_y195.step p508
                        replace f_y208 := f_y208.step p508
                        replace f_y240 := f_y240.step p508
                        replace f_y307 := f_y307.step p508
                        replace f462 := f462.step p508
                        replace f487 := f487.step p508
                        replace f490 := f490.step p508
                        replace f499 := f499.step p508
                        replace ch447 := ch447.trans p508
                        clear p508 hs500
                        obtain rfl := h506
                        refine Rg_op rfl (op_pick_t (v := (Value.bool samelist_2)) rfl rfl ?_)
                        refine Rg_op rfl (op_assign (v := (Value.bool samelist_2)) rfl ?_)
                        refine Rg_nil ?_
                        exact hK376 _ _ ⟨samelist_2, _, rfl, ⟨(by repeat (first | with_reducible exact Out.refl _ _ | refine Out.upd ?_ rfl | refine Out.updL ?_ rfl | refine Out.mix' ?_ rfl | exact Out.refl _ _)), rfl, rfl, trivial⟩, ch447, hs507, hm⟩
                      ·
                        replace hm := bif_f hm hg474
                        refine Rg_opx rfl (asB_ne rfl rfl) rfl ?_
                        refine Rg_opx rfl (asB_ne rfl rfl) rfl ?_
                        refine Rg_opx rfl (asB_ne rfl rfl) rfl ?_
                        refine Rg_opx rfl (asB_ne rfl rfl) rfl ?_
                        refine Rg_opx rfl (asB_ne rfl rfl) rfl ?_
                        refine Rg_op rfl (op_pick_f (v := (Value.bool false)) rfl rfl ?_)
                        refine Rg_op rfl (op_assign (v := (Value.bool false)) rfl ?_)
                        refine Rg_nil ?_
                        exact hK376 _ _ ⟨false, _, rfl, ⟨(by repeat (first | with_reducible exact Out.refl _ _ | refine Out.upd ?_ rfl | refine Out.updL ?_ rfl | refine Out.mix' ?_ rfl | exact Out.refl _ _)), rfl, rfl, trivial⟩, ch447, hs470, hm⟩
                    ·
                      replace hm := bif_f hm hg473
                      refine Rg_opx rfl (asB_ne rfl rfl) rfl ?_
                      refine Rg_opx rfl (asB_ne rfl rfl) rfl ?_
                      refine Rg_op rfl (op_pick_f (v := (Value.bool false)) rfl rfl ?_)
                      refine Rg_op rfl (op_move (v := (Value.bool false)) rfl ?_)
                      refine Rg_opx rfl (asB_ne rfl rfl) rfl ?_
                      refine Rg_opx rfl (asB_ne rfl rfl) rfl ?_
                      refine Rg_opx rfl (asB_ne rfl rfl) rfl ?_
                      refine Rg_opx rfl (asB_ne rfl rfl) rfl ?_
                      refine Rg_opx rfl (asB_ne rfl rfl) rfl ?_
                      refine Rg_op rfl (op_pick_f (v := (Value.bool false)) rfl rfl ?_)
                      refine Rg_op rfl (op_assign (v := (Value.bool false)) rfl ?_)
                      refine Rg_nil ?_
                      exact hK376 _ _ ⟨false, _, rfl, ⟨(by repeat (first | with_reducible exact Out.refl _ _ | refine Out.upd ?_ rfl | refine Out.updL ?_ rfl | refine Out.mix' ?_ rfl | exact Out.refl _ _)), rfl, rfl, trivial⟩, ch447, hs470, hm⟩
                  ·
                    replace hm := bif_f hm hg455
                    refine Rg_opx rfl (asB_ne rfl rfl) rfl ?_
                    refine Rg_opx rfl (asB_ne rfl rfl) rfl ?_
                    refine Rg_opx rfl (asB_ne rfl rfl) rfl ?_
                    refine Rg_op rfl (op_pick_f (v := (Value.bool false)) rfl rfl ?_)
                    refine Rg_op rfl (op_move (v := (Value.bool false)) rfl ?_)
                    refine Rg_opx rfl (asB_ne rfl rfl) rfl ?_
                    refine Rg_opx rfl (asB_ne rfl rfl) rfl ?_
                    refine Rg_op rfl (op_pick_f (v := (Value.bool false)) rfl rfl ?_)
                    refine Rg_op rfl (op_move (v := (Value.bool false)) rfl ?_)
                    refine Rg_opx rfl (asB_ne rfl rfl) rfl ?_
                    refine Rg_opx rfl (asB_ne rfl rfl) rfl ?_
                    refine Rg_opx rfl (asB_ne rfl rfl) rfl ?_
                    refine Rg_opx rfl (asB_ne rfl rfl) rfl ?_
                    refine Rg_opx rfl (asB_ne rfl rfl) rfl ?_
                    refine Rg_op rfl (op_pick_f (v := (Value.bool false)) rfl rfl ?_)
                    refine Rg_op rfl (op_assign (v := (Value.bool false)) rfl ?_)
                    refine Rg_nil ?_
                    exact hK376 _ _ ⟨false, _, rfl, ⟨(by repeat (first | with_reducible exact Out.refl _ _ | refine Out.upd ?_ rfl | refine Out.updL ?_ rfl | refine Out.mix' ?_ rfl | exact Out.refl _ _)), rfl, rfl, trivial⟩, ch447, hs364, hm⟩
                ·
                  replace hm := bif_f hm hg454
                  refine Rg_opx rfl (asB_ne rfl rfl) rfl ?_
                  refine Rg_opx rfl (asB_ne rfl rfl) rfl ?_
                  refine Rg_op rfl (op_pick_f (v := (Value.bool false)) rfl rfl ?_)
                  refine Rg_op rfl (op_move (v := (Value.bool false)) rfl ?_)
                  refine Rg_opx rfl (asB_ne rfl rfl) rfl ?_
                  refine Rg_opx rfl (asB_ne rfl rfl) rfl ?_
                  refine Rg_opx rfl (asB_ne rfl rfl) rfl ?_
                  refine Rg_op rfl (op_pick_f (v := (Value.bool false)) rfl rfl ?_)
                  refine Rg_op rfl (op_move (v := (Value.bool false)) rfl ?_)
                  refine Rg_opx rfl (asB_ne rfl rfl) rfl ?_
                  refine Rg_opx rfl (asB_ne rfl rfl) rfl ?_
                  refine Rg_op rfl (op_pick_f (v := (Value.bool false)) rfl rfl ?_)
                  refine Rg_op rfl (op_move (v := (Value.bool false)) rfl ?_)
                  refine Rg_opx rfl (asB_ne rfl rfl) rfl ?_
                  refine Rg_opx rfl (asB_ne rfl rfl) rfl ?_
                  refine Rg_opx rfl (asB_ne rfl rfl) rfl ?_
                  refine Rg_opx rfl (asB_ne rfl rfl) rfl ?_
                  refine Rg_opx rfl (asB_ne rfl rfl) rfl ?_
                  refine Rg_op rfl (op_pick_f (v := (Value.bool false)) rfl rfl ?_)
                  refine Rg_op rfl (op_assign (v := (Value.bool false)) rfl ?_)
                  refine Rg_nil ?_
                  exact hK376 _ _ ⟨false, _, rfl, ⟨(by repeat (first | with_reducible exact Out.refl _ _ | refine Out.upd ?_ rfl | refine Out.updL ?_ rfl | refine Out.mix' ?_ rfl | exact Out.refl _ _)), rfl, rfl, trivial⟩, ch447, hs364, hm⟩
              ·
                replace hm := bif_f hm hg453
                refine Rg_opx rfl (asB_ne rfl rfl) rfl ?_
                refine Rg_opx rfl (asB_ne rfl rfl) rfl ?_
                refine Rg_op rfl (op_pick_f (v := (Value.bool false)) rfl rfl ?_)
                refine Rg_op rfl (op_move (v := (Value.bool false)) rfl ?_)
                refine Rg_opx rfl (asB_ne rfl rfl) rfl ?_
                refine Rg_opx rfl (asB_ne rfl rfl) rfl ?_
                refine Rg_op rfl (op_pick_f (v := (Value.bool false)) rfl rfl ?_)
                refine Rg_op rfl (op_move (v := (Value.bool false)) rfl ?_)
                refine Rg_opx rfl (asB_ne rfl rfl) rfl ?_
                refine Rg_opx rfl (asB_ne rfl rfl) rfl ?_
                refine Rg_opx rfl (asB_ne rfl rfl) rfl ?_
                refine Rg_op rfl (op_pick_f (v := (Value.bool false)) rfl rfl ?_)
                refine Rg_op rfl (op_move (v := (Value.bool false)) rfl ?_)
                refine Rg_opx rfl (asB_ne rfl rfl) rfl ?_
                refine Rg_opx rfl (asB_ne rfl rfl) rfl ?_
                refine Rg_op rfl (op_pick_f (v := (Value.bool false)) rfl rfl ?_)
                refine Rg_op rfl (op_move (v := (Value.bool false)) rfl ?_)
                refine Rg_opx rfl (asB_ne rfl rfl) rfl ?_
                refine Rg_opx rfl (asB_ne rfl rfl) rfl ?_
                refine Rg_opx rfl (asB_ne rfl rfl) rfl ?_
                refine Rg_opx rfl (asB_ne rfl rfl) rfl ?_
                refine Rg_opx rfl (asB_ne rfl rfl) rfl ?_
                refine Rg_op rfl (op_pick_f (v := (Value.bool false)) rfl rfl ?_)
                refine Rg_op rfl (op_assign (v := (Value.bool false)) rfl ?_)
                refine Rg_nil ?_
                exact hK376 _ _ ⟨false, _, rfl, ⟨(by repeat (first | with_reducible exact Out.refl _ _ | refine Out.upd ?_ rfl | refine Out.updL ?_ rfl | refine Out.mix' ?_ rfl | exact Out.refl _ _)), rfl, rfl, trivial⟩, ch447, hs364, hm⟩
            ·
              replace hm := bif_f hm hg452
              refine Rg_opx rfl (asB_ne rfl rfl) rfl ?_
              refine Rg_opx rfl (asB_ne rfl rfl) rfl ?_
              refine Rg_op rfl (op_pick_f (v := (Value.bool false)) rfl rfl ?_)
              refine Rg_op rfl (op_move (v := (Value.bool false)) rfl ?_)
              refine Rg_opx rfl (asB_ne rfl rfl) rfl ?_
              refine Rg_opx rfl (asB_ne rfl rfl) rfl ?_
              refine Rg_op rfl (op_pick_f (v := (Value.bool false)) rfl rfl ?_)
              refine Rg_op rfl (op_move (v := (Value.bool false)) rfl ?_)
              refine Rg_opx rfl (asB_ne rfl rfl) rfl ?_
              refine Rg_opx rfl (asB_ne rfl rfl) rfl ?_
              refine Rg_op rfl (op_pick_f (v := (Value.bool false)) rfl rfl ?_)
              refine Rg_op rfl (op_move (v := (Value.bool false)) rfl ?_)
              refine Rg_opx rfl (asB_ne rfl rfl) rfl ?_
              refine Rg_opx rfl (asB_ne rfl rfl) rfl ?_
              refine Rg_opx rfl (asB_ne rfl rfl) rfl ?_
              refine Rg_op rfl (op_pick_f (v := (Value.bool false)) rfl rfl ?_)
              refine Rg_op rfl (op_move (v := (Value.bool false)) rfl ?_)
              refine Rg_opx rfl (asB_ne rfl rfl) rfl ?_
              refine Rg_opx rfl (asB_ne rfl rfl) rfl ?_
              refine Rg_op rfl (op_pick_f (v := (Value.bool false)) rfl rfl ?_)
              refine Rg_op rfl (op_move (v := (Value.bool false)) rfl ?_)
              refine Rg_opx rfl (asB_ne rfl rfl) rfl ?_
              refine Rg_opx rfl (asB_ne rfl rfl) rfl ?_
              refine Rg_opx rfl (asB_ne rfl rfl) rfl ?_
              refine Rg_opx rfl (asB_ne rfl rfl) rfl ?_
              refine Rg_opx rfl (asB_ne rfl rfl) rfl ?_
              refine Rg_op rfl (op_pick_f (v := (Value.bool false)) rfl rfl ?_)
              refine Rg_op rfl (op_assign (v := (Value.bool false)) rfl ?_)
              refine Rg_nil ?_
              exact hK376 _ _ ⟨false, _, rfl, ⟨(by repeat (first | with_reducible exact Out.refl _ _ | refine Out.upd ?_ rfl | refine Out.updL ?_ rfl | refine Out.mix' ?_ rfl | exact Out.refl _ _)), rfl, rfl, trivial⟩, ch447, hs364, hm⟩
          ·
            replace hm := bif_f hm hg451
            refine Rg_opx rfl (asB_ne rfl rfl) rfl ?_
            refine Rg_opx rfl (asB_ne rfl rfl) rfl ?_
            refine Rg_op rfl (op_pick_f (v := (Value.bool false)) rfl rfl ?_)
            refine Rg_op rfl (op_move (v := (Value.bool false)) rfl ?_)
            refine Rg_opx rfl (asB_ne rfl rfl) rfl ?_
            refine Rg_opx rfl (asB_ne rfl rfl) rfl ?_
            refine Rg_op rfl (op_pick_f (v := (Value.bool false)) rfl rfl ?_)
            refine Rg_op rfl (op_move (v := (Value.bool false)) rfl ?_)
            refine Rg_opx rfl (asB_ne rfl rfl) rfl ?_
            refine Rg_opx rfl (asB_ne rfl rfl) rfl ?_
            refine Rg_op rfl (op_pick_f (v := (Value.bool false)) rfl rfl ?_)
            refine Rg_op rfl (op_move (v := (Value.bool false)) rfl ?_)
            refine Rg_opx rfl (asB_ne rfl rfl) rfl ?_
            refine Rg_opx rfl (asB_ne rfl rfl) rfl ?_
            refine Rg_op rfl (op_pick_f (v := (Value.bool false)) rfl rfl ?_)
            refine Rg_op rfl (op_move (v := (Value.bool false)) rfl ?_)
            refine Rg_opx rfl (asB_ne rfl rfl) rfl ?_
            refine Rg_opx rfl (asB_ne rfl rfl) rfl ?_
            refine Rg_opx rfl (asB_ne rfl rfl) rfl ?_
            refine Rg_op rfl (op_pick_f (v := (Value.bool false)) rfl rfl ?_)
            refine Rg_op rfl (op_move (v := (Value.bool false)) rfl ?_)
            refine Rg_opx rfl (asB_ne rfl rfl) rfl ?_
            refine Rg_opx rfl (asB_ne rfl rfl) rfl ?_
            refine Rg_op rfl (op_pick_f (v := (Value.bool false)) rfl rfl ?_)
            refine Rg_op rfl (op_move (v := (Value.bool false)) rfl ?_)
            refine Rg_opx rfl (asB_ne rfl rfl) rfl ?_
            refine Rg_opx rfl (asB_ne rfl rfl) rfl ?_
            refine Rg_opx rfl (asB_ne rfl rfl) rfl ?_
            refine Rg_opx rfl (asB_ne rfl rfl) rfl ?_
            refine Rg_opx rfl (asB_ne rfl rfl) rfl ?_
            refine Rg_op rfl (op_pick_f (v := (Value.bool false)) rfl rfl ?_)
            refine Rg_op rfl (op_assign (v := (Value.bool false)) rfl ?_)
            refine Rg_nil ?_
            exact hK376 _ _ ⟨false, _, rfl, ⟨(by repeat (first | with_reducible exact Out.refl _ _ | refine Out.upd ?_ rfl | refine Out.updL ?_ rfl | refine Out.mix' ?_ rfl | exact Out.refl _ _)), rfl, rfl, trivial⟩, ch447, hs364, hm⟩
        ·
          replace hm := bif_f hm hg450
          refine Rg_opx rfl (asB_ne rfl rfl) rfl ?_
          refine Rg_opx rfl (asB_ne rfl rfl) rfl ?_
          refine Rg_op rfl (op_pick_f (v := (Value.bool false)) rfl rfl ?_)
          refine Rg_op rfl (op_move (v := (Value.bool false)) rfl ?_)
          refine Rg_opx rfl (asB_ne rfl rfl) rfl ?_
          refine Rg_opx rfl (asB_ne rfl rfl) rfl ?_
          refine Rg_op rfl (op_pick_f (v := (Value.bool false)) rfl rfl ?_)
          refine Rg_op rfl (op_move (v := (Value.bool false)) rfl ?_)
          refine Rg_opx rfl (asB_ne rfl rfl) rfl ?_
          refine Rg_opx rfl (asB_ne rfl rfl) rfl ?_
          refine Rg_op rfl (op_pick_f (v := (Value.bool false)) rfl rfl ?_)
          refine Rg_op rfl (op_move (v := (Value.bool false)) rfl ?_)
          refine Rg_opx rfl (asB_ne rfl rfl) rfl ?_
          refine Rg_opx rfl (asB_ne rfl rfl) rfl ?_
          refine Rg_op rfl (op_pick_f (v := (Value.bool false)) rfl rfl ?_)
          refine Rg_op rfl (op_move (v := (Value.bool false)) rfl ?_)
          refine Rg_opx rfl (asB_ne rfl rfl) rfl ?_
          refine Rg_opx rfl (asB_ne rfl rfl) rfl ?_
          refine Rg_op rfl (op_pick_f (v := (Value.bool false)) rfl rfl ?_)
          refine Rg_op rfl (op_move (v := (Value.bool false)) rfl ?_)
          refine Rg_opx rfl (asB_ne rfl rfl) rfl ?_
          refine Rg_opx rfl (asB_ne rfl rfl) rfl ?_
          refine Rg_opx rfl (asB_ne rfl rfl) rfl ?_
          refine Rg_op rfl (op_pick_f (v := (Value.bool false)) rfl rfl ?_)
          refine Rg_op rfl (op_move (v := (Value.bool false)) rfl ?_)
          refine Rg_opx rfl (asB_ne rfl rfl) rfl ?_
          refine Rg_opx rfl (asB_ne rfl rfl) rfl ?_
          refine Rg_op rfl (op_pick_f (v := (Value.bool false)) rfl rfl ?_)
          refine Rg_op rfl (op_move (v := (Value.bool false)) rfl ?_)
          refine Rg_opx rfl (asB_ne rfl rfl) rfl ?_
          refine Rg_opx rfl (asB_ne rfl rfl) rfl ?_
          refine Rg_opx rfl (asB_ne rfl rfl) rfl ?_
          refine Rg_opx rfl (asB_ne rfl rfl) rfl ?_
          refine Rg_opx rfl (asB_ne rfl rfl) rfl ?_
          refine Rg_op rfl (op_pick_f (v := (Value.bool false)) rfl rfl ?_)
          refine Rg_op rfl (op_assign (v := (Value.bool false)) rfl ?_)
          refine Rg_nil ?_
          exact hK376 _ _ ⟨false, _, rfl, ⟨(by repeat (first | with_reducible exact Out.refl _ _ | refine Out.upd ?_ rfl | refine Out.updL ?_ rfl | refine Out.mix' ?_ rfl | exact Out.refl _ _)), rfl, rfl, trivial⟩, ch447, hs364, hm⟩
      ·
        replace hm := bif_f hm hg449
        refine Rg_opx rfl (asB_ne rfl rfl) rfl ?_
        refine Rg_opx rfl (asB_ne rfl rfl) rfl ?_
        refine Rg_op rfl (op_pick_f (v := (Value.bool false)) rfl rfl ?_)
        refine Rg_op rfl (op_move (v := (Value.bool false)) rfl ?_)
        refine Rg_opx rfl (asB_ne rfl rfl) rfl ?_
        refine Rg_opx rfl (asB_ne rfl rfl) rfl ?_
        refine Rg_op rfl (op_pick_f (v := (Value.bool false)) rfl rfl ?_)
        refine Rg_op rfl (op_move (v := (Value.bool false)) rfl ?_)
        refine Rg_opx rfl (asB_ne rfl rfl) rfl ?_
        refine Rg_opx rfl (asB_ne rfl rfl) rfl ?_
        refine Rg_op rfl (op_pick_f (v := (Value.bool false)) rfl rfl ?_)
        refine Rg_op rfl (op_move (v := (Value.bool false)) rfl ?_)
        refine Rg_opx rfl (asB_ne rfl rfl) rfl ?_
        refine Rg_opx rfl (asB_ne rfl rfl) rfl ?_
        refine Rg_op rfl (op_pick_f (v := (Value.bool false)) rfl rfl ?_)
        refine Rg_op rfl (op_move (v := (Value.bool false)) rfl ?_)
        refine Rg_opx rfl (asB_ne rfl rfl) rfl ?_
        refine Rg_opx rfl (asB_ne rfl rfl) rfl ?_
        refine Rg_op rfl (op_pick_f (v := (Value.bool false)) rfl rfl ?_)
        refine Rg_op rfl (op_move (v := (Value.bool false)) rfl ?_)
        refine Rg_opx rfl (asB_ne rfl rfl) rfl ?_
        refine Rg_opx rfl (asB_ne rfl rfl) rfl ?_
        refine Rg_op rfl (op_pick_f (v := (Value.bool false)) rfl rfl ?_)
        refine Rg_op rfl (op_move (v := (Value.bool false)) rfl ?_)
        refine Rg_opx rfl (asB_ne rfl rfl) rfl ?_
        refine Rg_opx rfl (asB_ne rfl rfl) rfl ?_
        refine Rg_opx rfl (asB_ne rfl rfl) rfl ?_
        refine Rg_op rfl (op_pick_f (v := (Value.bool false)) rfl rfl ?_)
        refine Rg_op rfl (op_move (v := (Value.bool false)) rfl ?_)
        refine Rg_opx rfl (asB_ne rfl rfl) rfl ?_
        refine Rg_opx rfl (asB_ne rfl rfl) rfl ?_
        refine Rg_op rfl (op_pick_f (v := (Value.bool false)) rfl rfl ?_)
        refine Rg_op rfl (op_move (v := (Value.bool false)) rfl ?_)
        refine Rg_opx rfl (asB_ne rfl rfl) rfl ?_
        refine Rg_opx rfl (asB_ne rfl rfl) rfl ?_
        refine Rg_opx rfl (asB_ne rfl rfl) rfl ?_
        refine Rg_opx rfl (asB_ne rfl rfl) rfl ?_
        refine Rg_opx rfl (asB_ne rfl rfl) rfl ?_
        refine Rg_op rfl (op_pick_f (v := (Value.bool false)) rfl rfl ?_)
        refine Rg_op rfl (op_assign (v := (Value.bool false)) rfl ?_)
        refine Rg_nil ?_
        exact hK376 _ _ ⟨false, _, rfl, ⟨(by repeat (first | with_reducible exact Out.refl _ _ | refine Out.upd ?_ rfl | refine Out.updL ?_ rfl | refine Out.mix' ?_ rfl | exact Out.refl _ _)), rfl, rfl, trivial⟩, ch447, hs364, hm⟩
    ·
      replace hm := bif_f hm hg448
      refine Rg_opx rfl (asB_ne rfl rfl) rfl ?_
      refine Rg_opx rfl (asB_ne rfl rfl) rfl ?_
      refine Rg_op rfl (op_pick_f (v := (Value.bool false)) rfl rfl ?_)
      refine Rg_op rfl (op_move (v := (Value.bool false)) rfl ?_)
      refine Rg_opx rfl (asB_ne rfl rfl) rfl ?_
      refine Rg_opx rfl (asB_ne rfl rfl) rfl ?_
      refine Rg_op rfl (op_pick_f (v := (Value.bool false)) rfl rfl ?_)
      refine Rg_op rfl (op_move (v := (Value.bool false)) rfl ?_)
      refine Rg_opx rfl (asB_ne rfl rfl) rfl ?_
      refine Rg_opx rfl (asB_ne rfl rfl) rfl ?_
      refine Rg_op rfl (op_pick_f (v := (Value.bool false)) rfl rfl ?_)
      refine Rg_op rfl (op_move (v := (Value.bool false)) rfl ?_)
      refine Rg_opx rfl (asB_ne rfl rfl) rfl ?_
      refine Rg_opx rfl (asB_ne rfl rfl) rfl ?_
      refine Rg_op rfl (op_pick_f (v := (Value.bool false)) rfl rfl ?_)
      refine Rg_op rfl (op_move (v := (Value.bool false)) rfl ?_)
      refine Rg_opx rfl (asB_ne rfl rfl) rfl ?_
      refine Rg_opx rfl (asB_ne rfl rfl) rfl ?_
      refine Rg_op rfl (op_pick_f (v := (Value.bool false)) rfl rfl ?_)
      refine Rg_op rfl (op_move (v := (Value.bool false)) rfl ?_)
      refine Rg_opx rfl (asB_ne rfl rfl) rfl ?_
      refine Rg_opx rfl (asB_ne rfl rfl) rfl ?_
      refine Rg_op rfl (op_pick_f (v := (Value.bool false)) rfl rfl ?_)
      refine Rg_op rfl (op_move (v := (Value.bool false)) rfl ?_)
      refine Rg_opx rfl (asB_ne rfl rfl) rfl ?_
      refine Rg_opx rfl (asB_ne rfl rfl) rfl ?_
      refine Rg_op rfl (op_pick_f (v := (Value.bool false)) rfl rfl ?_)
      refine Rg_op rfl (op_move (v := (Value.bool false)) rfl ?_)
      refine Rg_opx rfl (asB_ne rfl rfl) rfl ?_
      refine Rg_opx rfl (asB_ne rfl rfl) rfl ?_
      refine Rg_opx rfl (asB_ne rfl rfl) rfl ?_
      refine Rg_op rfl (op_pick_f (v := (Value.bool false)) rfl rfl ?_)
      refine Rg_op rfl (op_move (v := (Value.bool false)) rfl ?_)
      refine Rg_opx rfl (asB_ne rfl rfl) rfl ?_
      refine Rg_opx rfl (asB_ne rfl rfl) rfl ?_
      refine Rg_op rfl (op_pick_f (v := (Value.bool false)) rfl rfl ?_)
      refine Rg_op rfl (op_move (v := (Value.bool false)) rfl ?_)
      refine Rg_opx rfl (asB_ne rfl rfl) rfl ?_
      refine Rg_opx rfl (asB_ne rfl rfl) rfl ?_
      refine Rg_opx rfl (asB_ne rfl rfl) rfl ?_
      refine Rg_opx rfl (asB_ne rfl rfl) rfl ?_
      refine Rg_opx rfl (asB_ne rfl rfl) rfl ?_
      refine Rg_op rfl (op_pick_f (v := (Value.bool false)) rfl rfl ?_)
      refine Rg_op rfl (op_assign (v := (Value.bool false)) rfl ?_)
      refine Rg_nil ?_
      exact hK376 _ _ ⟨false, _, rfl, ⟨(by repeat (first | with_reducible exact Out.refl _ _ | refine Out.upd ?_ rfl | refine Out.updL ?_ rfl | refine Out.mix' ?_ rfl | exact Out.refl _ _)), rfl, rfl, trivial⟩, ch447, hs364, hm⟩

end Go.Fx


set_option linter.unusedVariables false
set_option linter.unusedSimpArgs false
set_option maxRecDepth 100000
set_option maxHeartbeats 0
namespace Go.Fx
open Go Go.RowKit Go.Proofs
def m20_overflightref06_Few_B0 (l : List (List Int)) (sf3 : Int → Option Bool) (i_1 : Int) : Option Bool :=
  bif (decide (i_1 < (l.length : Int))) then
    ck ((0 : Int) ≤ i_1 ∧ i_1 < (l.length : Int)) <|
    bif (decide (20 < ((l.getD i_1.toNat default).length : Int))) then
      some false
    else
      sf3 (IntKind.wrap .i64 (i_1 + 1))
  else
    some (decide ((l.length : Int) ≤ 30))

def m20_overflightref06_Few (l : List (List Int)) : Option Bool :=
  loop1 (m20_overflightref06_Few_B0 l) (((l.length : Int) - 0).toNat + 1) 0

theorem c20_overflightref06_Few {w : World} {O : List Nat} {l : List (List Int)} {a_l : Option Addr} {c_l : Nat} (hO : ∀ k ∈ O, k < w.heap.size) (f_l : SlR (rSl (rInt .i64)) w O a_l c_l l) {x : Bool} (hm : m20_overflightref06_Few l = some x) :
    Ok Try.prog 20 [(Value.slice a_l l.length c_l)] w O vB x := by
  unfold m20_overflightref06_Few at hm
  refine Fn_of_Wp (n := 19) (xs := [.tmp 2]) Try.func20 rfl Try.ntmps20 Try.results20 rfl ?_
  have hs := St.start hO
  refine Wp_seq ?_
  refine Wp_region ?_  -- 0 ref.go:194
  refine Rg_op rfl (op_assign (v := (Value.bool false)) rfl ?_)
  refine Rg_nil ?_
  refine Wp_seq ?_
  refine Wp_seq ?_
  refine Wp_region ?_  -- 1 ref.go:195
  refine Rg_op rfl (op_assign (v := (Value.int .i64 0)) rfl ?_)
  refine Rg_nil ?_
  refine Wp_block ?_
  refine Wp_reset [] [(0, (Value.slice a_l l.length c_l)), (3, (Value.int .i64 0))] rfl ⟨rfl, rfl, trivial⟩ fun ξ2 => ?_
  refine Wp_loopM [2, 3, 4, 5, 6, 7, 8, 9, 10, 11, 12, 13, 14, 15] (fun m fr w' => ∃ (i_1 : Int) (Ebs : Ents), Ebs = [] ∧ fr [] [(3, (Value.int .i64 i_1))] ∧ Step (ks [] O) w (ks Ebs O) w' ∧ St ⟨w, [], []⟩ O w' Ebs ∧ InK .i64 i_1 ∧ loop1 (m20_overflightref06_Few_B0 l) m i_1 = some x) (((l.length : Int) - 0).toNat + 1) ⟨0, _, rfl, ⟨Out.refl _ _, rfl, rfl, trivial⟩, Step.refl _ _, hs, (show InK .i64 0 from by decide), hm⟩ ?_ ?_
  · rintro _ _ ⟨_, _, _, _, _, _, _, hm⟩; exact loop1_z hm
  · rintro m6 K5 hK5 ρ11 w7 ⟨i_1, Ebs, hEbs, hfr10, hst9, hs8, r_y1, hm⟩
    obtain ⟨sf3, hsf4, hm⟩ := loop1_s hm; unfold m20_overflightref06_Few_B0 at hm
    subst hEbs; rw [hfr10.eq]; clear hfr10
    replace f_l := f_l.step hst9
    have ch12 := hst9
    refine Wp_seq ?_
    refine Wp_seq ?_
    refine Wp_region ?_  -- 2 ref.go:195
    refine Rg_op rfl (op_move (v := (Value.int .i64 i_1)) rfl ?_)
    refine Rg_op rfl (op_move (v := (Value.slice a_l l.length c_l)) rfl ?_)
    refine Rg_op rfl (op_len Try.underlying33 rfl ?_)
    refine Rg_op rfl (op_lss rfl rfl ?_)
    refine Rg_nil ?_
    refine Wp_cond rfl (fun hc13 => ?_) (fun hc13 => ?_)
    ·
      replace hm := bif_t hm hc13
      refine Wp_skip ?_
      refine Wp_seq ?_
      refine Wp_block ?_
      refine Wp_seq ?_
      refine Wp_region ?_  -- 4 ref.go:196
      refine Rg_op rfl (op_move (v := (Value.slice a_l l.length c_l)) rfl ?_)
      refine Rg_op rfl (op_move (v := (Value.int .i64 i_1)) rfl ?_)
      replace hm := ck_some hm; obtain ⟨hc14, hm⟩ := hm
      refine Rg_op rfl (op_indexAddr (q := (rSl (rInt .i64))) ty33 ty22 rfl rfl f_l rfl hc14.1 hc14.2 ?_)
      intro p15 f16
      refine Rg_op rfl (op_loadP ty22 rfl f16 rfl ?_)
      intro v17 h18
      obtain ⟨a_y19, c_y19, rfl, f_y19⟩ := un_sl h18
      refine Rg_op rfl (op_len Try.underlying22 rfl ?_)
      refine Rg_op rfl (op_gtr rfl rfl ?_)
      refine Rg_nil ?_
      refine Wp_cond rfl (fun hc20 => ?_) (fun hc20 => ?_)
      ·
        replace hm := bif_t hm hc20
        refine Wp_seq ?_
        clear f_l f16 f_y19
        refine Wp_region ?_  -- 5 ref.go:197
        refine Rg_op rfl (op_assign (v := (Value.bool false)) rfl ?_)
        refine Rg_nil ?_
        refine Wp_ret ?_
        have hz := step_all hs8
        refine ⟨_, (show Closes [] _ _ from rfl), [(Value.bool false)], ⟨rfl, trivial⟩, hs8.ext, ?_⟩
        exact Vr.eq (a := vB) (x := false) rfl (Option.some.inj hm)
      ·
        replace hm := bif_f hm hc20
        refine Wp_skip ?_
        clear f16 f_y19
        refine Wp_region ?_  -- 3 ref.go:195
        refine Rg_op rfl (op_move (v := (Value.int .i64 i_1)) rfl ?_)
        refine Rg_op rfl (op_addw rfl rfl ?_)
        refine Rg_op rfl (op_assign (v := (Value.int .i64 (IntKind.wrap .i64 (i_1 + 1)))) rfl ?_)
        refine Rg_nil ?_
        exact hK5 _ _ ⟨(IntKind.wrap .i64 (i_1 + 1)), _, rfl, ⟨(by repeat (first | with_reducible exact Out.refl _ _ | refine Out.upd ?_ rfl | refine Out.updL ?_ rfl | refine Out.mix' ?_ rfl | exact Out.refl _ _)), rfl, rfl, trivial⟩, ch12, hs8, (inK_wrap .i64 _), jnE1 hsf4 hm⟩
    ·
      replace hm := bif_f hm hc13
      refine Wp_exit ?_
      refine Wp_seq ?_
      refine Wp_region ?_  -- 6 ref.go:200
      refine Rg_op rfl (op_move (v := (Value.slice a_l l.length c_l)) rfl ?_)
      refine Rg_op rfl (op_len Try.underlying33 rfl ?_)
      refine Rg_op rfl (op_leq rfl rfl ?_)
      refine Rg_op rfl (op_assign (v := (Value.bool (decide ((l.length : Int) ≤ 30)))) rfl ?_)
      refine Rg_nil ?_
      refine Wp_ret ?_
      have hz := step_all hs8
      replace f_l := f_l.step hz
      refine ⟨_, (show Closes [] _ _ from rfl), [(Value.bool (decide ((l.length : Int) ≤ 30)))], ⟨rfl, trivial⟩, hs8.ext, ?_⟩
      exact Vr.eq (a := vB) (x := (decide ((l.length : Int) ≤ 30))) rfl (Option.some.inj hm)

end Go.Fx


set_option linter.unusedVariables false
set_option linter.unusedSimpArgs false
set_option maxRecDepth 100000
set_option maxHeartbeats 0
namespace Go.Fx
open Go Go.RowKit Go.Proofs
def m10_overflightlaw06_VectorAgain (l : List (List Int)) (at_ : UInt8) : Option Bool :=
  (m11_overflightlaw06_sane).bind fun sane_1 =>
  bif (!sane_1) then
    some false
  else
    jn (fun (v_1 : Bool) =>
      bif v_1 then
        some true
      else
        (m21_vector_Least l).bind fun least_1 =>
        (m21_vector_Least least_1.1).bind fun least_2 =>
        ck (((l.length : Int) : Int) ≠ 0) <|
        ck ((0 : Int) ≤ ((at_.toNat : Int).tmod (l.length : Int)) ∧ ((at_.toNat : Int).tmod (l.length : Int)) ≤ (l.length : Int)) <|
        ck ((([] : List (List Int)).length + ((l.drop ((at_.toNat : Int).tmod (l.length : Int)).toNat).take (l.length - ((at_.toNat : Int).tmod (l.length : Int)).toNat)).length) * 24 ≤ 140737488355328) <|
        ck (((([] : List (List Int)) ++ ((l.drop ((at_.toNat : Int).tmod (l.length : Int)).toNat).take (l.length - ((at_.toNat : Int).tmod (l.length : Int)).toNat))).length + l.length) * 24 ≤ 140737488355328) <|
        (m21_vector_Least ((([] : List (List Int)) ++ ((l.drop ((at_.toNat : Int).tmod (l.length : Int)).toNat).take (l.length - ((at_.toNat : Int).tmod (l.length : Int)).toNat))) ++ l)).bind fun least_3 =>
        bif (decide (least_1.2 ≠ 0)) then
          some (decide (least_3.2 = least_1.2))
        else
          jn (fun (v_2 : Bool) =>
            some v_2)
          (fun k102 =>
            bif (decide (least_2.2 = 0)) then
              bif (decide (least_3.2 = 0)) then
                (m27_overflightref06_SameList least_1.1 least_2.1).bind fun samelist_1 =>
                bif samelist_1 then
                  (m27_overflightref06_SameList least_1.1 least_3.1).bind fun samelist_2 =>
                  k102 samelist_2
                else
                  k102 false
              else
                k102 false
            else
              k102 false))
    (fun k12 =>
      (m20_overflightref06_Few l).bind fun few_1 =>
      bif (!few_1) then
        k12 true
      else
        k12 (decide ((l.length : Int) = 0)))

theorem c10_overflightlaw06_VectorAgain {w : World} {O : List Nat} {l : List (List Int)} {at_ : UInt8} {a_l : Option Addr} {c_l : Nat} (hO : ∀ k ∈ O, k < w.heap.size) (f_l : SlR (rSl (rInt .i64)) w O a_l c_l l) {x : Bool} (hm : m10_overflightlaw06_VectorAgain l at_ = some x) :
    Ok Try.prog 10 [(Value.slice a_l l.length c_l), (Value.int .u8 (at_.toNat : Int))] w O vB x := by
  unfold m10_overflightlaw06_VectorAgain at hm
  refine Fn_of_Wp (n := 71) (xs := [.tmp 4]) Try.func10 rfl Try.ntmps10 Try.results10 rfl ?_
  have hs := St.start hO
  refine Wp_seq ?_
  refine Wp_region ?_  -- 0 law.go:200
  refine Rg_op rfl (op_assign (v := (Value.bool false)) rfl ?_)
  refine Rg_nil ?_
  refine Wp_seq ?_
  refine Wp_seq ?_
  refine Wp_region ?_  -- 1 law.go:201
  replace hm := bd hm; obtain ⟨sane_1, hv1, hm⟩ := hm
  refine Rg_op rfl (op_call Try.call11 (c11_overflightlaw06_sane  hs.ltw  hv1) rfl ?_)
  rintro v2 w3 ⟨hx4, h5⟩
  have hs6 := hs.call hx4
  have p7 := Step.ext (O := ks [] O) hx4
  clear hx4
  replace f_l := f_l.step p7
  clear p7
  obtain rfl := h5
  refine Rg_op rfl (op_not rfl ?_)
  refine Rg_nil ?_
  refine Wp_cond rfl (fun hc9 => ?_) (fun hc9 => ?_)
  ·
    replace hm := bif_t hm hc9
    refine Wp_seq ?_
    clear f_l
    refine Wp_region ?_  -- 2 law.go:202
    refine Rg_op rfl (op_assign (v := (Value.bool false)) rfl ?_)
    refine Rg_nil ?_
    refine Wp_ret ?_
    have hz := step_all hs6
    refine ⟨_, (show Closes [] _ _ from rfl), [(Value.bool false)], ⟨rfl, trivial⟩, hs6.ext, ?_⟩
    exact Vr.eq (a := vB) (x := false) rfl (Option.some.inj hm)
  ·
    replace hm := bif_f hm hc9
    refine Wp_skip ?_
    refine Wp_seq ?_
    refine Wp_reset [] [(0, (Value.slice a_l l.length c_l)), (1, (Value.int .u8 (at_.toNat : Int)))] rfl ⟨rfl, rfl, trivial⟩ fun ξ10 => ?_
    replace hm := jn_elim hm; obtain ⟨k12, hk13, hm⟩ := hm
    refine Wp_seqJ [15, 16, 17, 18, 19, 20, 21, 22] (fun fr w' => ∃ (v_1 : Bool) (Ebs : Ents), Ebs = [] ∧ fr [] [(22, (Value.bool v_1))] ∧ Step (ks [] O) w3 (ks Ebs O) w' ∧ St ⟨w, [], []⟩ O w' Ebs ∧ k12 v_1 = some x) ?_ ?_
    ·
      rintro ρ19 w15 ⟨v_1, Ebs, hEbs, hfr18, hst17, hs16, hm⟩
      replace hm := jnE1 hk13 hm
      subst hEbs; rw [hfr18.eq]; clear hfr18
      replace f_l := f_l.step hst17
      clear hst17 hs6
      refine Wp_cond rfl (fun hc20 => ?_) (fun hc20 => ?_)
      ·
        replace hm := bif_t hm hc20
        refine Wp_seq ?_
        clear f_l
        refine Wp_region ?_  -- 4 law.go:205
        refine Rg_op rfl (op_assign (v := (Value.bool true)) rfl ?_)
        refine Rg_nil ?_
        refine Wp_ret ?_
        have hz := step_all hs16
        refine ⟨_, (show Closes [] _ _ from rfl), [(Value.bool true)], ⟨rfl, trivial⟩, hs16.ext, ?_⟩
        exact Vr.eq (a := vB) (x := true) rfl (Option.some.inj hm)
      ·
        replace hm := bif_f hm hc20
        refine Wp_skip ?_
        refine Wp_seq ?_
        refine Wp_region ?_  -- 5 law.go:207
        refine Rg_op rfl (op_move (v := (Value.slice a_l l.length c_l)) rfl ?_)
        replace hm := bd hm; obtain ⟨least_1, hv21, hm⟩ := hm
        refine Rg_op rfl (op_call Try.call21 (c21_vector_Least (l := l) hs16.ltw f_l hv21) rfl ?_)
        rintro v22 w23 ⟨hx24, h25⟩
        have hs26 := hs16.call hx24
        have p27 := Step.ext (O := ks [] O) hx24
        clear hx24
        replace f_l := f_l.step p27
        clear p27 hs16
        obtain ⟨v28, v29, rfl, h30, h31⟩ := h25
        obtain ⟨a_y32, c_y32, rfl, f_y32⟩ := un_sl h30
        obtain ⟨rfl, r_y33⟩ := h31
        refine Rg_op rfl (op_move (v := (Value.tuple [(Value.slice a_y32 least_1.1.length c_y32), (Value.int .i64 least_1.2)].toArray)) rfl ?_)
        refine Rg_op rfl (op_extract (v := (Value.slice a_y32 least_1.1.length c_y32)) rfl rfl ?_)
        refine Rg_op rfl (op_extract (v := (Value.int .i64 least_1.2)) rfl rfl ?_)
        refine Rg_op rfl (op_assign (v := (Value.slice a_y32 least_1.1.length c_y32)) rfl ?_)
        refine Rg_op rfl (op_assign (v := (Value.int .i64 least_1.2)) rfl ?_)
        refine Rg_nil ?_
        refine Wp_seq ?_
        refine Wp_region ?_  -- 6 law.go:208
        refine Rg_op rfl (op_move (v := (Value.slice a_y32 least_1.1.length c_y32)) rfl ?_)
        replace hm := bd hm; obtain ⟨least_2, hv34, hm⟩ := hm
        refine Rg_op rfl (op_call Try.call21 (c21_vector_Least (l := least_1.1) hs26.ltw f_y32 hv34) rfl ?_)
        rintro v35 w36 ⟨hx37, h38⟩
        have hs39 := hs26.call hx37
        have p40 := Step.ext (O := ks [] O) hx37
        clear hx37
        replace f_l := f_l.step p40
        replace f_y32 := f_y32.step p40
        clear p40 hs26
        obtain ⟨v41, v42, rfl, h43, h44⟩ := h38
        obtain ⟨a_y45, c_y45, rfl, f_y45⟩ := un_sl h43
        obtain ⟨rfl, r_y46⟩ := h44
        refine Rg_op rfl (op_move (v := (Value.tuple [(Value.slice a_y45 least_2.1.length c_y45), (Value.int .i64 least_2.2)].toArray)) rfl ?_)
        refine Rg_op rfl (op_extract (v := (Value.slice a_y45 least_2.1.length c_y45)) rfl rfl ?_)
        refine Rg_op rfl (op_extract (v := (Value.int .i64 least_2.2)) rfl rfl ?_)
        refine Rg_op rfl (op_assign (v := (Value.slice a_y45 least_2.1.length c_y45)) rfl ?_)
        refine Rg_op rfl (op_assign (v := (Value.int .i64 least_2.2)) rfl ?_)
        refine Rg_nil ?_
        refine Wp_seq ?_
        refine Wp_region ?_  -- 7 law.go:209
        refine Rg_op rfl (op_move (v := (Value.int .u8 (at_.toNat : Int))) rfl ?_)
        refine Rg_op rfl (op_conv_u8 Try.underlying5 Try.underlying3 rfl (by decide) ?_)
        refine Rg_op rfl (op_move (v := (Value.slice a_l l.length c_l)) rfl ?_)
        refine Rg_op rfl (op_len Try.underlying33 rfl ?_)
        replace hm := ck_some hm; obtain ⟨hc47, hm⟩ := hm
        refine Rg_op rfl (op_rem rfl rfl hc47 ?_)
        refine Rg_op rfl (op_assign (v := (Value.int .i64 ((at_.toNat : Int).tmod (l.length : Int)))) rfl ?_)
        refine Rg_nil ?_
        refine Wp_seq ?_
        refine Wp_region ?_  -- 8 law.go:210
        refine Rg_op rfl (op_buildSlice (cs := []) (parts := []) ty33 ty22 hs39 (by decide) rfl ?_)
        intro b48 w49 hx52 p50 hs51
        replace f_l := f_l.step p50
        replace f_y32 := f_y32.step p50
        replace f_y45 := f_y45.step p50
        clear p50 hs39
        refine Rg_op rfl (op_move (v := (Value.slice a_l l.length c_l)) rfl ?_)
        refine Rg_op rfl (op_move (v := (Value.int .i64 ((at_.toNat : Int).tmod (l.length : Int)))) rfl ?_)
        replace hm := ck_some hm; obtain ⟨hc54, hm⟩ := hm
        refine Rg_op rfl (op_slice (q := (rSl (rInt .i64))) (l := ((at_.toNat : Int).tmod (l.length : Int)).toNat) (h := l.length) (m := c_l) ty33 ty22 rfl f_l rfl (bndI rfl (by omega)) rfl rfl (by decide) (by omega) (by omega) (by have := f_l.le; omega) (by have := f_l.le; omega) ?_)
        intro a55 f56
        have f57 := Gs.of_cells (p := (rSl (rInt .i64))) (e := 22) (bl := b48) (c := 0) (w := w49) (O := ks [(some b48, Obj.cells [].toArray 22)] O) (show Els (rSl (rInt .i64)) _ _ [] [] from Els.nil) rfl (le_lit rfl)
        replace hm := ck_some hm; obtain ⟨hc58, hm⟩ := hm
        obtain ⟨ns59, he60, hr61⟩ := f56.src
        refine Rg_op rfl (op_append (q := (rSl (rInt .i64))) (i := 0) (xs := ([] : List (List Int))) (ys := ((l.drop ((at_.toNat : Int).tmod (l.length : Int)).toNat).take (l.length - ((at_.toNat : Int).tmod (l.length : Int)).toNat))) (news := ns59) ty33 ty22 rfl (by decide) hs51 rfl rfl f57 rfl hr61 he60 hc58 (by have := hc58; simp only [maxLen]; omega) ?_)
        intro a65 c66 k67 o68 w62 p63 hs64 f69
        replace f_l := f_l.step p63
        replace f_y32 := f_y32.step p63
        replace f_y45 := f_y45.step p63
        replace f56 := f56.step p63
        clear p63 hs51
        refine Rg_op rfl (op_move (v := (Value.slice a_l l.length c_l)) rfl ?_)
        replace hm := ck_some hm; obtain ⟨hc70, hm⟩ := hm
        obtain ⟨ns71, he72, hr73⟩ := f_l.src
        refine Rg_op rfl (op_append (q := (rSl (rInt .i64))) (i := 0) (xs := (([] : List (List Int)) ++ ((l.drop ((at_.toNat : Int).tmod (l.length : Int)).toNat).take (l.length - ((at_.toNat : Int).tmod (l.length : Int)).toNat)))) (ys := l) (news := ns71) ty33 ty22 rfl (by decide) hs64 rfl rfl f69 rfl hr73 he72 hc70 (by have := hc70; simp only [maxLen]; omega) ?_)
        intro a77 c78 k79 o80 w74 p75 hs76 f81
        replace f_l := f_l.step p75
        replace f_y32 := f_y32.step p75
        replace f_y45 := f_y45.step p75
        replace f56 := f56.step p75
        clear p75 hs64
        refine Rg_op rfl (op_assign (v := (Value.slice a77 ((([] : List (List Int)) ++ ((l.drop ((at_.toNat : Int).tmod (l.length : Int)).toNat).take (l.length - ((at_.toNat : Int).tmod (l.length : Int)).toNat))) ++ l).length c78)) rfl ?_)
        refine Rg_nil ?_
        refine Wp_seq ?_
        clear f_l f56
        refine Wp_reset [] [(5, (Value.slice a_y32 least_1.1.length c_y32)), (6, (Value.int .i64 least_1.2)), (7, (Value.slice a_y45 least_2.1.length c_y45)), (8, (Value.int .i64 least_2.2)), (10, (Value.slice a77 ((([] : List (List Int)) ++ ((l.drop ((at_.toNat : Int).tmod (l.length : Int)).toNat).take (l.length - ((at_.toNat : Int).tmod (l.length : Int)).toNat))) ++ l).length c78))] rfl ⟨rfl, rfl, rfl, rfl, rfl, trivial⟩ fun ξ82 => ?_
        refine Wp_region ?_  -- 9 law.go:211
        refine Rg_op rfl (op_move (v := (Value.slice a77 ((([] : List (List Int)) ++ ((l.drop ((at_.toNat : Int).tmod (l.length : Int)).toNat).take (l.length - ((at_.toNat : Int).tmod (l.length : Int)).toNat))) ++ l).length c78)) rfl ?_)
        obtain ⟨hs84, p85, f83⟩ := Gs.publish (i := 0) hs76 rfl f81
        replace f_y32 := f_y32.step p85
        replace f_y45 := f_y45.step p85
        clear p85 hs76
        replace hm := bd hm; obtain ⟨least_3, hv86, hm⟩ := hm
        refine Rg_op rfl (op_call Try.call21 (c21_vector_Least (l := ((([] : List (List Int)) ++ ((l.drop ((at_.toNat : Int).tmod (l.length : Int)).toNat).take (l.length - ((at_.toNat : Int).tmod (l.length : Int)).toNat))) ++ l)) hs84.ltw f83 hv86) rfl ?_)
        rintro v87 w88 ⟨hx89, h90⟩
        have hs91 := hs84.call hx89
        have p92 := Step.ext (O := ks [] O) hx89
        clear hx89
        replace f_y32 := f_y32.step p92
        replace f_y45 := f_y45.step p92
        replace f83 := f83.step p92
        clear p92 hs84
        obtain ⟨v93, v94, rfl, h95, h96⟩ := h90
        obtain ⟨a_y97, c_y97, rfl, f_y97⟩ := un_sl h95
        obtain ⟨rfl, r_y98⟩ := h96
        refine Rg_op rfl (op_move (v := (Value.tuple [(Value.slice a_y97 least_3.1.length c_y97), (Value.int .i64 least_3.2)].toArray)) rfl ?_)
        refine Rg_op rfl (op_extract (v := (Value.slice a_y97 least_3.1.length c_y97)) rfl rfl ?_)
        refine Rg_op rfl (op_extract (v := (Value.int .i64 least_3.2)) rfl rfl ?_)
        refine Rg_op rfl (op_assign (v := (Value.slice a_y97 least_3.1.length c_y97)) rfl ?_)
        refine Rg_op rfl (op_assign (v := (Value.int .i64 least_3.2)) rfl ?_)
        refine Rg_nil ?_
        refine Wp_seq ?_
        refine Wp_seq ?_
        clear f83
        refine Wp_region ?_  -- 10 law.go:212
        refine Rg_op rfl (op_move (v := (Value.int .i64 least_1.2)) rfl ?_)
        refine Rg_op rfl (op_neq rfl rfl ?_)
        refine Rg_nil ?_
        refine Wp_cond rfl (fun hc99 => ?_) (fun hc99 => ?_)
        ·
          replace hm := bif_t hm hc99
          refine Wp_seq ?_
          clear f_y32 f_y45 f_y97
          refine Wp_region ?_  -- 11 law.go:213
          refine Rg_op rfl (op_move (v := (Value.int .i64 least_3.2)) rfl ?_)
          refine Rg_op rfl (op_move (v := (Value.int .i64 least_1.2)) rfl ?_)
          refine Rg_op rfl (op_eql rfl rfl ?_)
          refine Rg_op rfl (op_assign (v := (Value.bool (decide (least_3.2 = least_1.2)))) rfl ?_)
          refine Rg_nil ?_
          refine Wp_ret ?_
          have hz := step_all hs91
          refine ⟨_, (show Closes [] _ _ from rfl), [(Value.bool (decide (least_3.2 = least_1.2)))], ⟨rfl, trivial⟩, hs91.ext, ?_⟩
          exact Vr.eq (a := vB) (x := (decide (least_3.2 = least_1.2))) rfl (Option.some.inj hm)
        ·
          replace hm := bif_f hm hc99
          refine Wp_skip ?_
          refine Wp_reset [] [(5, (Value.slice a_y32 least_1.1.length c_y32)), (7, (Value.slice a_y45 least_2.1.length c_y45)), (8, (Value.int .i64 least_2.2)), (11, (Value.slice a_y97 least_3.1.length c_y97)), (12, (Value.int .i64 least_3.2))] rfl ⟨rfl, rfl, rfl, rfl, rfl, trivial⟩ fun ξ100 => ?_
          replace hm := jn_elim hm; obtain ⟨k102, hk103, hm⟩ := hm
          refine Wp_seqJ [4, 55, 56, 57, 58, 59, 60, 61, 62, 63, 64, 65, 66, 67, 68, 69, 70] (fun fr w' => ∃ (v_2 : Bool) (Ebs : Ents), Ebs = [] ∧ fr [] [(4, (Value.bool v_2))] ∧ Step (ks [] O) w88 (ks Ebs O) w' ∧ St ⟨w, [], []⟩ O w' Ebs ∧ k102 v_2 = some x) ?_ ?_
          ·
            rintro ρ109 w105 ⟨v_2, Ebs, hEbs, hfr108, hst107, hs106, hm⟩
            replace hm := jnE1 hk103 hm
            subst hEbs; rw [hfr108.eq]; clear hfr108
            replace f_y32 := f_y32.step hst107
            replace f_y45 := f_y45.step hst107
            replace f_y97 := f_y97.step hst107
            clear hst107 hs91
            refine Wp_ret ?_
            have hz := step_all hs106
            replace f_y32 := f_y32.step hz
            replace f_y45 := f_y45.step hz
            replace f_y97 := f_y97.step hz
            refine ⟨_, (show Closes [] _ _ from rfl), [(Value.bool v_2)], ⟨rfl, trivial⟩, hs106.ext, ?_⟩
            exact Vr.eq (a := vB) (x := v_2) rfl (Option.some.inj hm)
          ·
            intro K104 hK104
            have ch110 := Step.refl (ks [] O) w88
            refine Wp_region ?_  -- 12 law.go:215
            refine Rg_op rfl (op_move (v := (Value.int .i64 least_2.2)) rfl ?_)
            refine Rg_op rfl (op_eql rfl rfl ?_)
            refine Rg_op rfl (op_move (v := (Value.bool (decide (least_2.2 = 0)))) rfl ?_)
            refine Rg_case (fun hg111 => ?_) (fun hg111 => ?_)
            ·
              replace hm := bif_t hm hg111
              refine Rg_opg rfl rfl rfl (op_move (v := (Value.int .i64 least_3.2)) rfl ?_)
              refine Rg_opg rfl rfl rfl (op_eql rfl rfl ?_)
              refine Rg_op rfl (op_pick_t (v := (Value.bool (decide (least_3.2 = 0)))) rfl rfl ?_)
              refine Rg_op rfl (op_move (v := (Value.bool (decide (least_3.2 = 0)))) rfl ?_)
              refine Rg_case (fun hg112 => ?_) (fun hg112 => ?_)
              ·
                replace hm := bif_t hm hg112
                refine Rg_opg rfl rfl rfl (op_move (v := (Value.slice a_y32 least_1.1.length c_y32)) rfl ?_)
                refine Rg_opg rfl rfl rfl (op_move (v := (Value.slice a_y45 least_2.1.length c_y45)) rfl ?_)
                replace hm := bd hm; obtain ⟨samelist_1, hv113, hm⟩ := hm
                refine Rg_opg rfl rfl rfl (op_call Try.call27 (c27_overflightref06_SameList (a := least_1.1) (b := least_2.1) hs91.ltw f_y32 f_y45 hv113) rfl ?_)
                rintro v114 w115 ⟨hx116, h117⟩
                have hs118 := hs91.call hx116
                have p119 := Step.ext (O := ks [] O) hx116
                clear hx116
                replace f_y32 := f_y32.step p119
                replace f_y45 := f_y45.step p119
                replace f_y97 := f_y97.step p119
                replace ch110 := ch110.trans p119
                clear p119 hs91
                obtain rfl := h117
                refine Rg_op rfl (op_pick_t (v := (Value.bool samelist_1)) rfl rfl ?_)
                refine Rg_op rfl (op_move (v := (Value.bool samelist_1)) rfl ?_)
                refine Rg_case (fun hg121 => ?_) (fun hg121 => ?_)
                ·
                  replace hm := bif_t hm hg121
                  refine Rg_opg rfl rfl rfl (op_move (v := (Value.slice a_y32 least_1.1.length c_y32)) rfl ?_)
                  refine Rg_opg rfl rfl rfl (op_move (v := (Value.slice a_y97 least_3.1.length c_y97)) rfl ?_)
                  replace hm := bd hm; obtain ⟨samelist_2, hv122, hm⟩ := hm
                  refine Rg_opg rfl rfl rfl (op_call Try.call27 (c27_overflightref06_SameList (a := least_1.1) (b := least_3.1) hs118.ltw f_y32 f_y97 hv122) rfl ?_)
                  rintro v123 w124 ⟨hx125, h126⟩
                  have hs127 := hs118.call hx125
                  have p128 := Step.ext (O := ks [] O) hx125
                  clear hx125
                  replace f_y32 := f_y32.step p128
                  replace f_y45 := f_y45.step p128
                  replace f_y97 := f_y97.step p128
                  replace ch110 := ch110.trans p128
                  clear p128 hs118
                  obtain rfl := h126
                  refine Rg_op rfl (op_pick_t (v := (Value.bool samelist_2)) rfl rfl ?_)
                  refine Rg_op rfl (op_assign (v := (Value.bool samelist_2)) rfl ?_)
                  refine Rg_nil ?_
                  exact hK104 _ _ ⟨samelist_2, _, rfl, ⟨(by repeat (first | with_reducible exact Out.refl _ _ | refine Out.upd ?_ rfl | refine Out.updL ?_ rfl | refine Out.mix' ?_ rfl | exact Out.refl _ _)), rfl, rfl, trivial⟩, ch110, hs127, hm⟩
                ·
                  replace hm := bif_f hm hg121
                  refine Rg_opx rfl (asB_ne rfl rfl) rfl ?_
                  refine Rg_opx rfl (asB_ne rfl rfl) rfl ?_
                  refine Rg_opx rfl (asB_ne rfl rfl) rfl ?_
                  refine Rg_op rfl (op_pick_f (v := (Value.bool false)) rfl rfl ?_)
                  refine Rg_op rfl (op_assign (v := (Value.bool false)) rfl ?_)
                  refine Rg_nil ?_
                  exact hK104 _ _ ⟨false, _, rfl, ⟨(by repeat (first | with_reducible exact Out.refl _ _ | refine Out.upd ?_ rfl | refine Out.updL ?_ rfl | refine Out.mix' ?_ rfl | exact Out.refl _ _)), rfl, rfl, trivial⟩, ch110, hs118, hm⟩
              ·
                replace hm := bif_f hm hg112
                refine Rg_opx rfl (asB_ne rfl rfl) rfl ?_
                refine Rg_opx rfl (asB_ne rfl rfl) rfl ?_
                refine Rg_opx rfl (asB_ne rfl rfl) rfl ?_
                refine Rg_op rfl (op_pick_f (v := (Value.bool false)) rfl rfl ?_)
                refine Rg_op rfl (op_move (v := (Value.bool false)) rfl ?_)
                refine Rg_opx rfl (asB_ne rfl rfl) rfl ?_
                refine Rg_opx rfl (asB_ne rfl rfl) rfl ?_
                refine Rg_opx rfl (asB_ne rfl rfl) rfl ?_
                refine Rg_op rfl (op_pick_f (v := (Value.bool false)) rfl rfl ?_)
                refine Rg_op rfl (op_assign (v := (Value.bool false)) rfl ?_)
                refine Rg_nil ?_
                exact hK104 _ _ ⟨false, _, rfl, ⟨(by repeat (first | with_reducible exact Out.refl _ _ | refine Out.upd ?_ rfl | refine Out.updL ?_ rfl | refine Out.mix' ?_ rfl | exact Out.refl _ _)), rfl, rfl, trivial⟩, ch110, hs91, hm⟩
            ·
              replace hm := bif_f hm hg111
              refine Rg_opx rfl (asB_ne rfl rfl) rfl ?_
              refine Rg_opx rfl (asB_ne rfl rfl) rfl ?_
              refine Rg_op rfl (op_pick_f (v := (Value.bool false)) rfl rfl ?_)
              refine Rg_op rfl (op_move (v := (Value.bool false)) rfl ?_)
              refine Rg_opx rfl (asB_ne rfl rfl) rfl ?_
              refine Rg_opx rfl (asB_ne rfl rfl) rfl ?_
              refine Rg_opx rfl (asB_ne rfl rfl) rfl ?_
              refine Rg_op rfl (op_pick_f (v := (Value.bool false)) rfl rfl ?_)
              refine Rg_op rfl (op_move (v := (Value.bool false)) rfl ?_)
              refine Rg_opx rfl (asB_ne rfl rfl) rfl ?_
              refine Rg_opx rfl (asB_ne rfl rfl) rfl ?_
              refine Rg_opx rfl (asB_ne rfl rfl) rfl ?_
              refine Rg_op rfl (op_pick_f (v := (Value.bool false)) rfl rfl ?_)
              refine Rg_op rfl (op_assign (v := (Value.bool false)) rfl ?_)
              refine Rg_nil ?_
              exact hK104 _ _ ⟨false, _, rfl, ⟨(by repeat (first | with_reducible exact Out.refl _ _ | refine Out.upd ?_ rfl | refine Out.updL ?_ rfl | refine Out.mix' ?_ rfl | exact Out.refl _ _)), rfl, rfl, trivial⟩, ch110, hs91, hm⟩
    ·
      intro K14 hK14
      have ch130 := Step.refl (ks [] O) w3
      refine Wp_region ?_  -- 3 law.go:204
      refine Rg_op rfl (op_move (v := (Value.slice a_l l.length c_l)) rfl ?_)
      replace hm := bd hm; obtain ⟨few_1, hv131, hm⟩ := hm
      refine Rg_op rfl (op_call Try.call20 (c20_overflightref06_Few (l := l) hs6.ltw f_l hv131) rfl ?_)
      rintro v132 w133 ⟨hx134, h135⟩
      have hs136 := hs6.call hx134
      have p137 := Step.ext (O := ks [] O) hx134
      clear hx134
      replace f_l := f_l.step p137
      replace ch130 := ch130.trans p137
      clear p137 hs6
      obtain rfl := h135
      refine Rg_op rfl (op_not rfl ?_)
      refine Rg_op rfl (op_move (v := (Value.bool (!few_1))) rfl ?_)
      refine Rg_case (fun hg139 => ?_) (fun hg139 => ?_)
      ·
        replace hm := bif_t hm hg139
        refine Rg_opx rfl (asB_ne rfl rfl) rfl ?_
        refine Rg_opx rfl (asB_ne rfl rfl) rfl ?_
        refine Rg_opx rfl (asB_ne rfl rfl) rfl ?_
        refine Rg_op rfl (op_pick_t (v := (Value.bool true)) rfl rfl ?_)
        refine Rg_nil ?_
        exact hK14 _ _ ⟨true, _, rfl, ⟨(by repeat (first | with_reducible exact Out.refl _ _ | refine Out.upd ?_ rfl | refine Out.updL ?_ rfl | refine Out.mix' ?_ rfl | exact Out.refl _ _)), rfl, rfl, trivial⟩, ch130, hs136, hm⟩
      ·
        replace hm := bif_f hm hg139
        refine Rg_opg rfl rfl rfl (op_move (v := (Value.slice a_l l.length c_l)) rfl ?_)
        refine Rg_opg rfl rfl rfl (op_len Try.underlying33 rfl ?_)
        refine Rg_opg rfl rfl rfl (op_eql rfl rfl ?_)
        refine Rg_op rfl (op_pick_f (v := (Value.bool (decide ((l.length : Int) = 0)))) rfl rfl ?_)
        refine Rg_nil ?_
        exact hK14 _ _ ⟨(decide ((l.length : Int) = 0)), _, rfl, ⟨(by repeat (first | with_reducible exact Out.refl _ _ | refine Out.upd ?_ rfl | refine Out.updL ?_ rfl | refine Out.mix' ?_ rfl | exact Out.refl _ _)), rfl, rfl, trivial⟩, ch130, hs136, hm⟩

end Go.Fx


/- What the models of functions compute: loops over lists, checks, meetings. No program in sight. -/
set_option linter.unusedSimpArgs false
set_option linter.unusedVariables false
namespace Go.Fx
open Go Go.RowKit

section
variable {R α σ : Type}
@[simp] theorem jn_eq {κ : Type _} (k : κ) (f : κ → Option R) : jn k f = f k := rfl
theorem ck_eq {c : Prop} [Decidable c] {m : Option R} (h : c) : ck c m = m := if_pos h
@[simp] theorem ck_True {m : Option R} : ck True m = m := if_pos trivial
theorem wrapN {i : Nat} (h : i < 9223372036854775808) : IntKind.i64.wrap (i : Int) = (i : Int) := wrap_i64 (by omega) (by omega)
theorem wrapS {i : Nat} (h : i + 1 < 9223372036854775808) : IntKind.i64.wrap ((i : Int) + 1) = (i : Int) + 1 := wrap_i64 (by omega) (by omega)
theorem wrapA {i j : Nat} (h : i + j < 9223372036854775808) : IntKind.i64.wrap ((i : Int) + (j : Int)) = ((i + j : Nat) : Int) := (wrap_i64 (by omega) (by omega)).trans (by omega)
theorem wrapP {i : Nat} (h : i < 9223372036854775808) : IntKind.i64.wrap (((i + 1 : Nat) : Int) - 1) = (i : Int) := (wrap_i64 (by omega) (by omega)).trans (by omega)

/-- a loop that goes up an index over a list: L fuel index state -/
theorem up_list {L : Nat → Int → σ → Option R} (I : Nat → σ → Prop) (F : Nat → List α → σ → Option R) (l : List α) (hl : l.length < 9223372036854775807)
    (hE : ∀ n s, I l.length s → L (n + 1) (l.length : Nat) s = F l.length [] s)
    (hS : ∀ n (i : Nat) s x t, i < l.length → l[i]? = some x → IntKind.i64.wrap ((i : Int) + 1) = (i : Int) + 1 → I i s →
      (∀ s, I (i + 1) s → L n ((i : Int) + 1) s = F (i + 1) t s) → L (n + 1) (i : Int) s = F i (x :: t) s) :
    ∀ (fuel : Nat) s, l.length < fuel → I 0 s → L fuel 0 s = F 0 l s := by
  have main : ∀ (t : List α) (i fuel : Nat) s, l.drop i = t → i ≤ l.length → l.length - i < fuel → I i s → L fuel (i : Int) s = F i t s := by
    intro t
    induction t with
    | nil =>
      intro i fuel s hd hi hf hI
      have : i = l.length := by have := congrArg List.length hd; simp at this; omega
      subst this
      obtain ⟨n, rfl⟩ : ∃ n, fuel = n + 1 := ⟨fuel - 1, by omega⟩
      exact hE n s hI
    | cons x t ih =>
      intro i fuel s hd hi hf hI
      have hlt : i < l.length := by have := congrArg List.length hd; simp at this; omega
      obtain ⟨n, rfl⟩ : ∃ n, fuel = n + 1 := ⟨fuel - 1, by omega⟩
      have hx : l[i]? = some x := by rw [← List.head?_drop, hd]; rfl
      refine hS n i s x t hlt hx (wrapS (by omega)) hI fun s' hI' => (ih (i + 1) n s' ?_ (by omega) (by omega) hI')
      rw [← List.drop_drop, hd]; rfl
  intro fuel s hf hI
  exact main l 0 fuel s rfl (by omega) (by omega) hI

theorem getD_of {l : List α} {i : Nat} {x d : α} (h : l[i]? = some x) : l.getD i d = x := by simp [List.getD, h]

/-- a loop that goes up an index over a list, no state -/
theorem up_list0 {B : (Int → Option R) → Int → Option R} (F : List α → Option R) (l : List α) (hl : l.length < 9223372036854775807)
    (hE : ∀ sf, B sf (l.length : Nat) = F [])
    (hS : ∀ sf (i : Nat) x t, i < l.length → l[i]? = some x → IntKind.i64.wrap ((i : Int) + 1) = (i : Int) + 1 →
      sf ((i : Int) + 1) = F t → B sf (i : Int) = F (x :: t))
    {fuel : Nat} (hf : l.length < fuel) : loop1 B fuel 0 = F l := by
  refine up_list (L := fun n i (_ : Unit) => loop1 B n i) (fun _ _ => True) (fun _ t _ => F t) l hl ?_ ?_ fuel () hf trivial
  · intro n _ _; show loop1 B (n + 1) _ = _; rw [loop1_succ]; exact hE _
  · intro n i _ x t h1 h2 h3 _ ih; show loop1 B (n + 1) _ = _; rw [loop1_succ]; exact hS _ i x t h1 h2 h3 (ih () trivial)
/-- index first, then a state -/
theorem up_listA {B : (Int → σ → Option R) → Int → σ → Option R} (I : Nat → σ → Prop) (F : Nat → List α → σ → Option R) (l : List α) (hl : l.length < 9223372036854775807)
    (hE : ∀ sf s, I l.length s → B sf (l.length : Nat) s = F l.length [] s)
    (hS : ∀ sf (i : Nat) s x t, i < l.length → l[i]? = some x → IntKind.i64.wrap ((i : Int) + 1) = (i : Int) + 1 → I i s →
      (∀ s, I (i + 1) s → sf ((i : Int) + 1) s = F (i + 1) t s) → B sf (i : Int) s = F i (x :: t) s)
    {fuel : Nat} {s : σ} (hf : l.length < fuel) (hI : I 0 s) : loop2 B fuel 0 s = F 0 l s := by
  refine up_list (L := fun n i s => loop2 B n i s) I F l hl ?_ ?_ fuel s hf hI
  · intro n s h; show loop2 B (n + 1) _ _ = _; rw [loop2_succ]; exact hE _ _ h
  · intro n i s x t h1 h2 h3 h4 ih; show loop2 B (n + 1) _ _ = _; rw [loop2_succ]; exact hS _ i s x t h1 h2 h3 h4 ih
/-- a state first, then the index -/
theorem up_listB {B : (σ → Int → Option R) → σ → Int → Option R} (I : Nat → σ → Prop) (F : Nat → List α → σ → Option R) (l : List α) (hl : l.length < 9223372036854775807)
    (hE : ∀ sf s, I l.length s → B sf s (l.length : Nat) = F l.length [] s)
    (hS : ∀ sf (i : Nat) s x t, i < l.length → l[i]? = some x → IntKind.i64.wrap ((i : Int) + 1) = (i : Int) + 1 → I i s →
      (∀ s, I (i + 1) s → sf s ((i : Int) + 1) = F (i + 1) t s) → B sf s (i : Int) = F i (x :: t) s)
    {fuel : Nat} {s : σ} (hf : l.length < fuel) (hI : I 0 s) : loop2 B fuel s 0 = F 0 l s := by
  refine up_list (L := fun n i s => loop2 B n s i) I F l hl ?_ ?_ fuel s hf hI
  · intro n s h; show loop2 B (n + 1) _ _ = _; rw [loop2_succ]; exact hE _ _ h
  · intro n i s x t h1 h2 h3 h4 ih; show loop2 B (n + 1) _ _ = _; rw [loop2_succ]; exact hS _ i s x t h1 h2 h3 h4 ih

/-- the same, where the answer needs the index -/
theorem up_listI {B : (Int → Option R) → Int → Option R} (F : Nat → List α → Option R) (l : List α) (hl : l.length < 9223372036854775807)
    (hE : ∀ sf, B sf (l.length : Nat) = F l.length [])
    (hS : ∀ sf (i : Nat) x t, i < l.length → l[i]? = some x → IntKind.i64.wrap ((i : Int) + 1) = (i : Int) + 1 →
      sf ((i : Int) + 1) = F (i + 1) t → B sf (i : Int) = F i (x :: t))
    {fuel : Nat} (hf : l.length < fuel) : loop1 B fuel 0 = F 0 l := by
  refine up_list (L := fun n i (_ : Unit) => loop1 B n i) (fun _ _ => True) (fun i t _ => F i t) l hl ?_ ?_ fuel () hf trivial
  · intro n _ _; show loop1 B (n + 1) _ = _; rw [loop1_succ]; exact hE _
  · intro n i _ x t h1 h2 h3 _ ih; show loop1 B (n + 1) _ = _; rw [loop1_succ]; exact hS _ i x t h1 h2 h3 (ih () trivial)
end
end Go.Fx


set_option linter.unusedVariables false
set_option linter.unusedSimpArgs false
set_option maxRecDepth 100000
set_option maxHeartbeats 0
namespace Go.Fx
open Go Go.RowKit Go.Proofs
def m28_overflightlaw06_below (a : List Int) (b : List Int) : Option Bool :=
  (m15_vector_Below a b).bind fun below_1 =>
  bif below_1.1 then
    some (decide (below_1.2 = 0))
  else
    some false

theorem c28_overflightlaw06_below {w : World} {O : List Nat} {a : List Int} {b : List Int} {a_a : Option Addr} {c_a : Nat} {a_b : Option Addr} {c_b : Nat} (hO : ∀ k ∈ O, k < w.heap.size) (f_a : SlR (rInt .i64) w O a_a c_a a) (f_b : SlR (rInt .i64) w O a_b c_b b) {x : Bool} (hm : m28_overflightlaw06_below a b = some x) :
    Ok Try.prog 28 [(Value.slice a_a a.length c_a), (Value.slice a_b b.length c_b)] w O vB x := by
  unfold m28_overflightlaw06_below at hm
  refine Fn_of_Wp (n := 18) (xs := [.tmp 4]) Try.func28 rfl Try.ntmps28 Try.results28 rfl ?_
  have hs := St.start hO
  refine Wp_seq ?_
  refine Wp_region ?_  -- 0 law.go:65
  refine Rg_op rfl (op_assign (v := (Value.bool false)) rfl ?_)
  refine Rg_nil ?_
  refine Wp_seq ?_
  refine Wp_region ?_  -- 1 law.go:66
  refine Rg_op rfl (op_move (v := (Value.slice a_a a.length c_a)) rfl ?_)
  refine Rg_op rfl (op_move (v := (Value.slice a_b b.length c_b)) rfl ?_)
  replace hm := bd hm; obtain ⟨below_1, hv1, hm⟩ := hm
  refine Rg_op rfl (op_call Try.call15 (c15_vector_Below (a := a) (b := b) hs.ltw f_a f_b hv1) rfl ?_)
  rintro v2 w3 ⟨hx4, h5⟩
  have hs6 := hs.call hx4
  have p7 := Step.ext (O := ks [] O) hx4
  clear hx4
  replace f_a := f_a.step p7
  replace f_b := f_b.step p7
  clear p7
  obtain ⟨v8, v9, rfl, h10, h11⟩ := h5
  obtain rfl := h10
  obtain ⟨rfl, r_y13⟩ := h11
  refine Rg_op rfl (op_move (v := (Value.tuple [(Value.bool below_1.1), (Value.int .i64 below_1.2)].toArray)) rfl ?_)
  refine Rg_op rfl (op_extract (v := (Value.bool below_1.1)) rfl rfl ?_)
  refine Rg_op rfl (op_extract (v := (Value.int .i64 below_1.2)) rfl rfl ?_)
  refine Rg_op rfl (op_assign (v := (Value.bool below_1.1)) rfl ?_)
  refine Rg_op rfl (op_assign (v := (Value.int .i64 below_1.2)) rfl ?_)
  refine Rg_nil ?_
  refine Wp_seq ?_
  clear f_a f_b
  refine Wp_region ?_  -- 2 law.go:67
  refine Rg_op rfl (op_move (v := (Value.bool below_1.1)) rfl ?_)
  refine Rg_op rfl (op_move (v := (Value.bool below_1.1)) rfl ?_)
  refine Rg_case (fun hg14 => ?_) (fun hg14 => ?_)
  ·
    replace hm := bif_t hm hg14
    refine Rg_opg rfl rfl rfl (op_move (v := (Value.int .i64 below_1.2)) rfl ?_)
    refine Rg_opg rfl rfl rfl (op_eql rfl rfl ?_)
    refine Rg_op rfl (op_pick_t (v := (Value.bool (decide (below_1.2 = 0)))) rfl rfl ?_)
    refine Rg_op rfl (op_assign (v := (Value.bool (decide (below_1.2 = 0)))) rfl ?_)
    refine Rg_nil ?_
    refine Wp_ret ?_
    have hz := step_all hs6
    refine ⟨_, (show Closes [] _ _ from rfl), [(Value.bool (decide (below_1.2 = 0)))], ⟨rfl, trivial⟩, hs6.ext, ?_⟩
    exact Vr.eq (a := vB) (x := (decide (below_1.2 = 0))) rfl (Option.some.inj hm)
  ·
    replace hm := bif_f hm hg14
    refine Rg_opx rfl (asB_ne rfl rfl) rfl ?_
    refine Rg_opx rfl (asB_ne rfl rfl) rfl ?_
    refine Rg_op rfl (op_pick_f (v := (Value.bool false)) rfl rfl ?_)
    refine Rg_op rfl (op_assign (v := (Value.bool false)) rfl ?_)
    refine Rg_nil ?_
    refine Wp_ret ?_
    have hz := step_all hs6
    refine ⟨_, (show Closes [] _ _ from rfl), [(Value.bool false)], ⟨rfl, trivial⟩, hs6.ext, ?_⟩
    exact Vr.eq (a := vB) (x := false) rfl (Option.some.inj hm)

end Go.Fx


set_option linter.unusedVariables false
set_option linter.unusedSimpArgs false
set_option maxRecDepth 100000
set_option maxHeartbeats 0
namespace Go.Fx
open Go Go.RowKit Go.Proofs
def m12_overflightlaw06_short (l : List (List Int)) : Option Bool :=
  (m20_overflightref06_Few l).bind fun few_1 =>
  some few_1

theorem c12_overflightlaw06_short {w : World} {O : List Nat} {l : List (List Int)} {a_l : Option Addr} {c_l : Nat} (hO : ∀ k ∈ O, k < w.heap.size) (f_l : SlR (rSl (rInt .i64)) w O a_l c_l l) {x : Bool} (hm : m12_overflightlaw06_short l = some x) :
    Ok Try.prog 12 [(Value.slice a_l l.length c_l)] w O vB x := by
  unfold m12_overflightlaw06_short at hm
  refine Fn_of_Wp (n := 5) (xs := [.tmp 2]) Try.func12 rfl Try.ntmps12 Try.results12 rfl ?_
  have hs := St.start hO
  refine Wp_seq ?_
  refine Wp_region ?_  -- 0 law.go:28
  refine Rg_op rfl (op_assign (v := (Value.bool false)) rfl ?_)
  refine Rg_nil ?_
  refine Wp_seq ?_
  refine Wp_region ?_  -- 1 law.go:28
  refine Rg_op rfl (op_move (v := (Value.slice a_l l.length c_l)) rfl ?_)
  replace hm := bd hm; obtain ⟨few_1, hv1, hm⟩ := hm
  refine Rg_op rfl (op_call Try.call20 (c20_overflightref06_Few (l := l) hs.ltw f_l hv1) rfl ?_)
  rintro v2 w3 ⟨hx4, h5⟩
  have hs6 := hs.call hx4
  have p7 := Step.ext (O := ks [] O) hx4
  clear hx4
  replace f_l := f_l.step p7
  clear p7
  obtain rfl := h5
  refine Rg_op rfl (op_assign (v := (Value.bool few_1)) rfl ?_)
  refine Rg_nil ?_
  refine Wp_ret ?_
  have hz := step_all hs6
  replace f_l := f_l.step hz
  refine ⟨_, (show Closes [] _ _ from rfl), [(Value.bool few_1)], ⟨rfl, trivial⟩, hs6.ext, ?_⟩
  exact Vr.eq (a := vB) (x := few_1) rfl (Option.some.inj hm)

end Go.Fx


/- The plain laws of chapter 06: what the functions compute. -/
set_option linter.unusedSimpArgs false
set_option linter.unusedVariables false
namespace Go.Fx
open Go Go.RowKit
theorem sane_eq : m11_overflightlaw06_sane = some true := by kernel_rfl
abbrev big : Nat := 1000000
/-- the order of lists: -1, 0 or 1 -/
def cmpL : List Int → List Int → Int
  | [], [] => 0
  | [], _ :: _ => -1
  | _ :: _, [] => 1
  | x :: s, y :: t => if x < y then -1 else if y < x then 1 else cmpL s t
theorem cmpL_vals (a b : List Int) : cmpL a b = -1 ∨ cmpL a b = 0 ∨ cmpL a b = 1 := by
  induction a generalizing b with
  | nil => cases b <;> simp [cmpL]
  | cons x s ih => cases b with
    | nil => simp [cmpL]
    | cons y t =>
      unfold cmpL
      by_cases h1 : x < y
      · simp [h1]
      · by_cases h2 : y < x
        · simp [h1, h2]
        · simp only [h1, h2, if_false]; exact ih t
theorem cmpL_anti (a b : List Int) : cmpL b a = - cmpL a b := by
  induction a generalizing b with
  | nil => cases b <;> simp [cmpL]
  | cons x s ih => cases b with
    | nil => simp [cmpL]
    | cons y t =>
      unfold cmpL
      by_cases h1 : x < y
      · have : ¬ y < x := by omega
        simp [h1, this]
      · by_cases h2 : y < x
        · simp [h1, h2]
        · simp [h1, h2, ih]
theorem cmpL_zero {a b : List Int} : cmpL a b = 0 ↔ a = b := by
  induction a generalizing b with
  | nil => cases b <;> simp [cmpL]
  | cons x s ih => cases b with
    | nil => simp [cmpL]
    | cons y t =>
      unfold cmpL
      by_cases h1 : x < y
      · simp [h1]; omega
      · by_cases h2 : y < x
        · simp [h1, h2]; omega
        · have : x = y := by omega
          simp [h1, h2, ih, this]
theorem cmpL_trans {a b c : List Int} (h1 : cmpL a b ≤ 0) (h2 : cmpL b c ≤ 0) : cmpL a c ≤ 0 := by
  induction a generalizing b c with
  | nil => cases c <;> simp [cmpL]
  | cons x s ih =>
    cases b with
    | nil => simp [cmpL] at h1
    | cons y t =>
      cases c with
      | nil => simp [cmpL] at h2
      | cons z u =>
        unfold cmpL at h1 h2 ⊢
        by_cases a1 : x < z
        · simp [a1]
        · by_cases a2 : x < y
          · have : ¬ y < z := by omega
            have : z < y := by omega
            simp_all
          · by_cases a3 : y < x
            · simp [a2, a3] at h1
            · have hxy : x = y := by omega
              subst hxy
              simp only [a1, if_false] at h2 ⊢
              by_cases a4 : z < x
              · simp [a4] at h2
              · simp only [a4, if_false, Int.lt_irrefl] at h1 h2 ⊢
                exact ih h1 h2
theorem cmpL_lt {a b c : List Int} (h1 : cmpL a b < 0) (h2 : cmpL b c < 0) : cmpL a c < 0 := by
  have h3 := cmpL_trans (a := a) (b := b) (c := c) (by omega) (by omega)
  rcases Int.lt_or_eq_of_le h3 with h | h
  · exact h
  · rw [cmpL_zero] at h; subst h
    have := cmpL_anti a b; omega
/-- below, component by component -/
def bel : List Int → List Int → Bool
  | x :: s, y :: t => decide (x ≤ y) && bel s t
  | _, _ => true
theorem bel_refl (a : List Int) : bel a a = true := by induction a <;> simp [bel, *]
theorem bel_cmp {a b : List Int} (hl : a.length = b.length) (h : bel a b = true) : cmpL a b ≤ 0 := by
  induction a generalizing b with
  | nil => cases b <;> simp [cmpL]
  | cons x s ih => cases b with
    | nil => simp at hl
    | cons y t =>
      simp only [bel, Bool.and_eq_true, decide_eq_true_eq] at h
      unfold cmpL
      by_cases h1 : x < y
      · simp [h1]
      · have : ¬ y < x := by omega
        simp only [h1, this, if_false]; exact ih (by simpa using hl) h.2
theorem bel_trans {a b c : List Int} (h1 : a.length = b.length) (h2 : b.length = c.length) (k1 : bel a b = true) (k2 : bel b c = true) : bel a c = true := by
  induction a generalizing b c with
  | nil => cases c <;> simp [bel]
  | cons x s ih => cases b with
    | nil => simp at h1
    | cons y t => cases c with
      | nil => simp at h2
      | cons z u =>
        simp only [bel, Bool.and_eq_true, decide_eq_true_eq] at k1 k2 ⊢
        exact ⟨by omega, ih (by simpa using h1) (by simpa using h2) k1.2 k2.2⟩
theorem m48_eq (x y : Int) : m48_cmp_Compare x y = some (if x < y then -1 else if y < x then 1 else 0) := by
  unfold m48_cmp_Compare m58_cmp_isNaN
  by_cases h1 : x < y
  · simp [h1]
  · by_cases h2 : y < x <;> simp [h1, h2]
theorem m34_eq (a b : List Int) (ha : a.length < 9223372036854775807) : m34_slices_Compareint_int_ a b = some (cmpL a b) := by
  unfold m34_slices_Compareint_int_
  have := up_listI (B := m34_slices_Compareint_int__B0 a b) (fun i t => some (cmpL t (b.drop i))) a ha ?_ ?_ (fuel := ((a.length : Int) - 0).toNat + 1) (by omega)
  · simpa using this
  · intro sf
    unfold m34_slices_Compareint_int__B0
    by_cases h : a.length < b.length
    · have : ∃ y t, b.drop a.length = y :: t := by
        cases hd : b.drop a.length with
        | nil => have := congrArg List.length hd; simp at this; omega
        | cons y t => exact ⟨y, t, rfl⟩
      obtain ⟨y, t, hd⟩ := this
      have h' : (a.length : Int) < (b.length : Int) := by omega
      simp [h', hd, cmpL, h]
    · have h' : ¬ (a.length : Int) < (b.length : Int) := by omega
      have hd : b.drop a.length = [] := by simp; omega
      simp [h', hd, cmpL, h]
  · intro sf i x t h1 h2 h3 ih
    obtain ⟨_, rfl⟩ := List.getElem?_eq_some_iff.1 h2
    unfold m34_slices_Compareint_int__B0
    have c1 : (i : Int) < (a.length : Int) := by omega
    have g1 : a.getD (i : Int).toNat default = a[i] := by simp [h1]
    simp only [c1, decide_true, cond_true, g1, h3]
    rw [ck_eq (by simp)]
    by_cases hb : i < b.length
    · have c2 : ¬ (b.length : Int) ≤ (i : Int) := by omega
      have g2 : b.getD (i : Int).toNat default = b[i] := by simp [hb]
      have hd : b.drop i = b[i] :: b.drop (i + 1) := List.drop_eq_getElem_cons hb
      simp only [c2, decide_false, cond_false, g2, m48_eq, Option.bind_some, hd]
      rw [ck_eq (by omega)]
      unfold cmpL
      by_cases k1 : a[i] < b[i]
      · simp [k1]
      · by_cases k2 : b[i] < a[i]
        · simp [k1, k2]
        · simp only [k1, k2, if_false, ne_eq, not_true_eq_false, decide_false, cond_false]; exact ih
    · have c2 : (b.length : Int) ≤ (i : Int) := by omega
      have hd : b.drop i = [] := by simp; omega
      simp [c2, hd, cmpL]
theorem m35_eq (a b : List Int) (h : a.length = b.length) (ha : a.length < 9223372036854775807) : m35_overflightref06_Order a b = some (cmpL a b) := by
  unfold m35_overflightref06_Order
  have := up_listI (B := m35_overflightref06_Order_B0 a b) (fun i t => some (cmpL t (b.drop i))) a ha ?_ ?_ (fuel := ((a.length : Int) - 0).toNat + 1) (by omega)
  · simpa using this
  · intro sf
    unfold m35_overflightref06_Order_B0
    have hd : b.drop a.length = [] := by simp; omega
    simp [hd, cmpL]
  · intro sf i x t h1 h2 h3 ih
    obtain ⟨_, rfl⟩ := List.getElem?_eq_some_iff.1 h2
    unfold m35_overflightref06_Order_B0
    have c1 : (i : Int) < (a.length : Int) := by omega
    have hb : i < b.length := by omega
    have g1 : a.getD (i : Int).toNat default = a[i] := by simp [h1]
    have g2 : b.getD (i : Int).toNat default = b[i] := by simp [hb]
    have hd : b.drop i = b[i] :: b.drop (i + 1) := List.drop_eq_getElem_cons hb
    simp only [c1, decide_true, cond_true, g1, g2, h3, hd]
    rw [ck_eq (by simp), ck_eq (by omega), ck_eq (by simp), ck_eq (by omega)]
    unfold cmpL
    by_cases k1 : a[i] < b[i]
    · simp [k1]
    · by_cases k2 : b[i] < a[i]
      · simp [k1, k2]
      · simp only [k1, k2, if_false, decide_false, cond_false]; exact ih
theorem m19_eq (a b : List Int) (ha : a.length < 9223372036854775807) : m19_overflightref06_Same a b = some (decide (a = b)) := by
  unfold m19_overflightref06_Same
  by_cases h : a.length = b.length
  · have h' : (a.length : Int) = (b.length : Int) := by omega
    rw [m35_eq a b h ha]; simp [h', cmpL_zero]
  · have h' : ¬ (a.length : Int) = (b.length : Int) := by omega
    have : ¬ a = b := fun e => h (by rw [e])
    simp [h', this]
theorem m17_eq (a b : List Int) (ha : a.length < 9223372036854775807) : m17_vector_Compare a b = some (if a.length = b.length then (cmpL a b, 0) else (0, 60)) := by
  unfold m17_vector_Compare
  by_cases h : a.length = b.length
  · have h' : (a.length : Int) = (b.length : Int) := by omega
    rw [m34_eq a b ha]; simp [h', h]
  · have h' : ¬ (a.length : Int) = (b.length : Int) := by omega
    simp [h', h]
theorem m30_eq (a b : List Int) (h : a.length = b.length) (ha : a.length < 9223372036854775807) : m30_vector_pairs a b = some (a.zip b) := by
  unfold m30_vector_pairs m47_vector_pairs_1
  have := up_listI (B := m47_vector_pairs_1_B0 a b) (fun i t => some (t.zip (b.drop i))) a ha ?_ ?_ (fuel := ((a.length : Int) - 0).toNat + 1) (by omega)
  · rw [List.drop_zero] at this; exact (congrArg (fun o => o.bind fun l_1 => some l_1) this).trans rfl
  · intro sf; unfold m47_vector_pairs_1_B0; simp
  · intro sf i x t h1 h2 h3 ih
    obtain ⟨_, rfl⟩ := List.getElem?_eq_some_iff.1 h2
    unfold m47_vector_pairs_1_B0
    have c1 : (i : Int) < (a.length : Int) := by omega
    have hb : i < b.length := by omega
    have g1 : a.getD (i : Int).toNat default = a[i] := by simp [h1]
    have g2 : b.getD (i : Int).toNat default = b[i] := by simp [hb]
    have hd : b.drop i = b[i] :: b.drop (i + 1) := List.drop_eq_getElem_cons hb
    simp only [c1, decide_true, cond_true, g1, g2, h3, hd]
    rw [ck_eq (by simp), ck_eq (by omega), ih, List.zip_cons_cons]
    rfl
theorem m32_eq (a b : List Int) (h : a.length = b.length) (ha : a.length < 9223372036854775807) : m32_vector_below a b = some (bel a b) := by
  unfold m32_vector_below
  rw [m30_eq a b h ha]
  simp only [Option.bind_some, jn_eq]
  clear ha
  induction a generalizing b with
  | nil => simp [rng0_nil, bel]
  | cons x s ih => cases b with
    | nil => simp at h
    | cons y t =>
      rw [List.zip_cons_cons, rng0_cons]
      unfold m32_vector_below_B0
      by_cases k : y < x
      · have : ¬ x ≤ y := by omega
        simp [k, bel, this]
      · have : x ≤ y := by omega
        simp only [k, decide_false, cond_false, bel, this, decide_true, Bool.true_and]
        exact ih t (by simpa using h)
theorem m15_eq (a b : List Int) (ha : a.length < 9223372036854775807) : m15_vector_Below a b = some (if a.length = b.length then (bel a b, 0) else (false, 60)) := by
  unfold m15_vector_Below
  by_cases h : a.length = b.length
  · have h' : (a.length : Int) = (b.length : Int) := by omega
    rw [m32_eq a b h ha]; simp [h', h]
  · have h' : ¬ (a.length : Int) = (b.length : Int) := by omega
    simp [h', h]
theorem m28_eq (a b : List Int) (ha : a.length < 9223372036854775807) : m28_overflightlaw06_below a b = some (decide (a.length = b.length) && bel a b) := by
  unfold m28_overflightlaw06_below
  rw [m15_eq a b ha]
  by_cases h : a.length = b.length
  · cases hb : bel a b <;> simp [h, hb]
  · simp [h]
theorem few_eq (l : List (List Int)) (hl : l.length < 9223372036854775807) : m20_overflightref06_Few l = some (l.all (fun a => decide (a.length ≤ 20)) && decide (l.length ≤ 30)) := by
  unfold m20_overflightref06_Few
  refine up_list0 (fun t => some (t.all (fun a => decide (a.length ≤ 20)) && decide (l.length ≤ 30))) l hl ?_ ?_ (show l.length < ((l.length : Int) - 0).toNat + 1 by omega)
  · intro sf; unfold m20_overflightref06_Few_B0
    have : ((l.length : Int) ≤ 30) = (l.length ≤ 30) := by apply propext; omega
    simp [this]
  · intro sf i x t h1 h2 h3 ih
    obtain ⟨_, rfl⟩ := List.getElem?_eq_some_iff.1 h2
    unfold m20_overflightref06_Few_B0
    have k4 : (20 < (l[i].length : Int)) = (20 < l[i].length) := by apply propext; omega
    by_cases k : 20 < l[i].length
    · have : ¬ l[i].length ≤ 20 := by omega
      simp [h1, h3, ih, ck_eq, k4, k, this]
    · have : l[i].length ≤ 20 := by omega
      simp [h1, h3, ih, ck_eq, k4, k, this]
theorem few_spec {l : List (List Int)} (h : (l.all (fun a => decide (a.length ≤ 20)) && decide (l.length ≤ 30)) = true) : (∀ a ∈ l, a.length ≤ 20) ∧ l.length ≤ 30 := by
  simp only [Bool.and_eq_true, List.all_eq_true, decide_eq_true_eq] at h; exact h
theorem m12_eq (l : List (List Int)) (hl : l.length < 9223372036854775807) : m12_overflightlaw06_short l = some (l.all (fun a => decide (a.length ≤ 20)) && decide (l.length ≤ 30)) := by
  unfold m12_overflightlaw06_short; rw [few_eq l hl]; rfl
/-- the first index from i where g holds, or -1 -/
def fidx {α} (g : α → Bool) : Nat → List α → Int
  | _, [] => -1
  | i, x :: t => bif g x then (i : Int) else fidx g (i + 1) t
theorem fidx_any {α} (g : α → Bool) (l : List α) (i : Nat) : decide (0 ≤ fidx g i l) = l.any g := by
  induction l generalizing i with
  | nil => rfl
  | cons x t ih => cases h : g x <;> simp [fidx, h, ih]
theorem m42_eq (s : List (List Int)) (f : List Int → Option Bool) (g : List Int → Bool) (hf : ∀ x ∈ s, f x = some (g x)) (hl : s.length < 9223372036854775807) : m42_slices_ContainsFuncint_int_ s (some f) = some (s.any g) := by
  have : m56_slices_IndexFuncint_int_ s (some f) = some (fidx g 0 s) := by
    unfold m56_slices_IndexFuncint_int_
    refine up_listI (fun i t => some (fidx g i t)) s hl ?_ ?_ (by omega)
    · intro sf; unfold m56_slices_IndexFuncint_int__B0; simp [fidx]
    · intro sf i x t h1 h2 h3 ih; unfold m56_slices_IndexFuncint_int__B0; obtain ⟨_, rfl⟩ := List.getElem?_eq_some_iff.1 h2
      have hfi := hf s[i] (List.getElem_mem _)
      cases h : g s[i] <;> simp [h1, h3, ih, callO, hfi, h, fidx, ck_eq]
  unfold m42_slices_ContainsFuncint_int_; rw [this]; simp [fidx_any]
theorem m45_eq (s : List Int) (f : Int → Option Bool) (g : Int → Bool) (hf : ∀ x, f x = some (g x)) (hl : s.length < 9223372036854775807) : m45_slices_ContainsFuncint_int_ s f = some (s.any g) := by
  have : m57_slices_IndexFuncint_int_ s f = some (fidx g 0 s) := by
    unfold m57_slices_IndexFuncint_int_
    refine up_listI (fun i t => some (fidx g i t)) s hl ?_ ?_ (by omega)
    · intro sf; unfold m57_slices_IndexFuncint_int__B0; simp [fidx]
    · intro sf i x t h1 h2 h3 ih; unfold m57_slices_IndexFuncint_int__B0; obtain ⟨_, rfl⟩ := List.getElem?_eq_some_iff.1 h2
      cases h : g s[i] <;> simp [h1, h3, ih, hf, h, fidx, ck_eq]
  unfold m45_slices_ContainsFuncint_int_; rw [this]; simp [fidx_any]
def smallN (n : Int) : Bool := decide (-1152921504606846976 ≤ n) && decide (n ≤ 1152921504606846976)
def smallV (a : List Int) : Bool := a.all smallN
theorem m29_eq (a : List Int) (ha : a.length < 9223372036854775807) : m29_vector_small a = some (smallV a) := by
  unfold m29_vector_small
  rw [m45_eq a _ (fun n => !smallN n) _ ha]
  · have : (!a.any fun n => !smallN n) = smallV a := by unfold smallV; rw [List.not_any_eq_all_not]; simp
    simp [this]
  · intro n; unfold m46_vector_small_1 smallN
    by_cases h1 : n < -1152921504606846976
    · have : ¬ -1152921504606846976 ≤ n := by omega
      simp only [h1, this, decide_true, decide_false, cond_true, Bool.false_and, Bool.not_false]
    · have : -1152921504606846976 ≤ n := by omega
      by_cases h2 : 1152921504606846976 < n
      · have h3 : ¬ n ≤ 1152921504606846976 := by omega
        simp only [h1, this, h2, h3, decide_true, decide_false, cond_false, Bool.true_and, Bool.not_false]
      · have h3 : n ≤ 1152921504606846976 := by omega
        simp only [h1, this, h2, h3, decide_true, decide_false, cond_false, Bool.true_and, Bool.not_true]
/-- what Add answers -/
def addV (a b : List Int) : List Int := (a.zip b).map fun p => p.1 + p.2
theorem addV_len {a b : List Int} (h : a.length = b.length) : (addV a b).length = a.length := by simp [addV, h]
theorem m13_eq (a b : List Int) (ha : a.length < big) (hb : b.length < big) : m13_vector_Add a b = some (if a.length = b.length ∧ smallV a = true ∧ smallV b = true then (addV a b, 0) else ([], 60)) := by
  unfold m13_vector_Add
  simp only [jn_eq, m29_eq a (by simp [big] at ha; omega), m29_eq b (by simp [big] at hb; omega), Option.bind_some]
  by_cases h : a.length = b.length
  · have h' : (a.length : Int) = (b.length : Int) := by omega
    rw [m30_eq a b h (by simp [big] at ha; omega)]
    cases s1 : smallV a
    · simp [h, h', s1]
    cases s2 : smallV b
    · simp [h, h', s1, s2]
    simp only [h', ne_eq, not_true_eq_false, decide_false, cond_false, Bool.not_true, Option.bind_some, h, and_self, if_true]
    have main : ∀ (l : List (Int × Int)) (acc : List Int), (∀ p ∈ l, smallN p.1 = true ∧ smallN p.2 = true) → acc.length + l.length < big →
        rng1 m13_vector_Add_B0 (fun v => some (v, (0 : Int))) l acc = some (acc ++ l.map (fun p => p.1 + p.2), 0) := by
      intro l
      induction l with
      | nil => intro acc _ _; simp [rng1_nil]
      | cons p t ih =>
        intro acc hs hl
        rw [rng1_cons]
        obtain ⟨k1, k2⟩ := hs p (by simp)
        have IH := ih (acc ++ [p.1 + p.2]) (fun q hq => hs q (by simp [hq])) (by simp [big] at hl ⊢; omega)
        generalize rng1 m13_vector_Add_B0 (fun v => some (v, (0 : Int))) t = sf at IH ⊢
        unfold m13_vector_Add_B0
        simp only [smallN, Bool.and_eq_true, decide_eq_true_eq] at k1 k2
        have w : IntKind.i64.wrap (p.1 + p.2) = p.1 + p.2 := wrap_i64 (by omega) (by omega)
        simp only [List.length_cons, big] at hl
        rw [w, ck_eq (by simp; omega), IH]
        simp
    refine (main _ [] ?_ (by simp [big] at *; omega)).trans (by simp [addV])
    intro p hp
    obtain ⟨m1, m2⟩ := List.of_mem_zip hp
    exact ⟨List.all_eq_true.1 s1 _ m1, List.all_eq_true.1 s2 _ m2⟩
  · have h' : ¬ (a.length : Int) = (b.length : Int) := by omega
    simp [h', h]
/-- all of the same length as the first -/
def alikeB (l : List (List Int)) : Bool := l.all fun a => decide (a.length = (l.getD 0 default).length)
theorem alike_len {l : List (List Int)} (h : alikeB l = true) : ∃ n, ∀ a ∈ l, a.length = n := ⟨_, fun a ha => by simpa using List.all_eq_true.1 h a ha⟩
theorem alike_of {l : List (List Int)} {n : Nat} (h : ∀ a ∈ l, a.length = n) : alikeB l = true := by
  refine List.all_eq_true.2 fun a ha => ?_
  cases l with
  | nil => simp at ha
  | cons b t => simp [h a ha, h b (by simp)]
theorem m36_eq (l : List (List Int)) (f : Option (List Int → Option Bool)) (g : List Int → Bool) (hf : ∀ x ∈ l, ∀ f', f = some f' → f' x = some (g x)) (hl : l.length < 9223372036854775807) :
    m36_vector_alike l f = some (alikeB l && (!f.isSome || l.all g)) := by
  unfold m36_vector_alike
  rw [m42_eq l _ (fun a => !(decide (a.length = (l.getD 0 default).length) && (!f.isSome || g a))) _ hl]
  · have : (!l.any fun a => !(decide (a.length = (l.getD 0 default).length) && (!f.isSome || g a))) = (alikeB l && (!f.isSome || l.all g)) := by
      unfold alikeB
      rw [List.not_any_eq_all_not]
      have e : (fun a : List Int => !!(decide (a.length = (l.getD 0 default).length) && (!f.isSome || g a))) = fun a => (decide (a.length = (l.getD 0 default).length) && (!f.isSome || g a)) := by funext a; simp
      rw [e]
      cases f.isSome
      · simp
      · generalize (l.getD 0 default).length = n
        clear e hf hl
        simp only [Bool.not_true, Bool.false_or]
        induction l with
        | nil => rfl
        | cons x t ih => simp only [List.all_cons, ih]; cases decide (x.length = n) <;> cases g x <;> cases (t.all fun a => decide (a.length = n)) <;> simp
    rw [Option.bind_some, this]
  · intro a ha
    unfold m49_vector_alike_1
    have h0 : 0 < l.length := List.length_pos_of_mem ha
    rw [ck_eq (by omega)]
    by_cases h : a.length = (l.getD 0 default).length
    · have h' : (a.length : Int) = ((l.getD 0 default).length : Int) := by omega
      cases f with
      | none => simp [h', h]
      | some f' =>
        have := hf a ha f' rfl
        simp only [h', ne_eq, not_true_eq_false, decide_false, cond_false, Option.isSome_some, cond_true, callO, Option.bind_some, this, h, decide_true, Bool.true_and, Bool.not_true, Bool.false_or]
    · have h' : ¬ (a.length : Int) = ((l.getD 0 default).length : Int) := by omega
      simp only [h', ne_eq, not_false_eq_true, decide_true, cond_true, h, decide_false, Bool.false_and, Bool.not_false]
/-- the least ones of a sorted list -/
def stepL (x : List (List Int)) (a : List Int) : List (List Int) := bif x.any (fun b => bel b a) then x else x ++ [a]
def leastL (l : List (List Int)) : List (List Int) := (isortM (fun a b => decide (cmpL a b < 0)) l).foldl stepL []
theorem total (xs : List (List Int)) : TotalOn (fun a b => decide (cmpL a b < 0)) xs :=
  ⟨fun x _ => by have : cmpL x x = 0 := cmpL_zero.2 rfl; simp [this],
   fun x _ y _ h1 h2 => by
    simp only [decide_eq_false_iff_not] at h1 h2
    have := cmpL_anti x y
    exact cmpL_zero.1 (by omega),
   fun x _ y _ z _ h1 h2 => by simp only [decide_eq_true_eq] at *; exact cmpL_lt h1 h2⟩
theorem foldl_len (s x : List (List Int)) : (s.foldl stepL x).length ≤ x.length + s.length := by
  induction s generalizing x with
  | nil => simp
  | cons a t ih =>
    refine Nat.le_trans (ih _) ?_
    unfold stepL; cases x.any (fun b => bel b a) <;> simp <;> omega
theorem m37_eq (l : List (List Int)) (n : Nat) (hn : ∀ a ∈ l, a.length = n) (hl : l.length < big) (hs : n < big) : m37_vector_least l = some (leastL l) := by
  unfold m37_vector_least m50_slices_Cloneint_int_
  simp only [big] at hl hs
  rw [ck_eq (by simp; omega)]
  simp only [Option.bind_some, List.nil_append]
  have hcmp : ∀ a ∈ l, ∀ b, m34_slices_Compareint_int_ a b = some (cmpL a b) := fun a ha b => m34_eq a b (by have := hn a ha; omega)
  have hsort : sortM (fun x15 x16 => m34_slices_Compareint_int_ x15 x16) l = some (isortM (fun a b => decide (cmpL a b < 0)) l) := by
    have hlt : ∀ a ∈ l, ∀ b, ltM (fun x15 x16 => m34_slices_Compareint_int_ x15 x16) a b = decide (cmpL a b < 0) := fun a ha b => by
      show (match m34_slices_Compareint_int_ a b with | some n => decide (n < 0) | none => false) = _
      rw [hcmp a ha b]
    have hok : okSort (fun x15 x16 => m34_slices_Compareint_int_ x15 x16) l = true := by
      refine okSort_iff.2 ⟨⟨fun x hx => by rw [hlt x hx]; exact (total l).irr x hx, fun x hx y hy h1 h2 => by rw [hlt x hx] at h1; rw [hlt y hy] at h2; exact (total l).tot x hx y hy h1 h2,
        fun x hx y hy z hz h1 h2 => by rw [hlt x hx] at h1 ⊢; rw [hlt y hy] at h2; exact (total l).tr x hx y hy z hz h1 h2⟩, fun x hx y hy => ⟨_, hcmp x hx y⟩⟩
    unfold sortM
    rw [hok, cond_true]
    congr 1
    have key : ∀ (t : List (List Int)), (∀ a ∈ t, a ∈ l) → isortM (ltM fun x15 x16 => m34_slices_Compareint_int_ x15 x16) t = isortM (fun a b => decide (cmpL a b < 0)) t := by
      intro t
      induction t with
      | nil => intro _; rfl
      | cons x t ih =>
        intro ht
        show insM _ x (isortM _ t) = insM _ x (isortM _ t)
        rw [ih fun a ha => ht a (by simp [ha])]
        have : ∀ u : List (List Int), insM (ltM fun x15 x16 => m34_slices_Compareint_int_ x15 x16) x u = insM (fun a b => decide (cmpL a b < 0)) x u := by
          intro u
          induction u with
          | nil => rfl
          | cons y u ihu => unfold insM; rw [hlt x (ht x (by simp)), ihu]
        exact this _
    exact key l fun _ h => h
  rw [hsort]
  have hp := isortM_perm (fun a b => decide (cmpL a b < 0)) l
  have hsl : (isortM (fun a b => decide (cmpL a b < 0)) l).length = l.length := hp.length_eq
  simp only [Option.bind_some]
  rw [ck_eq (by omega)]
  unfold leastL
  have hmem : ∀ a ∈ isortM (fun a b => decide (cmpL a b < 0)) l, a.length = n := fun a ha => hn a (hp.mem_iff.1 ha)
  generalize isortM (fun a b => decide (cmpL a b < 0)) l = S at *
  refine up_listB (σ := List (List Int)) (fun i x => x.length ≤ i ∧ ∀ b ∈ x, b.length = n) (fun _ t x => some (t.foldl stepL x)) S (by omega) ?_ ?_ (by simp) ⟨by simp, by simp⟩
  · intro sf x _; unfold m37_vector_least_B0; simp
  · intro sf i x a t h1 h2 h3 ⟨hx, hxn⟩ ih
    obtain ⟨_, rfl⟩ := List.getElem?_eq_some_iff.1 h2
    unfold m37_vector_least_B0
    have c1 : (i : Int) < (S.length : Int) := by omega
    have g1 : S.getD (i : Int).toNat default = S[i] := by simp [h1]
    have han := hmem S[i] (List.getElem_mem _)
    simp only [c1, decide_true, cond_true, g1, h3]
    rw [ck_eq (by simp), m42_eq x _ (fun b => bel b S[i]) _ (by omega)]
    · simp only [Option.bind_some, List.foldl_cons]
      cases hany : x.any (fun b => bel b S[i])
      · simp only [Bool.not_false, cond_true]
        rw [ck_eq (by simp; omega), ih _ ⟨by simp; omega, fun b hb => by
          simp at hb; rcases hb with hb | hb
          · exact hxn b hb
          · rw [hb]; exact han⟩]
        simp [stepL, hany]
      · simp only [Bool.not_true, cond_false]
        rw [ih _ ⟨by omega, hxn⟩]
        simp [stepL, hany]
    · intro b hb
      unfold m52_vector_least_1
      rw [m32_eq b S[i] (by rw [hxn b hb, han]) (by have := hxn b hb; omega)]; rfl
theorem m21_eq (l : List (List Int)) (hl : l.length ≤ 4096) (hs : ∀ a ∈ l, a.length < big) : m21_vector_Least l = some (bif alikeB l then (leastL l, 0) else ([], 60)) := by
  unfold m21_vector_Least
  rw [m36_eq l none (fun _ => true) (by intro _ _ _ h; cases h) (by omega)]
  cases h : alikeB l
  · simp
  · obtain ⟨n, hn⟩ := alike_len h
    have h2 : ¬ (4096 : Int) < (l.length : Int) := by omega
    have hn' : ∃ n, (∀ a ∈ l, a.length = n) ∧ n < big := by
      cases l with
      | nil => exact ⟨0, by simp, by decide⟩
      | cons b t => exact ⟨n, hn, by have := hs b (by simp); rw [hn b (by simp)] at this; exact this⟩
    obtain ⟨n, hn, hb⟩ := hn'
    rw [m37_eq l n hn (by simp [big]; omega) hb]
    simp [h2]
/-! what the least ones are -/
structure IsLeast (l r : List (List Int)) : Prop where
  sub : ∀ a ∈ r, a ∈ l
  cov : ∀ a ∈ l, ∃ y ∈ r, bel y a = true
  up : r.Pairwise fun a b => cmpL a b < 0
  anti : ∀ y ∈ r, ∀ z ∈ r, bel y z = true → y = z
theorem leastL_is {l : List (List Int)} {n : Nat} (hn : ∀ a ∈ l, a.length = n) : IsLeast l (leastL l) := by
  have T := total l
  have hp := isortM_perm (fun a b => decide (cmpL a b < 0)) l
  have hs := isortM_sorted T l fun _ h => h
  unfold leastL
  have hmem : ∀ a ∈ isortM (fun a b => decide (cmpL a b < 0)) l, a.length = n := fun a ha => hn a (hp.mem_iff.1 ha)
  have key : ∀ (s p x : List (List Int)), (∀ a ∈ p, a.length = n) → (∀ a ∈ s, a.length = n) → s.Pairwise (fun a b => decide (cmpL b a < 0) = false) → (∀ a ∈ p, ∀ b ∈ s, decide (cmpL b a < 0) = false) → IsLeast p x → IsLeast (p ++ s) (s.foldl stepL x) := by
    intro s
    induction s with
    | nil => intro p x _ _ _ _ h; simpa using h
    | cons a t ih =>
      intro p x hpn hsn hso hps h
      rw [List.append_cons]
      have hso' := List.pairwise_cons.1 hso
      have han := hsn a (by simp)
      refine ih (p ++ [a]) (stepL x a) (fun b hb => ?_) (fun b hb => hsn b (by simp [hb])) hso'.2 (fun b hb c hc => ?_) ?_
      · simp at hb; rcases hb with hb | hb
        · exact hpn b hb
        · subst hb; exact han
      · simp at hb; rcases hb with hb | hb
        · exact hps b hb c (by simp [hc])
        · subst hb; exact hso'.1 c hc
      · unfold stepL
        cases hany : x.any (fun b => bel b a)
        · simp only [cond_false]
          have hno : ∀ b ∈ x, bel b a = false := fun b hb => by
            have := List.any_eq_false.1 hany b hb; simpa using this
          have hle : ∀ b ∈ x, cmpL b a < 0 := fun b hb => by
            have h1 := hps b (h.sub b hb) a (by simp)
            simp only [decide_eq_false_iff_not] at h1
            have h2 := cmpL_anti a b
            have h3 : cmpL b a ≠ 0 := fun e => by
              have := cmpL_zero.1 e; subst this
              have := hno b hb; rw [bel_refl] at this; cases this
            omega
          refine ⟨fun b hb => ?_, fun b hb => ?_, ?_, fun y hy z hz hyz => ?_⟩
          · simp at hb ⊢; rcases hb with hb | hb
            · exact .inl (h.sub b hb)
            · exact .inr hb
          · simp at hb; rcases hb with hb | hb
            · obtain ⟨y, hy, hb'⟩ := h.cov b hb; exact ⟨y, by simp [hy], hb'⟩
            · subst hb; exact ⟨b, by simp, bel_refl b⟩
          · rw [List.pairwise_append]
            exact ⟨h.up, by simp, fun b hb c hc => by simp at hc; subst hc; exact hle b hb⟩
          · simp at hy hz
            rcases hy with hy | hy <;> rcases hz with hz | hz
            · exact h.anti y hy z hz hyz
            · subst hz; rw [hno y hy] at hyz; cases hyz
            · subst hy
              have h1 := bel_cmp (by rw [han, hpn z (h.sub z hz)]) hyz
              have h2 := hle z hz
              have h3 := cmpL_anti y z
              omega
            · rw [hy, hz]
        · simp only [cond_true]
          obtain ⟨y, hy, hya⟩ := List.any_eq_true.1 hany
          refine ⟨fun b hb => by simp [h.sub b hb], fun b hb => ?_, h.up, h.anti⟩
          simp at hb; rcases hb with hb | hb
          · exact h.cov b hb
          · subst hb; exact ⟨y, hy, hya⟩
  have := key _ [] [] (by simp) hmem hs (by simp) ⟨by simp, by simp, by simp, by simp⟩
  simp only [List.nil_append] at this
  exact ⟨fun a ha => hp.mem_iff.1 (this.sub a ha), fun a ha => this.cov a (hp.mem_iff.2 ha), this.up, this.anti⟩
theorem bel_antisymm {a b : List Int} (hl : a.length = b.length) (h1 : bel a b = true) (h2 : bel b a = true) : a = b := by
  have k1 := bel_cmp hl h1
  have k2 := bel_cmp hl.symm h2
  have k3 := cmpL_anti a b
  exact cmpL_zero.1 (by omega)
theorem IsLeast.mem {l r : List (List Int)} (h : IsLeast l r) {n : Nat} (hn : ∀ a ∈ l, a.length = n) (a : List Int) : a ∈ r ↔ a ∈ l ∧ ∀ b ∈ l, bel b a = true → b = a := by
  constructor
  · intro ha
    refine ⟨h.sub a ha, fun b hb hba => ?_⟩
    obtain ⟨y, hy, hyb⟩ := h.cov b hb
    have hya := bel_trans (by rw [hn y (h.sub y hy), hn b hb]) (by rw [hn b hb, hn a (h.sub a ha)]) hyb hba
    have := h.anti y hy a ha hya
    subst this
    exact bel_antisymm (by rw [hn b hb, hn y (h.sub y hy)]) hba hyb
  · rintro ⟨ha, hm⟩
    obtain ⟨y, hy, hya⟩ := h.cov a ha
    have := hm y (h.sub y hy) hya
    subst this; exact hy
theorem up_unique {r s : List (List Int)} (h1 : r.Pairwise fun a b => cmpL a b < 0) (h2 : s.Pairwise fun a b => cmpL a b < 0) (h : ∀ a, a ∈ r ↔ a ∈ s) : r = s := by
  have nd : ∀ {t : List (List Int)}, t.Pairwise (fun a b => cmpL a b < 0) → t.Nodup := fun ht => ht.imp (fun {a b} hab e => by subst e; have : cmpL a a = 0 := cmpL_zero.2 rfl; omega)
  refine List.Perm.eq_of_pairwise (le := fun a b => cmpL a b < 0) ?_ h1 h2 ((List.perm_ext_iff_of_nodup (nd h1) (nd h2)).2 h)
  intro a b _ _ k1 k2
  have := cmpL_anti a b; omega
/-- the least ones hang on the elements alone -/
theorem leastL_eq {l m : List (List Int)} {n : Nat} (hl : ∀ a ∈ l, a.length = n) (h : ∀ a, a ∈ l ↔ a ∈ m) : leastL l = leastL m := by
  have hm : ∀ a ∈ m, a.length = n := fun a ha => hl a ((h a).2 ha)
  have il := leastL_is hl
  have im := leastL_is hm
  refine up_unique il.up im.up fun a => ?_
  rw [il.mem hl, im.mem hm]
  constructor
  · rintro ⟨h1, h2⟩; exact ⟨(h a).1 h1, fun b hb => h2 b ((h b).2 hb)⟩
  · rintro ⟨h1, h2⟩; exact ⟨(h a).2 h1, fun b hb => h2 b ((h b).1 hb)⟩
theorem leastL_again {l : List (List Int)} {n : Nat} (hl : ∀ a ∈ l, a.length = n) : leastL (leastL l) = leastL l := by
  have il := leastL_is hl
  have hl2 : ∀ a ∈ leastL l, a.length = n := fun a ha => hl a (il.sub a ha)
  have i2 := leastL_is hl2
  refine up_unique i2.up il.up fun a => ?_
  rw [i2.mem hl2]
  constructor
  · rintro ⟨h, _⟩; exact h
  · intro h; exact ⟨h, fun b hb hba => il.anti b hb a h hba⟩
theorem leastL_len (l : List (List Int)) : (leastL l).length ≤ l.length := by
  unfold leastL
  refine Nat.le_trans (foldl_len _ _) ?_
  rw [(isortM_perm _ l).length_eq]; simp
theorem m25_eq (l : List (List Int)) (c : List Int) (hl : l.length < 9223372036854775807) (hs : ∀ a ∈ l, a.length < 9223372036854775807) :
    m25_vector_Fits l c = some (bif l.all (fun a => decide (a.length = c.length)) then (l.any (fun a => bel a c), 0) else (false, 60)) := by
  unfold m25_vector_Fits
  rw [m42_eq l _ (fun a => !decide (a.length = c.length)) _ hl]
  · simp only [Option.bind_some]
    cases h : l.all (fun a => decide (a.length = c.length))
    · have : l.any (fun a => !decide (a.length = c.length)) = true := by rw [← Bool.not_eq_false', List.not_any_eq_all_not]; simpa using h
      simp [this]
    · have : l.any (fun a => !decide (a.length = c.length)) = false := by rw [← Bool.not_eq_true', List.not_any_eq_all_not]; simpa using h
      rw [this, cond_false, cond_true, m42_eq l _ (fun a => bel a c) _ hl]
      · rfl
      · intro a ha
        have := List.all_eq_true.1 h a ha
        simp only [decide_eq_true_eq] at this
        unfold m44_vector_Fits_2; rw [m32_eq a c this (hs a ha)]; rfl
  · intro a _
    unfold m43_vector_Fits_1
    have : ((a.length : Int) = (c.length : Int)) = (a.length = c.length) := by apply propext; omega
    simp [this]
end Go.Fx


/- VectorAgain: the plain law. -/
set_option linter.unusedSimpArgs false
set_option linter.unusedVariables false
namespace Go.Fx
open Go Go.RowKit
theorem m27_refl (r : List (List Int)) (hl : r.length < 9223372036854775807) (hs : ∀ a ∈ r, a.length < 9223372036854775807) : m27_overflightref06_SameList r r = some true := by
  unfold m27_overflightref06_SameList
  have : loop1 (m27_overflightref06_SameList_B0 r r) (((r.length : Int) - 0).toNat + 1) 0 = some true := by
    refine up_list0 (fun t => some true) r hl ?_ ?_ (show r.length < ((r.length : Int) - 0).toNat + 1 by omega)
    · intro sf; unfold m27_overflightref06_SameList_B0; simp
    · intro sf i x t h1 h2 h3 ih
      obtain ⟨_, rfl⟩ := List.getElem?_eq_some_iff.1 h2
      unfold m27_overflightref06_SameList_B0
      have c1 : (i : Int) < (r.length : Int) := by omega
      have g1 : r.getD (i : Int).toNat default = r[i] := by simp [h1]
      simp only [c1, decide_true, cond_true, g1, h3]
      rw [ck_eq (by simp), ck_eq (by simp), m19_eq _ _ (hs _ (List.getElem_mem _))]
      simp [ih]
  simp only [ne_eq, not_true_eq_false, decide_false, cond_false]; exact this
theorem VectorAgain_law (l : List (List Int)) (at_ : UInt8) (hla : SmL (SmL (InK .i64)) l) (_ : SmT at_) : m10_overflightlaw06_VectorAgain l at_ = some true := by
  have ha0 : l.length < 9223372036854775807 := by have := hla.1; omega
  unfold m10_overflightlaw06_VectorAgain
  rw [sane_eq]
  simp only [Option.bind_some, jn_eq, Bool.not_true, cond_false]
  rw [few_eq l ha0]
  cases hf : (l.all (fun a => decide (a.length ≤ 20)) && decide (l.length ≤ 30))
  · simp
  obtain ⟨f1, f2⟩ := few_spec hf
  simp only [Option.bind_some, Bool.not_true, cond_false]
  by_cases h0 : (l.length : Int) = 0
  · simp [h0]
  simp only [h0, decide_false, cond_false]
  have fb : ∀ a ∈ l, a.length < big := fun a ha => by have := f1 a ha; simp only [big]; omega
  rw [m21_eq l (by omega) fb]
  simp only [Option.bind_some]
  have hmod : (at_.toNat : Int).tmod (l.length : Int) = ((at_.toNat % l.length : Nat) : Int) := by rw [Int.tmod_eq_emod_of_nonneg (by omega)]; omega
  have hlt := Nat.mod_lt at_.toNat (show 0 < l.length by omega)
  rw [hmod]
  generalize at_.toNat % l.length = k at hlt
  simp only [Int.toNat_natCast, List.nil_append, List.length_nil, Nat.zero_add]
  have tk : (l.drop k).take (l.length - k) = l.drop k := List.take_of_length_le (by simp)
  simp only [tk]
  have hT : ∀ x, x ∈ l ↔ x ∈ l.drop k ++ l := fun x => by
    simp only [List.mem_append]
    exact ⟨.inr, fun h => h.elim List.mem_of_mem_drop id⟩
  have tl : (l.drop k ++ l).length ≤ 60 := by simp; omega
  have tb : ∀ a ∈ l.drop k ++ l, a.length < big := fun a ha => fb a ((hT a).2 ha)
  rw [m21_eq (l.drop k ++ l) (by omega) tb]
  cases hb : alikeB l
  · have hb' : alikeB (l.drop k ++ l) = false := by
      cases h : alikeB (l.drop k ++ l)
      · rfl
      · obtain ⟨n, hn⟩ := alike_len h
        have := alike_of (l := l) (n := n) fun a ha => hn a ((hT a).1 ha)
        rw [hb] at this; cases this
    rw [hb']
    simp only [cond_false]
    rw [m21_eq [] (by simp) (by simp)]
    simp only [Option.bind_some]
    rw [ck_eq (by omega), ck_eq (by omega), ck_eq (by simp; omega), ck_eq (by simp; omega)]
    simp
  · obtain ⟨n, hn⟩ := alike_len hb
    have hn' : ∀ a ∈ l.drop k ++ l, a.length = n := fun a ha => hn a ((hT a).2 ha)
    have il := leastL_is hn
    have hr : ∀ a ∈ leastL l, a.length = n := fun a ha => hn a (il.sub a ha)
    have hll := leastL_len l
    rw [alike_of hn']
    simp only [cond_true]
    rw [m21_eq (leastL l) (by omega) (fun a ha => fb a (il.sub a ha)), alike_of hr, cond_true, leastL_again hn, ← leastL_eq hn hT]
    simp only [Option.bind_some]
    have same := m27_refl (leastL l) (by omega) (fun a ha => by have := f1 a (il.sub a ha); omega)
    rw [ck_eq (by omega), ck_eq (by omega), ck_eq (by simp; omega), ck_eq (by simp; omega)]
    simp only [ne_eq, not_true_eq_false, decide_false, cond_false, decide_true, cond_true, same, Option.bind_some]
end Go.Fx

