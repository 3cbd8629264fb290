/- For every list of vectors and budget, the law VectorFits of chapter 06 returns true. -/
import Derived.Test.YteohplgecfdafaaFits3
import Derived.Test.YteohplgecfdafaaRows
import Derived.WalkKit
import Derived.ShutString
/- VectorFits: the plain law. -/
set_option linter.unusedSimpArgs false
set_option linter.unusedVariables false
namespace Go.Fx
open Go Go.RowKit
theorem least_any {l : List (List Int)} {c : List Int} (h : ∀ a ∈ l, a.length = c.length) : (leastL l).any (fun a => bel a c) = l.any (fun a => bel a c) := by
  have il := leastL_is h
  apply Bool.eq_iff_iff.2
  simp only [List.any_eq_true]
  constructor
  · rintro ⟨a, ha, hb⟩; exact ⟨a, il.sub a ha, hb⟩
  · rintro ⟨a, ha, hb⟩
    obtain ⟨y, hy, hya⟩ := il.cov a ha
    exact ⟨y, hy, bel_trans (by rw [h y (il.sub y hy), h a ha]) (h a ha) hya hb⟩
theorem VectorFits_law (l : List (List Int)) (budget : List Int) (hl : SmL (SmL (InK .i64)) l) (_ : SmL (InK .i64) budget) : m6_overflightlaw06_VectorFits l budget = some true := by
  have hl0 : l.length < 9223372036854775807 := by have := hl.1; omega
  have hls : ∀ a ∈ l, a.length < 9223372036854775807 := fun a ha => by have := (hl.2 a ha).1; omega
  unfold m6_overflightlaw06_VectorFits
  rw [sane_eq]
  simp only [Option.bind_some, jn_eq, Bool.not_true, cond_false]
  rw [few_eq l hl0, m12_eq _ (by simp)]
  cases hf : (l.all (fun a => decide (a.length ≤ 20)) && decide (l.length ≤ 30))
  · simp
  obtain ⟨f1, f2⟩ := few_spec hf
  simp only [Option.bind_some, Bool.not_true, cond_false]
  cases hg : (List.all [budget] (fun a => decide (a.length ≤ 20)) && decide ([budget].length ≤ 30))
  · simp
  simp only [Bool.not_true, cond_false]
  rw [m25_eq l budget hl0 hls, m21_eq l (by omega) (fun a ha => by have := f1 a ha; simp [big]; omega)]
  simp only [Option.bind_some]
  cases hb : l.all (fun a => decide (a.length = budget.length))
  · simp
  have hn : ∀ a ∈ l, a.length = budget.length := fun a ha => by simpa using List.all_eq_true.1 hb a ha
  rw [alike_of hn]
  simp only [cond_true, ne_eq, not_true_eq_false, decide_false, cond_false]
  have hr : (leastL l).all (fun a => decide (a.length = budget.length)) = true := List.all_eq_true.2 fun a ha => by simpa using hn a ((leastL_is hn).sub a ha)
  rw [m25_eq (leastL l) budget (by have := leastL_len l; omega) (fun a ha => hls a ((leastL_is hn).sub a ha)), hr]
  simp only [Option.bind_some, cond_true, least_any hn]
  refine (up_listB (σ := Bool) (fun i x => True) (fun _ t x => some (l.any (fun a => bel a budget) == (x || t.any (fun a => bel a budget)))) l hl0 ?_ ?_ (show l.length < ((l.length : Int) - 0).toNat + 1 by omega) trivial).trans (by simp)
  · intro sf x _; unfold m6_overflightlaw06_VectorFits_B0; simp
  · intro sf i x a t h1 h2 h3 _ ih
    obtain ⟨_, rfl⟩ := List.getElem?_eq_some_iff.1 h2
    unfold m6_overflightlaw06_VectorFits_B0
    have c1 : (i : Int) < (l.length : Int) := by omega
    have g1 : l.getD (i : Int).toNat default = l[i] := by simp [h1]
    simp only [c1, decide_true, cond_true, g1, h3]
    rw [ck_eq (by simp)]
    cases x
    · rw [m28_eq _ _ (hls _ (List.getElem_mem _)), hn _ (List.getElem_mem _)]
      simp only [cond_false, Option.bind_some, decide_true, Bool.true_and, ih _ trivial, List.any_cons, Bool.false_or]
    · simp only [cond_true, ih _ trivial, Bool.true_or]
end Go.Fx


namespace Go.Proofs.Yteohplgecfdafaa.lawVectorFits
open Go Go.Proofs Go.ChangeShapes Go.WideShapes Go.ChangeAt Go.RowKit Go.Fx
open Go.ChangeMaps (open_string shut_string)
set_option linter.unusedVariables false
set_option maxRecDepth 100000
theorem own : ownKnob Try.prog.godebug = none := by kernel_rfl
theorem laidOut : laidOutB Try.prog = true := by kernel_rfl
set_option maxRecDepth 100000 in
set_option maxHeartbeats 1000000 in
theorem lifted (os : Os) (started : os.Started) (H : Type) (enc : TypeId × Value → H) :
    ReturnsInHanded {} Try.checked os 6 .any (Rows.vectorFitsSpec.pre6 enc Try.prog Try.f6 Rows.vectorFitsRow.domain false) (Rows.vectorFitsSpec.post enc Try.prog Try.f6 false true false false) := by
  refine returnsInHanded_of_change_sized (C := Try.checked) own started (by kernel_rfl) Try.func6
    (ChangeSpec.witness6 (enc := enc) (C := Try.checked) false ⟨#[], #[(.slice none 0 0), (.slice none 0 0)], []⟩ 8 (by kernel_rfl) (by kernel_rfl) (by kernel_rfl) (by kernel_rfl)) ?_
  intro W base args ds gs before hval0 hW hcnd hsz _
  have hval : ∀ (j : Nat) t v, Try.f6.params[j]? = some t → args[j]? = some v → Value.okWide Try.prog W .any base t v := hval0
  have hW' := hW
  obtain ⟨p, q, hA0, hV, rfl, hfz, hnd⟩ := hW
  have hA : DataW.TrodAll enc Try.prog W 0 (fun _ => true) true Try.f6.params.toList args.toList ds p := hA0
  rw [Try.params6] at hA hval
  obtain ⟨v0, vs0, d0, ds0, p0, q0, hargs, rfl, rfl, h0, r0⟩ := trodAll_cons hA
  obtain ⟨v1, vs1, d1, ds1, p1, q1, rfl, rfl, rfl, h1, r1⟩ := trodAll_cons r0
  obtain ⟨rfl, rfl, rfl⟩ := trodAll_nil r1
  obtain rfl : args = #[v0, v1] := by cases args; simp_all
  obtain ⟨rfl, rfl⟩ := trodVars_none hV
  have k0 := h0
  have lt0 : ∀ x ∈ p0, x.block < W.heap.size := by obtain ⟨m, hm⟩ := k0; exact DataW.trod_lt m _ _ _ hm
  obtain ⟨fu0, hf0⟩ := h0
  obtain ⟨l, rr0, sm0⟩ := rd33.2 _ _ _ hf0
  replace sm0 := sm0 (fun n hn => by have := List.all_eq_true.1 hsz n (DataW.weights_mem_each (j := 0) (t := 33) rfl rfl n hn); simpa using this)
  obtain ⟨b0, l0, c0, rfl⟩ := okWide_slice Try.underlying33 (hval 0 33 v0 rfl rfl)
  replace rr0 : (rSl (rSl (rInt .i64))).rd W [] [.slice b0 l0 c0] l := rr0
  obtain ⟨a_l, c_l, e0, f_l⟩ := un_sl rr0
  simp only [Value.slice.injEq] at e0
  obtain ⟨rfl, rfl, rfl⟩ := e0
  have k1 := h1
  have lt1 : ∀ x ∈ p1, x.block < W.heap.size := by obtain ⟨m, hm⟩ := k1; exact DataW.trod_lt m _ _ _ hm
  obtain ⟨fu1, hf1⟩ := h1
  obtain ⟨budget, rr1, sm1⟩ := rd22.2 _ _ _ hf1
  replace sm1 := sm1 (fun n hn => by have := List.all_eq_true.1 hsz n (DataW.weights_mem_each (j := 1) (t := 22) rfl rfl n hn); simpa using this)
  obtain ⟨b1, l1, c1, rfl⟩ := okWide_slice Try.underlying22 (hval 1 22 v1 rfl rfl)
  replace rr1 : (rSl (rInt .i64)).rd W [] [.slice b1 l1 c1] budget := rr1
  obtain ⟨a_budget, c_budget, e1, f_budget⟩ := un_sl rr1
  simp only [Value.slice.injEq] at e1
  obtain ⟨rfl, rfl, rfl⟩ := e1
  have hm : m6_overflightlaw06_VectorFits l budget = some true := VectorFits_law _ _ sm0 sm1
  have hc := Fn.calls (c6_overflightlaw06_VectorFits (l := l) (budget := budget) (w := W) (O := []) (by simp) f_l f_budget hm)
  clear hA0 hval0
  refine Calls.mono hc ?_
  rintro e W' ⟨v, rfl, bel, hv⟩
  replace bel := bel.below; obtain rfl : v = .bool true := hv
  exact ⟨_, rfl, _, _, _, [], _, [], hW', trodAll_mk1 (shut_bool Try.underlying4 _), (trodAll_cons_mk (Below.trod laidOut (by kernel_rfl) (of_decide_eq_true (by kernel_rfl)) k0 bel lt0) (trodAll_cons_mk (Below.trod laidOut (by kernel_rfl) (of_decide_eq_true (by kernel_rfl)) k1 bel lt1) trodAll_mk0)), rfl, bel.frame _, fun h => by cases h⟩
theorem over : Rows.vectorFitsRow.holds Try.pinned (OpenSpec.ofChange Rows.vectorFitsSpec) :=
  OpenClaim.holds_of_wide 6 Try.f6 rfl rfl rfl rfl rfl rfl rfl ⟨rfl, rfl, rfl, rfl, rfl⟩ rfl rfl rfl rfl rfl (by kernel_rfl) Try.func6 (by kernel_rfl)
    (of_decide_eq_true (by kernel_rfl)) (by unfold Func.isWrapper; first | (rw [if_pos (by decide +kernel)]; kernel_rfl) | (rw [if_neg (by decide +kernel)]; exact ⟨rfl, rfl⟩))
    (fun os started H enc _ => lifted os started H enc)
theorem proved : Rows.VectorFitsSaid := over
end Go.Proofs.Yteohplgecfdafaa.lawVectorFits

