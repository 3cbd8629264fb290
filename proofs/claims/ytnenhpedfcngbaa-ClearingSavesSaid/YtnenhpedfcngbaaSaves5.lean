/- The best round costs no more than no round at all, and where it costs the same nobody moves. -/
import Derived.Test.YtnenhpedfcngbaaSaves4
import Derived.Test.YtnenhpedfcngbaaRows
import Derived.WalkKit
import Derived.ShutString
/- Chapter 37: deviations and what blocks. -/
set_option linter.unusedSimpArgs false
set_option linter.unusedVariables false
namespace Go.Fx
open Go Go.RowKit
/-- the flights of a group -/
def flB (r : XRound) (group : List Int) : List Int := (ownL r).filter fun f => group.any fun x => decide (ownr r f = x)
theorem mem_ownL {r : XRound} {f : Int} : f ∈ ownL r ↔ 0 ≤ f ∧ f < r.owners.length := by
  unfold ownL; simp only [List.mem_map, List.mem_range]
  constructor
  · rintro ⟨i, hi, rfl⟩; omega
  · rintro ⟨h1, h2⟩; exact ⟨f.toNat, by omega, by omega⟩
theorem mem_flB {r : XRound} {g : List Int} {f : Int} : f ∈ flB r g ↔ (0 ≤ f ∧ f < r.owners.length) ∧ ownr r f ∈ g := by
  unfold flB; rw [List.mem_filter, mem_ownL]
  simp only [List.any_eq_true, decide_eq_true_eq, exists_eq_right']
theorem flB_len (r : XRound) (g : List Int) : (flB r g).length ≤ r.owners.length := by have := List.length_filter_le (fun f => g.any fun x => decide (ownr r f = x)) (ownL r); rwa [ownL_len] at this
def okf (r : XRound) (fl : List Int) (n : Nat) (s : Int) : Bool := decide (0 ≤ cst r (fl.getD n default) s)
def devL (r : XRound) (fl : List Int) : List (List Int) := dv fl (okf r fl) fl.length []
theorem contains_any (b : List Int) (s : Int) : (b.any fun x => decide (s = x)) = b.contains s := by
  rw [Bool.eq_iff_iff]; simp
theorem dev_eq (r : XRound) (fl : List Int) (hv : Val r) (hl : fl.length ≤ 8) (hf : ∀ f ∈ fl, 0 ≤ f ∧ f < r.owners.length) : ∀ (N : Nat) (b : List Int), b.length ≤ fl.length → fl.length - b.length < N → fixO (fun fx20 x21 => m89_coalition_deviations_1_1 x21 fl r fx20) N b = some (dv fl (okf r fl) (fl.length - b.length) b) := by
  intro N
  induction N with
  | zero => intro b _ h; omega
  | succ N ih =>
    intro b hb hN
    show m89_coalition_deviations_1_1 b fl r (fixO (fun fx20 x21 => m89_coalition_deviations_1_1 x21 fl r fx20) N) = _
    generalize fixO (fun fx20 x21 => m89_coalition_deviations_1_1 x21 fl r fx20) N = FX at ih ⊢
    unfold m89_coalition_deviations_1_1
    by_cases q : b.length = fl.length
    · have q' : (b.length : Int) = fl.length := by omega
      rw [decide_eq_true q', cond_true]
      unfold m40_slices_Cloneint_int_
      rw [ck_eq (by simp; omega), show fl.length - b.length = 0 by omega]
      rfl
    · have q' : ¬ (b.length : Int) = fl.length := by omega
      rw [decide_eq_false q', cond_false]
      obtain ⟨k, hk⟩ : ∃ k, fl.length - b.length = k + 1 := ⟨fl.length - b.length - 1, by omega⟩
      rw [hk]
      refine up_list0 (fun t => some (t.flatMap fun s => bif okf r fl b.length s && !b.contains s then dv fl (okf r fl) k (b ++ [s]) else [])) fl (by omega) ?_ ?_ (by omega)
      · intro sf; unfold m89_coalition_deviations_1_1_B0; simp
      · intro sf i x t h1 h2 h3 ih2
        have hx : fl.getD (i : Int).toNat default = x := getD_of h2
        have hxm : x ∈ fl := List.mem_of_getElem? h2
        have hbm : fl.getD b.length default ∈ fl := getD_mem (by omega)
        have a1 := hf _ hxm
        have a2 := hf _ hbm
        have hrow := hv.row (fl.getD b.length default).toNat (by omega)
        unfold m89_coalition_deviations_1_1_B0
        have c1 : (0 : Int) ≤ i ∧ (i : Int) < fl.length := by omega
        have c2 : (0 : Int) ≤ (b.length : Int) ∧ (b.length : Int) < fl.length := by omega
        have c3 : (0 : Int) ≤ fl.getD b.length default ∧ fl.getD b.length default < r.costs.length := by have := hv.s4; omega
        have c4 : (0 : Int) ≤ x ∧ x < ((r.costs.getD (fl.getD b.length default).toNat default).length : Int) := by have := hv.s3; omega
        have e1 : (r.costs.getD (fl.getD b.length default).toNat default).getD x.toNat default = cst r (fl.getD b.length default) x := rfl
        simp only [decide_eq_true c1.2, cond_true, ck_eq c1, hx, ck_eq c2, ck_eq c3, ck_eq c4]
        rw [List.flatMap_cons, e1, h3, ih2]
        have hok : okf r fl b.length x = decide (0 ≤ cst r (fl.getD b.length default) x) := rfl
        rw [hok]
        cases decide (0 ≤ cst r (fl.getD b.length default) x)
        · rfl
        · rw [cond_true, Bool.true_and, m48_eq b x (by omega), contains_any]
          cases hc : b.contains x
          · have c5 : (0 : Int) ≤ (b.length : Int) ∧ (b.length : Int) ≤ (b.length : Int) := by omega
            have e2 : (b.drop 0).take (b.length - 0) = b := by simp
            have c6 : (b.length + [x].length) * 8 ≤ 140737488355328 := by simp; omega
            have c7 : 0 < [x].length := by simp
            simp only [Option.bind_some, Bool.not_false, cond_true, ck_eq c5, e2, ck_eq c6, ck_eq c7]
            rw [ih (b ++ [x]) (by simp; omega) (by simp; omega)]
            rw [show fl.length - (b ++ [x]).length = k by simp; omega]
            rfl
          · rfl
theorem m69_eq (r : XRound) (fl : List Int) (hv : Val r) (hl : fl.length ≤ 8) (hf : ∀ f ∈ fl, 0 ≤ f ∧ f < r.owners.length) : m69_coalition_deviations r fl = some (devL r fl) := by
  unfold m69_coalition_deviations m88_coalition_deviations_1
  rw [dev_eq r fl hv hl hf 1000000 [] (by simp) (by simp; omega)]
  simp [apl, devL]
/-- x is better for all airlines of the group -/
def bet (r : XRound) (than group fl x : List Int) : Bool := group.all fun o => decide ((cvec r fl x).getD o.toNat default < than.getD o.toNat default)
def blk (r : XRound) (than group : List Int) : List Int × Bool := match (devL r (flB r group)).find? (bet r than group (flB r group)) with
  | some x => (x, true)
  | none => ([], false)
theorem gd_get {fl : List Int} {ok : Nat → Int → Bool} : ∀ {t b : List Int}, gd fl ok b t ↔ ∀ i < t.length, t.getD i default ∈ fl ∧ ok (b.length + i) (t.getD i default) = true ∧ t.getD i default ∉ b ∧ ∀ j < i, t.getD j default ≠ t.getD i default := by
  intro t
  induction t with
  | nil => intro b; simp [gd]
  | cons s t ih =>
    intro b
    unfold gd
    rw [ih]
    constructor
    · rintro ⟨h1, h2, h3, h4⟩ i hi
      cases i with
      | zero => exact ⟨h1, h2, h3, fun j hj => by omega⟩
      | succ i =>
        obtain ⟨k1, k2, k3, k4⟩ := h4 i (by simpa using hi)
        rw [List.getD_cons_succ]
        refine ⟨k1, ?_, fun h => k3 (List.mem_append_left _ h), fun j hj => ?_⟩
        · rw [← k2]; congr 1; simp; omega
        · cases j with
          | zero => rw [List.getD_cons_zero]; intro e; exact k3 (List.mem_append_right _ (by simp [e]))
          | succ j => rw [List.getD_cons_succ]; exact k4 j (by omega)
    · intro h
      obtain ⟨a1, a2, a3, _⟩ := h 0 (by simp)
      refine ⟨a1, a2, a3, fun i hi => ?_⟩
      obtain ⟨k1, k2, k3, k4⟩ := h (i + 1) (by simpa using hi)
      rw [List.getD_cons_succ] at k1 k2 k3 k4
      refine ⟨k1, ?_, fun hm => ?_, fun j hj => ?_⟩
      · rw [← k2]; congr 1; simp; omega
      · rcases List.mem_append.1 hm with hm | hm
        · exact k3 hm
        · have := k4 0 (by omega); rw [List.getD_cons_zero] at this; exact this (List.mem_singleton.1 hm).symm
      · have := k4 (j + 1) (by omega); rwa [List.getD_cons_succ] at this
theorem mem_devL {r : XRound} {fl x : List Int} : x ∈ devL r fl ↔ x.length = fl.length ∧ ∀ i < x.length, x.getD i default ∈ fl ∧ 0 ≤ cst r (fl.getD i default) (x.getD i default) ∧ ∀ j < i, x.getD j default ≠ x.getD i default := by
  unfold devL
  rw [mem_dv]
  constructor
  · rintro ⟨t, rfl, hl, hg⟩
    refine ⟨hl, fun i hi => ?_⟩
    obtain ⟨h1, h2, _, h4⟩ := gd_get.1 hg i hi
    refine ⟨h1, ?_, h4⟩
    unfold okf at h2; simpa using h2
  · rintro ⟨hl, h⟩
    refine ⟨x, rfl, hl, gd_get.2 fun i hi => ?_⟩
    obtain ⟨h1, h2, h3⟩ := h i hi
    refine ⟨h1, ?_, by simp, h3⟩
    unfold okf; simpa using h2
theorem fits_dev {r : XRound} {fl x : List Int} (hv : Val r) (hf : ∀ f ∈ fl, 0 ≤ f ∧ f < r.owners.length) (h : x ∈ devL r fl) : ∀ i < fl.length, fits r (fl.getD i default) (x.getD i default) := by
  intro i hi
  obtain ⟨hl, h⟩ := mem_devL.1 h
  obtain ⟨h1, _⟩ := h i (by omega)
  have a1 := hf _ (getD_mem hi)
  have a2 := hf _ h1
  have := hv.s3
  exact ⟨a1.1, a1.2, a2.1, by omega⟩
/-- a group of airlines -/
def grp (g : List Int) : Prop := ∀ o ∈ g, 0 ≤ o ∧ o < 8
theorem m49_eq (r : XRound) (than group : List Int) (hv : Val r) (ht : than.length = 8) (hg : grp group) (hgl : group.length < 9223372036854775807) : m49_coalition_blocks r than group = some (blk r than group) := by
  unfold m49_coalition_blocks
  have hn8 := hv.n8
  have hfl : ∀ f ∈ flB r group, 0 ≤ f ∧ f < r.owners.length := fun f hf => (mem_flB.1 hf).1
  have hfn : (flB r group).length ≤ 8 := by have := flB_len r group; omega
  refine up_listA (fun i l => l.length ≤ i ∧ l ++ ((List.range' i (r.owners.length - i)).map fun j : Nat => (j : Int)).filter (fun f => group.any fun x => decide (ownr r f = x)) = flB r group) (fun _ _ _ => some (blk r than group)) r.owners (by omega) ?_ ?_ (by omega) ⟨Nat.le_refl _, by simp [flB, ownL, List.range_eq_range']⟩
  · intro sf l hI
    have hI := hI.2
    rw [Nat.sub_self] at hI
    simp only [List.range'_zero, List.map_nil, List.filter_nil, List.append_nil] at hI
    subst hI
    unfold m49_coalition_blocks_B0
    have c1 : ¬ (r.owners.length : Int) < r.owners.length := by omega
    rw [decide_eq_false c1, cond_false, m69_eq r _ hv hfn hfl]
    simp only [Option.bind_some, jn_eq]
    unfold blk
    have main : ∀ L : List (List Int), (∀ x ∈ L, x ∈ devL r (flB r group)) → rng2 (m49_coalition_blocks_B1 r than group (flB r group) fun v_3 v_4 => some (v_4, v_3)) (fun v_3 v_4 => some (([] : List Int), false)) L false ([] : List Int) = some (match L.find? (bet r than group (flB r group)) with
  | some x => (x, true)
  | none => ([], false)) := by
      intro L
      induction L with
      | nil => intro _; rw [rng2_nil, List.find?_nil]
      | cons x t ih =>
        intro hL
        have hx := hL x (List.mem_cons_self ..)
        have ih := ih fun y hy => hL y (List.mem_cons_of_mem _ hy)
        rw [rng2_cons]
        generalize rng2 (m49_coalition_blocks_B1 r than group (flB r group) fun v_3 v_4 => some (v_4, v_3)) (fun v_3 v_4 => some (([] : List Int), false)) t = SF at ih ⊢
        unfold m49_coalition_blocks_B1
        rw [m46_eq r _ x hv (by omega) (by rw [(mem_devL.1 hx).1]; exact Nat.le_refl _) (fits_dev hv hfl hx)]
        rw [Option.bind_some]
        have hcl : (cvec r (flB r group) x).length = 8 := by simp [cvec]
        rw [List.find?_cons]
        have : bet r than group (flB r group) x = group.all fun o => decide ((cvec r (flB r group) x).getD o.toNat default < than.getD o.toNat default) := rfl
        rw [this]
        clear this
        generalize cvec r (flB r group) x = now at *
        have lp : loop1 (m49_coalition_blocks_B2 than group (fun v_3 v_4 => some (v_4, v_3)) false [] SF x now) (((group.length : Int) - 0).toNat + 1) 0 = bif (group.all fun o => decide (now.getD o.toNat default < than.getD o.toNat default)) then some (x, true) else SF false [] := by
          refine up_list0 (fun t => bif (t.all fun o => decide (now.getD o.toNat default < than.getD o.toNat default)) then some (x, true) else SF false []) group hgl ?_ ?_ (show group.length < ((group.length : Int) - 0).toNat + 1 by omega)
          · intro sf; unfold m49_coalition_blocks_B2; simp
          · intro sf i y u h1 h2 h3 ih2
            unfold m49_coalition_blocks_B2
            have hy : group.getD (i : Int).toNat default = y := getD_of h2
            have ho := hg y (List.mem_of_getElem? h2)
            have c1 : (0 : Int) ≤ i ∧ (i : Int) < group.length := by omega
            have c2 : (0 : Int) ≤ y ∧ y < now.length := by omega
            have c3 : (0 : Int) ≤ y ∧ y < than.length := by omega
            simp only [decide_eq_true c1.2, cond_true, ck_eq c1, hy, ck_eq c2, ck_eq c3, h3, ih2, List.all_cons]
            by_cases q : than.getD y.toNat default ≤ now.getD y.toNat default
            · have q2 : ¬ now.getD y.toNat default < than.getD y.toNat default := by omega
              rw [decide_eq_true q, decide_eq_false q2]; rfl
            · have q2 : now.getD y.toNat default < than.getD y.toNat default := by omega
              rw [decide_eq_false q, decide_eq_true q2]; rfl
        rw [lp]
        cases (group.all fun o => decide (now.getD o.toNat default < than.getD o.toNat default))
        · exact ih
        · rfl
    exact main _ fun x h => h
  · intro sf i l y t h1 h2 h3 hI ih
    unfold m49_coalition_blocks_B0
    have c1 : (0 : Int) ≤ i ∧ (i : Int) < r.owners.length := by omega
    have e1 : r.owners.getD (i : Int).toNat default = ownr r i := rfl
    have c2 : (l.length + [(i : Int)].length) * 8 ≤ 140737488355328 := by have := hI.1; simp; omega
    simp only [decide_eq_true c1.2, cond_true, ck_eq c1, e1, m48_eq group _ hgl, Option.bind_some, ck_eq c2, h3]
    obtain ⟨k, hk⟩ : ∃ k, r.owners.length - i = k + 1 := ⟨r.owners.length - i - 1, by omega⟩
    obtain ⟨hI1, hI2⟩ := hI
    rw [hk, List.range'_succ, List.map_cons, List.filter_cons] at hI2
    have hk2 : r.owners.length - (i + 1) = k := by omega
    cases hq : (group.any fun x => decide (ownr r (i : Int) = x))
    · rw [hq] at hI2
      rw [cond_false]
      exact ih _ ⟨by omega, by rw [hk2]; simpa using hI2⟩
    · rw [hq] at hI2
      rw [cond_true]
      exact ih _ ⟨by simp; omega, by rw [hk2]; simpa using hI2⟩
end Go.Fx



/- Chapter 37: stable assignments, members, better. -/
set_option linter.unusedSimpArgs false
set_option linter.unusedVariables false
namespace Go.Fx
open Go Go.RowKit
def bitOn (b o : Nat) : Bool := !decide ((Go.bits .and .i64 ((b : Int) / 2 ^ min o (IntKind.bits .i64)) 1) = 0)
def grpOf (b : Nat) : List Int := ((List.range 8).filter (bitOn b)).map fun o : Nat => (o : Int)
theorem grpOf_grp (b : Nat) : grp (grpOf b) := by
  intro o ho
  unfold grpOf at ho
  simp only [List.mem_map, List.mem_filter, List.mem_range] at ho
  obtain ⟨a, ⟨h, _⟩, rfl⟩ := ho; omega
def hasF (r : XRound) (o : Int) : Bool := r.owners.any fun x => decide (o = x)
/-- group b blocks -/
def stB (r : XRound) (than : List Int) (b : Nat) : Bool := ((List.range 8).all fun o : Nat => !bitOn b o || hasF r o) && (!decide (((grpOf b).length : Int) = 0) && (blk r than (grpOf b)).2)
theorem m23_loop (r : XRound) (than : List Int) (hv : Val r) (ht : than.length = 8) : loop1 (m23_coalition_Stable_B0 r than) (((256 : Int) - 0).toNat + 1) 0 = some (!(List.range 256).any (stB r than), 0) := by
  rw [List.range_eq_range']
  refine (up_listI (fun i t => some (!(List.range' i t.length).any (stB r than), 0)) (List.range' 0 256) (by rw [List.length_range']; omega) ?_ ?_ (show (List.range' 0 256).length < ((256 : Int) - 0).toNat + 1 by rw [List.length_range']; omega)).trans (by rw [List.length_range'])
  · intro sf; unfold m23_coalition_Stable_B0; rw [List.length_range']; rfl
  · intro sf b x t h1 h2 h3 ih
    rw [List.length_range'] at h1
    rw [List.length_cons, any_range']
    unfold m23_coalition_Stable_B0
    rw [decide_eq_true (show (b : Int) < 256 by omega), cond_true, jn_eq, h3, ih]
    generalize (List.range' (b + 1) t.length).any (stB r than) = rest
    refine (up_listB (s := ([] : List Int)) (fun i s => s = ((List.range i).filter (bitOn b)).map fun o : Nat => (o : Int)) (fun i t s => bif (List.range' i t.length).all (fun o : Nat => !bitOn b o || hasF r o) then (bif (!decide (((grpOf b).length : Int) = 0) && (blk r than (grpOf b)).2) then some (false, 0) else some (!rest, 0)) else some (!rest, 0)) (List.range' 0 8) (by rw [List.length_range']; omega) ?_ ?_ (show (List.range' 0 8).length < ((8 : Int) - 0).toNat + 1 by rw [List.length_range']; omega) (by rfl)).trans ?_
    · intro sg s hI
      rw [List.length_range'] at hI ⊢
      have hI : s = grpOf b := hI
      subst hI
      unfold m23_coalition_Stable_B1
      rw [m49_eq r than _ hv ht (grpOf_grp b) (by have := List.length_filter_le (bitOn b) (List.range 8); unfold grpOf; simp at this ⊢; omega)]
      rw [show (List.range' 8 ([] : List Nat).length).all (fun o : Nat => !bitOn b o || hasF r o) = true from rfl]
      rw [decide_eq_false (show ¬ ((8 : Nat) : Int) < 8 by omega), Option.bind_some, cond_false]
      cases decide (((grpOf b).length : Int) = 0) <;> cases (blk r than (grpOf b)).2 <;> rfl
    · intro sg o s y u j1 j2 j3 hI ih2
      rw [List.length_range'] at j1
      rw [List.length_cons, all_range']
      unfold m23_coalition_Stable_B1
      have c1 : (0 : Int) ≤ o := by omega
      have c2 : (s.length + [(o : Int)].length) * 8 ≤ 140737488355328 := by
        have := List.length_filter_le (bitOn b) (List.range o)
        rw [hI]; simp at this ⊢; omega
      have hb : decide ((Go.bits .and .i64 ((b : Int) / 2 ^ min (o : Int).toNat (IntKind.bits .i64)) 1) = 0) = !bitOn b o := by unfold bitOn; rw [Bool.not_not, Int.toNat_natCast]
      rw [decide_eq_true (show (o : Int) < 8 by omega), cond_true, ck_eq c1, hb, j3]
      have hI' : ∀ s', s' = s ++ (([o].filter (bitOn b)).map fun o : Nat => (o : Int)) → s' = ((List.range (o + 1)).filter (bitOn b)).map fun o : Nat => (o : Int) := by
        intro s' h; rw [h, hI, List.range_succ, List.filter_append, List.map_append]
      have hm := m48_eq r.owners (o : Int) (by have := hv.n8; omega)
      rw [hm]
      have hh : hasF r o = r.owners.any fun x => decide ((o : Int) = x) := rfl
      rw [← hh]
      cases hbo : bitOn b o
      · rw [Bool.not_false, cond_true, ih2 _ (hI' _ (by rw [List.filter_cons, hbo]; simp))]
        rfl
      · rw [Bool.not_true, cond_false, Option.bind_some]
        cases hasF r o
        · rfl
        · rw [Bool.not_true, cond_false, ck_eq c2, ih2 _ (hI' _ (by rw [List.filter_cons, hbo]; simp))]
          rfl
    · rw [List.length_range']
      unfold stB
      rw [List.range_eq_range']
      cases (List.range' 0 8).all (fun o : Nat => !bitOn b o || hasF r o) <;> cases (!decide (((grpOf b).length : Int) = 0) && (blk r than (grpOf b)).2) <;> rfl
def stableB (r : XRound) (s : List Int) : Bool := decide (worseL r s = []) && !(List.range 256).any (stB r (cvec r (ownL r) s))
theorem m23_eq (r : XRound) (s : List Int) (hs : smXRound r) (hl : s.length < 9223372036854775807) : m23_coalition_Stable r s = some (bif goodB r s then (stableB r s, 0) else (false, 370)) := by
  unfold m23_coalition_Stable
  rw [m27_eq r s hs hl]
  cases hg : goodB r s
  · rfl
  obtain ⟨hv, ha⟩ := good_props hg
  simp only [cond_true, Option.bind_some, jn_eq]
  rw [m47_eq r hv, Option.bind_some, cvec_asg hv ha, Option.bind_some, m23_loop r _ hv (by simp [cvec])]
  unfold stableB
  by_cases q : worseL r s = []
  · rw [q]; rfl
  · have : (0 : Int) < (worseL r s).length := by have := List.length_pos_iff.2 q; omega
    rw [decide_eq_true this, decide_eq_false q]; rfl
end Go.Fx



/- Chapter 37: what blocks is not stable. -/
set_option linter.unusedSimpArgs false
set_option linter.unusedVariables false
namespace Go.Fx
open Go Go.RowKit
end Go.Fx



/- The chapter's examples. -/
namespace Go.Fx
open Go Go.RowKit
theorem sane38 : m10_overflightlaw38_sane = some true := by kernel_rfl
end Go.Fx



/- Chapter 38: values, assignments, the best one. -/
set_option linter.unusedSimpArgs false
set_option linter.unusedVariables false
namespace Go.Fx
open Go Go.RowKit
theorem ipos38 {l n : Nat} (h : n < l) : ((n : Int) < (l : Int)) := by omega
/-- by the first place that differs -/
def lexC : List Int → List Int → Int
  | [], [] => 0
  | [], _ :: _ => -1
  | _ :: _, [] => 1
  | x :: s, y :: t => if x < y then -1 else if y < x then 1 else lexC s t
theorem lexC_self : ∀ a, lexC a a = 0
  | [] => rfl
  | x :: s => by unfold lexC; rw [if_neg (by omega), if_neg (by omega)]; exact lexC_self s
theorem lexC_lt {x y : Int} {s t : List Int} (h : x < y) : lexC (x :: s) (y :: t) = -1 := if_pos h
theorem lexC_gt {x y : Int} {s t : List Int} (h : y < x) : lexC (x :: s) (y :: t) = 1 := (if_neg (by omega)).trans (if_pos h)
theorem lexC_same {x : Int} {s t : List Int} : lexC (x :: s) (x :: t) = lexC s t := (if_neg (Int.lt_irrefl x)).trans (if_neg (Int.lt_irrefl x))
theorem lexC_neg : ∀ a b, lexC a b = - lexC b a
  | [], [] => by simp [lexC]
  | [], _ :: _ => by simp [lexC]
  | _ :: _, [] => by simp [lexC]
  | x :: s, y :: t => by
    rcases Int.lt_trichotomy x y with h | rfl | h
    · rw [lexC_lt h, lexC_gt h]
    · rw [lexC_same, lexC_same]; exact lexC_neg s t
    · rw [lexC_lt h, lexC_gt h]; rfl
theorem lexC_trans : ∀ a b c, lexC a b ≤ 0 → lexC b c ≤ 0 → lexC a c ≤ 0 ∧ (lexC a c = 0 → lexC a b = 0 ∧ lexC b c = 0)
  | [], [], [], _, _ => by simp [lexC]
  | [], _ :: _, [], _, h2 => by simp [lexC] at h2
  | [], _, _ :: _, h1, h2 => by simp [lexC]
  | _ :: _, [], c, h1, h2 => by simp [lexC] at h1
  | x :: s, y :: t, [], h1, h2 => by simp [lexC] at h2
  | x :: s, y :: t, z :: u, h1, h2 => by
    rcases Int.lt_trichotomy x y with q1 | rfl | q1
    · rcases Int.lt_trichotomy y z with q2 | rfl | q2
      · rw [lexC_lt (show x < z by omega)]; simp
      · rw [lexC_lt q1]; simp
      · rw [lexC_gt q2] at h2; omega
    · rcases Int.lt_trichotomy x z with q2 | rfl | q2
      · rw [lexC_lt q2]; simp
      · rw [lexC_same] at h1 h2 ⊢; rw [lexC_same, lexC_same]; exact lexC_trans s t u h1 h2
      · rw [lexC_gt q2] at h2; omega
    · rw [lexC_gt q1] at h1; omega
theorem m63_eq (x y : Int) : m63_cmp_Compare x y = some (if x < y then -1 else if y < x then 1 else 0) := by
  unfold m63_cmp_Compare m81_cmp_isNaN
  simp only [ne_eq, not_true_eq_false, decide_false, Option.bind_some, cond_false]
  by_cases h1 : x < y
  · simp [h1]
  · by_cases h2 : y < x
    · simp [h1, h2]
    · simp [h1, h2]
theorem m39_eq (a b : List Int) (hl : a.length < 9223372036854775807) : m39_slices_Compareint_int_ a b = some (lexC a b) := by
  unfold m39_slices_Compareint_int_
  refine (up_list (L := fun n i (_ : Unit) => loop1 (m39_slices_Compareint_int__B0 a b) n i) (fun i _ => i ≤ b.length) (fun i t _ => some (lexC t (b.drop i))) a hl ?_ ?_ _ () (by omega) (Nat.zero_le _))
  · intro n _ h
    simp only [loop1_succ]
    unfold m39_slices_Compareint_int__B0
    rw [decide_eq_false (Int.lt_irrefl _), cond_false]
    by_cases h2 : a.length < b.length
    · rw [decide_eq_true (ipos38 h2), cond_true, List.drop_eq_getElem_cons h2]; rfl
    · rw [decide_eq_false (by omega), cond_false, List.drop_eq_nil_of_le (by omega)]; rfl
  · intro n i _ x t h1 h2 h3 h ih
    simp only [loop1_succ]
    generalize loop1 (m39_slices_Compareint_int__B0 a b) n = L at ih ⊢
    unfold m39_slices_Compareint_int__B0
    have g1 : a.getD (i : Int).toNat default = x := getD_of h2
    rw [decide_eq_true (ipos38 h1), cond_true, ck_eq (by omega), g1]
    by_cases h4 : b.length ≤ i
    · rw [decide_eq_true (by omega), cond_true, List.drop_eq_nil_of_le h4]; rfl
    · have h5 : i < b.length := by omega
      have g2 : b.getD (i : Int).toNat default = b[i] := by simp [h5]
      rw [decide_eq_false (by omega), cond_false, ck_eq (by omega), g2, m63_eq, Option.bind_some, List.drop_eq_getElem_cons h5, h3, ih () (by omega)]
      rcases Int.lt_trichotomy x b[i] with q | q | q
      · rw [lexC_lt q, if_pos q]; rfl
      · rw [q, lexC_same, if_neg (by omega), if_neg (by omega)]; rfl
      · rw [lexC_gt q, if_neg (by omega), if_pos q]; rfl
/-- costs and moves from place i on -/
def vsum (r : XRound) : Nat → List Int → Int
  | _, [] => 0
  | i, x :: t => cst r i x + vsum r (i + 1) t
def vmov : Nat → List Int → Int
  | _, [] => 0
  | i, x :: t => (if x = (i : Int) then 0 else 1) + vmov (i + 1) t
def valV (r : XRound) (s : List Int) : List Int := [vsum r 0 s, vmov 0 s]
theorem m30_eq (r : XRound) (s : List Int) (hv : Val r) (hl : s.length = r.owners.length) (hs : ∀ i < s.length, 0 ≤ s.getD i default ∧ s.getD i default < r.slots) : m30_clearing_value r s = some (valV r s) := by
  have h8 := hv.n8
  unfold m30_clearing_value
  refine (up_listB (B := m30_clearing_value_B0 r s) (σ := List Int) (fun i v => ∃ a c : Int, v = [a, c] ∧ -(1048576 * (i : Int)) ≤ a ∧ a ≤ 1048576 * (i : Int) ∧ 0 ≤ c ∧ c ≤ (i : Int)) (fun i t v => some [v.getD 0 default + vsum r i t, v.getD 1 default + vmov i t]) s (by omega) ?_ ?_ (by omega) ⟨0, 0, rfl, by simp⟩).trans (by simp [valV])
  · rintro sf v ⟨a, c, rfl, _⟩
    unfold m30_clearing_value_B0
    rw [decide_eq_false (Int.lt_irrefl _)]; simp [vsum, vmov]
  · rintro sf i v x t h1 h2 h3 ⟨a, c, rfl, b1, b2, b3, b4⟩ ih
    have g1 : s.getD (i : Int).toNat default = x := getD_of h2
    obtain ⟨k1, k2⟩ := hs i h1
    have g2 : s.getD i default = x := g1
    rw [g2] at k1 k2
    have hrow := hv.row i (by omega)
    have hc := fits.cst hv (f := (i : Int)) (s := x) ⟨by omega, by omega, k1, k2⟩
    have e1 : (r.costs.getD (i : Int).toNat default).getD x.toNat default = cst r i x := rfl
    have w1 : IntKind.wrap .i64 (a + cst r i x) = a + cst r i x := wrap_i64 (by omega) (by omega)
    have w2 : IntKind.wrap .i64 (c + 1) = c + 1 := wrap_i64 (by omega) (by omega)
    have hci := hv.s4
    have c1 : (0 : Int) ≤ (i : Int) ∧ (i : Int) < (s.length : Int) := by omega
    have c2 : (0 : Int) ≤ (i : Int) ∧ (i : Int) < (r.costs.length : Int) := by omega
    have c3 : (0 : Int) ≤ x ∧ x < ((r.costs.getD (i : Int).toNat default).length : Int) := by rw [Int.toNat_natCast]; omega
    have c4 : (0 : Int) ≤ 0 ∧ 0 < (([a, c] : List Int).length : Int) := by simp
    have c5 : (0 : Int) ≤ 1 ∧ 1 < (([a + cst r i x, c] : List Int).length : Int) := by simp
    unfold m30_clearing_value_B0
    simp only [decide_eq_true c1.2, cond_true, ck_eq c1, g1, ck_eq c2, ck_eq c3, ck_eq c4, e1, show ([a, c] : List Int).getD 0 default = a from rfl, w1, show ([a, c] : List Int).set 0 (a + cst r i x) = [a + cst r i x, c] from rfl, ck_eq c5, show ([a + cst r i x, c] : List Int).getD 1 default = c from rfl, w2, show ([a + cst r i x, c] : List Int).set 1 (c + 1) = [a + cst r i x, c + 1] from rfl, h3]
    by_cases hm : x = (i : Int)
    · rw [decide_eq_false (fun h => h hm), cond_false, ih _ ⟨_, _, rfl, by omega, by omega, by omega, by omega⟩]
      simp [vsum, vmov, hm]; omega
    · rw [decide_eq_true hm, cond_true, ih _ ⟨_, _, rfl, by omega, by omega, by omega, by omega⟩]
      simp [vsum, vmov, hm]; omega
theorem asg_in {r : XRound} {s : List Int} (h : asgB r s = true) : ∀ i < s.length, 0 ≤ s.getD i default ∧ s.getD i default < r.slots := fun i hi => by
  obtain ⟨b1, b2, _⟩ := (asg_props h).2 i hi; exact ⟨b1, b2⟩
theorem val_good {r : XRound} {s : List Int} (h : goodB r s = true) : m30_clearing_value r s = some (valV r s) := by
  obtain ⟨hv, ha⟩ := good_props h
  exact m30_eq r s hv (asg_props ha).1 (asg_in ha)
theorem m12_eq (r : XRound) (s : List Int) (hs : smXRound r) (hl : s.length < 9223372036854775807) : m12_clearing_Value r s = some (bif goodB r s then (valV r s, 0) else ([], 370)) := by
  unfold m12_clearing_Value
  rw [m22_eq r s hs hl]
  cases hg : goodB r s
  · rfl
  · simp [val_good hg]
/-- all slots, in order -/
def slL (r : XRound) : List Int := (List.range r.slots.toNat).map fun i : Nat => (i : Int)
def okA (r : XRound) (n : Nat) (s : Int) : Bool := decide (0 ≤ cst r n s)
/-- all assignments, in order -/
def asgL (r : XRound) : List (List Int) := dv (slL r) (okA r) r.owners.length []
theorem slL_len (r : XRound) : (slL r).length = r.slots.toNat := by simp [slL]
theorem mem_slL {r : XRound} {s : Int} : s ∈ slL r ↔ 0 ≤ s ∧ s < r.slots := by
  unfold slL
  simp only [List.mem_map, List.mem_range]
  constructor
  · rintro ⟨i, h, rfl⟩; omega
  · rintro ⟨h1, h2⟩; exact ⟨s.toNat, by omega, by omega⟩
theorem mem_asgL {r : XRound} {s : List Int} : s ∈ asgL r ↔ asgB r s = true := by
  unfold asgL
  rw [mem_dv]
  constructor
  · rintro ⟨t, ht0, ht, hg⟩
    rw [List.nil_append] at ht0
    rw [ht0]
    rw [gd_get] at hg
    unfold asgB
    simp only [Bool.and_eq_true, decide_eq_true_eq, List.all_eq_true, List.mem_range]
    refine ⟨ht, fun i hi => ?_⟩
    obtain ⟨h1, h2, h3, h4⟩ := hg i hi
    have h5 := mem_slL.1 h1
    have h6 := of_decide_eq_true h2
    rw [List.length_nil, Nat.zero_add] at h6
    unfold okS
    simp only [Bool.not_eq_true', Bool.or_eq_false_iff, decide_eq_false_iff_not, List.any_eq_false, decide_eq_true_eq]
    refine ⟨by omega, by omega, by omega, fun x hx e => ?_⟩
    obtain ⟨j, hj, rfl⟩ := List.getElem_of_mem hx
    rw [List.length_take] at hj
    have := h4 j (by omega)
    rw [List.getElem_take] at e
    rw [getD_getElem (show j < t.length by omega)] at this
    exact this e.symm
  · intro h
    obtain ⟨h1, h2⟩ := asg_props h
    refine ⟨s, by simp, h1, gd_get.2 fun i hi => ?_⟩
    obtain ⟨b1, b2, b3, b4⟩ := h2 i hi
    refine ⟨mem_slL.2 ⟨b1, b2⟩, ?_, by simp, b4⟩
    rw [List.length_nil, Nat.zero_add]
    exact decide_eq_true b3
theorem contains_snoc {b : List Int} {i s : Int} (e : ¬ i = s) : (b ++ [i]).contains s = b.contains s := by
  rw [Bool.eq_iff_iff]
  simp only [List.contains_eq_mem, decide_eq_true_eq, List.mem_append, List.mem_singleton]
  exact ⟨fun h => h.elim id (fun h => absurd h.symm e), .inl⟩
theorem asg_eq (r : XRound) (hv : Val r) : ∀ (N : Nat) (b : List Int) (mp : List (Int × Bool)), b.length ≤ r.owners.length → r.owners.length - b.length < N → (∀ s, (mget mp s).getD false = b.contains s) →
    ∃ mp', (∀ s, (mget mp' s).getD false = b.contains s) ∧ fixO (fun fx x => m61_clearing_assignments_1_1 x.1 r x.2 fx) N (b, mp) = some (dv (slL r) (okA r) (r.owners.length - b.length) b, mp') := by
  have h8 := hv.n8
  have hs2 := hv.s2
  intro N
  induction N with
  | zero => intro b mp _ h; omega
  | succ N ih =>
    intro b mp hb hN hI
    show ∃ mp', _ ∧ m61_clearing_assignments_1_1 b r mp (fixO (fun fx x => m61_clearing_assignments_1_1 x.1 r x.2 fx) N) = _
    generalize fixO (fun fx x => m61_clearing_assignments_1_1 x.1 r x.2 fx) N = FX at ih ⊢
    unfold m61_clearing_assignments_1_1
    by_cases q : b.length = r.owners.length
    · rw [decide_eq_true (by omega), cond_true, show r.owners.length - b.length = 0 by omega]
      exact ⟨mp, hI, rfl⟩
    · rw [decide_eq_false (by omega), cond_false]
      obtain ⟨k, hk⟩ : ∃ k, r.owners.length - b.length = k + 1 := ⟨r.owners.length - b.length - 1, by omega⟩
      rw [hk]
      have main : ∀ (t : List Int) (i f : Nat) (mp : List (Int × Bool)), (slL r).drop i = t → i ≤ (slL r).length → t.length < f → (∀ s, (mget mp s).getD false = b.contains s) →
          ∃ mp', (∀ s, (mget mp' s).getD false = b.contains s) ∧ loop2 (m61_clearing_assignments_1_1_B0 b r FX) f (i : Int) mp = some (t.flatMap fun s => bif okA r b.length s && !b.contains s then dv (slL r) (okA r) k (b ++ [s]) else [], mp') := by
        intro t
        induction t with
        | nil =>
          intro i f mp hd hi hf hI
          have he : (slL r).length ≤ i := by have := congrArg List.length hd; rw [List.length_drop, List.length_nil] at this; omega
          rw [slL_len] at he
          obtain ⟨f, rfl⟩ : ∃ f', f = f' + 1 := ⟨f - 1, by simp at hf; omega⟩
          refine ⟨mp, hI, ?_⟩
          rw [loop2_succ]; unfold m61_clearing_assignments_1_1_B0
          rw [decide_eq_false (by omega)]; rfl
        | cons x t iht =>
          intro i f mp hd hi hf hI
          obtain ⟨f, rfl⟩ : ∃ f', f = f' + 1 := ⟨f - 1, by simp at hf; omega⟩
          have hlt : i < (slL r).length := by have := congrArg List.length hd; simp at this; omega
          have hx : (slL r)[i] = x := by rw [List.drop_eq_getElem_cons hlt] at hd; exact (List.cons.inj hd).1
          have ht : (slL r).drop (i + 1) = t := by rw [List.drop_eq_getElem_cons hlt] at hd; exact (List.cons.inj hd).2
          have hxi : x = (i : Int) := by rw [← hx]; simp [slL]
          rw [slL_len] at hlt
          subst hxi
          have hrow := hv.row b.length (by omega)
          have hc4 := hv.s4
          rw [loop2_succ]
          have iht' := fun mp h => iht (i + 1) f mp ht (by rw [slL_len]; omega) (by simp at hf; omega) h
          generalize loop2 (m61_clearing_assignments_1_1_B0 b r FX) f = L at iht' ⊢
          unfold m61_clearing_assignments_1_1_B0
          have c1 : (0 : Int) ≤ (b.length : Int) ∧ (b.length : Int) < (r.costs.length : Int) := by omega
          have c2 : (0 : Int) ≤ (i : Int) ∧ (i : Int) < ((r.costs.getD b.length default).length : Int) := by omega
          have e1 : (r.costs.getD b.length default).getD (i : Int).toNat default = cst r (b.length : Int) (i : Int) := rfl
          rw [decide_eq_true (show (i : Int) < r.slots by omega), cond_true]
          simp only [jn_eq, ck_eq c1, ck_eq c2, hI, e1, wrapS (show i + 1 < 9223372036854775808 by omega), List.flatMap_cons]
          rw [show (i : Int) + 1 = ((i + 1 : Nat) : Int) by omega]
          cases hcon : b.contains (i : Int)
          · rw [cond_false]
            by_cases hneg : cst r (b.length : Int) (i : Int) < 0
            · have hok : okA r b.length (i : Int) = false := decide_eq_false (by omega)
              obtain ⟨mp', k1, k2⟩ := iht' mp hI
              refine ⟨mp', k1, ?_⟩
              rw [decide_eq_true hneg, cond_true, k2, hok]; rfl
            · have hok : okA r b.length (i : Int) = true := decide_eq_true (by omega)
              have hclip : m62_slices_Clipint_int_ b = some b := by unfold m62_slices_Clipint_int_; rw [ck_eq (by omega)]; simp
              obtain ⟨m1, j1, j2⟩ := ih (b ++ [(i : Int)]) (mput mp (i : Int) true) (by simp; omega) (by simp; omega) (fun s => by
                rw [mget_put]
                by_cases e : (i : Int) = s
                · subst e; simp
                · rw [if_neg e, hI, contains_snoc e])
              obtain ⟨mp', k1, k2⟩ := iht' (mput m1 (i : Int) false) (fun s => by
                rw [mget_put]
                by_cases e : (i : Int) = s
                · subst e; rw [if_pos rfl, hcon]; rfl
                · rw [if_neg e, j1, contains_snoc e])
              refine ⟨mp', k1, ?_⟩
              rw [decide_eq_false hneg, cond_false, hclip, Option.bind_some, ck_eq (by simp; omega), ck_eq (by simp), j2, hok]
              rw [show r.owners.length - (b ++ [(i : Int)]).length = k by simp; omega]
              show aplM (some _) _ = _
              unfold aplM
              simp only [Option.bind_some, k2, Option.map_some, Bool.not_false, Bool.and_self, cond_true]
          · obtain ⟨mp', k1, k2⟩ := iht' mp hI
            refine ⟨mp', k1, ?_⟩
            rw [cond_true, cond_true, k2]; simp
      obtain ⟨mp', k1, k2⟩ := main (slL r) 0 ((r.slots - 0).toNat + 1) mp rfl (Nat.zero_le _) (by rw [slL_len]; omega) hI
      exact ⟨mp', k1, k2⟩
theorem m38_eq (r : XRound) (hv : Val r) : m38_clearing_assignments r = some (asgL r) := by
  obtain ⟨mp', h1, h2⟩ := asg_eq r hv 1000000 [] [] (by simp) (by have := hv.n8; simp; omega) (fun s => by simp [mget])
  unfold m38_clearing_assignments m60_clearing_assignments_1
  have h2' : fixO (fun fx37 x38 => m61_clearing_assignments_1_1 x38.1 r x38.2 fx37) 1000000 (([] : List Int), ([] : List (Int × Bool))) = some (asgL r, mp') := h2
  rw [h2']
  simp [aplI]
end Go.Fx



/- Chapter 38: the best assignment. -/
set_option linter.unusedSimpArgs false
set_option linter.unusedVariables false
namespace Go.Fx
open Go Go.RowKit
theorem lexC_pre : ∀ (b s t : List Int), lexC (b ++ s) (b ++ t) = lexC s t
  | [], _, _ => rfl
  | x :: b, s, t => by rw [List.cons_append, List.cons_append, lexC_same]; exact lexC_pre b s t
theorem dv_sorted {fl : List Int} {ok : Nat → Int → Bool} (hf : fl.Pairwise (· < ·)) : ∀ (k : Nat) (b : List Int), (dv fl ok k b).Pairwise fun x y => lexC x y < 0
  | 0, b => by simp [dv]
  | k + 1, b => by
    unfold dv
    rw [List.pairwise_flatMap]
    refine ⟨fun s hs => ?_, hf.imp fun {s s'} hlt x hx y hy => ?_⟩
    · cases (ok b.length s && !b.contains s)
      · exact List.Pairwise.nil
      · exact dv_sorted hf k _
    · cases h1 : (ok b.length s && !b.contains s)
      · rw [h1] at hx; cases hx
      cases h2 : (ok b.length s' && !b.contains s')
      · rw [h2] at hy; cases hy
      rw [h1, cond_true, mem_dv] at hx
      rw [h2, cond_true, mem_dv] at hy
      obtain ⟨t, rfl, _⟩ := hx
      obtain ⟨t', rfl, _⟩ := hy
      rw [List.append_assoc, List.append_assoc, lexC_pre]
      have : lexC (s :: t) (s' :: t') = -1 := lexC_lt hlt
      rw [List.singleton_append, List.singleton_append, this]; decide
theorem slL_sorted (r : XRound) : (slL r).Pairwise (· < ·) := by
  unfold slL
  rw [List.pairwise_map]
  exact List.pairwise_lt_range.imp fun h => by omega
theorem asgL_sorted (r : XRound) : (asgL r).Pairwise fun x y => lexC x y < 0 := dv_sorted (slL_sorted r) _ _
/-- before, in the published order -/
def bef (v : List Int → List Int) (z w : List Int) : Prop := lexC (v z) (v w) < 0 ∨ lexC (v z) (v w) = 0 ∧ lexC z w ≤ 0
theorem bef_refl (v : List Int → List Int) (z : List Int) : bef v z z := .inr ⟨lexC_self _, by rw [lexC_self]; exact Int.le_refl _⟩
theorem bef_trans {v : List Int → List Int} {x y z : List Int} (h1 : bef v x y) (h2 : bef v y z) : bef v x z := by
  have a1 : lexC (v x) (v y) ≤ 0 := by rcases h1 with h | h <;> omega
  have a2 : lexC (v y) (v z) ≤ 0 := by rcases h2 with h | h <;> omega
  obtain ⟨b1, b2⟩ := lexC_trans _ _ _ a1 a2
  by_cases h0 : lexC (v x) (v z) = 0
  · obtain ⟨c1, c2⟩ := b2 h0
    refine .inr ⟨h0, ?_⟩
    have d1 : lexC x y ≤ 0 := by rcases h1 with h | h <;> omega
    have d2 : lexC y z ≤ 0 := by rcases h2 with h | h <;> omega
    exact (lexC_trans _ _ _ d1 d2).1
  · exact .inl (by omega)
def btr (v : List Int → List Int) : Option (List Int) → List Int → Bool
  | none, _ => true
  | some y, x => decide (lexC (v x) (v y) < 0)
/-- the first of the least that are allowed -/
def pick (v : List Int → List Int) (p : List Int → Bool) : Option (List Int) → List (List Int) → Option (List Int)
  | acc, [] => acc
  | acc, x :: t => pick v p (bif btr v acc x && p x then some x else acc) t
theorem pick_spec {v : List Int → List Int} {p : List Int → Bool} : ∀ (L : List (List Int)) (acc : Option (List Int)), L.Pairwise (fun x y => lexC x y < 0) → (∀ y, acc = some y → p y = true ∧ ∀ x ∈ L, lexC y x < 0) →
    (pick v p acc L = none ∧ acc = none ∧ ∀ x ∈ L, p x = false) ∨ ∃ z, pick v p acc L = some z ∧ p z = true ∧ (z ∈ L ∨ acc = some z) ∧ (∀ w ∈ L, p w = true → bef v z w) ∧ ∀ y, acc = some y → bef v z y
  | [], none, _, _ => .inl ⟨rfl, rfl, by simp⟩
  | [], some y, _, h => .inr ⟨y, rfl, (h y rfl).1, .inr rfl, by simp, fun y' e => by cases e; exact bef_refl v y⟩
  | x :: t, acc, hL, h => by
    have hL' := List.pairwise_cons.1 hL
    unfold pick
    cases hc : (btr v acc x && p x)
    · rw [cond_false]
      rcases pick_spec t acc hL'.2 (fun y e => ⟨(h y e).1, fun w hw => (h y e).2 w (List.mem_cons_of_mem _ hw)⟩) with ⟨a1, a2, a3⟩ | ⟨z, a1, a2, a3, a4, a5⟩
      · refine .inl ⟨a1, a2, fun w hw => ?_⟩
        rcases List.mem_cons.1 hw with rfl | hw
        · subst a2; exact hc
        · exact a3 w hw
      · refine .inr ⟨z, a1, a2, a3.imp (List.mem_cons_of_mem _) id, fun w hw hp => ?_, a5⟩
        rcases List.mem_cons.1 hw with rfl | hw
        · cases acc with
          | none => rw [hp] at hc; exact absurd (show (true && true) = false from hc) (by decide)
          | some y =>
            rw [hp, Bool.and_true] at hc
            have h1 : ¬ lexC (v w) (v y) < 0 := of_decide_eq_false (p := lexC (v w) (v y) < 0) hc
            have e1 := lexC_neg (v y) (v w)
            have h2 := (h y rfl).2 w List.mem_cons_self
            refine bef_trans (a5 y rfl) ?_
            unfold bef; omega
        · exact a4 w hw hp
    · rw [cond_true]
      have hp : p x = true := by simp only [Bool.and_eq_true] at hc; exact hc.2
      rcases pick_spec t (some x) hL'.2 (fun y e => by cases e; exact ⟨hp, hL'.1⟩) with ⟨a1, a2, a3⟩ | ⟨z, a1, a2, a3, a4, a5⟩
      · cases a2
      · refine .inr ⟨z, a1, a2, .inl ?_, fun w hw hp => ?_, fun y e => ?_⟩
        · rcases a3 with a3 | a3
          · exact List.mem_cons_of_mem _ a3
          · cases a3; exact List.mem_cons_self
        · rcases List.mem_cons.1 hw with rfl | hw
          · exact a5 _ rfl
          · exact a4 w hw hp
        · subst e
          simp only [Bool.and_eq_true] at hc
          exact bef_trans (a5 x rfl) (.inl (of_decide_eq_true (p := lexC (v x) (v y) < 0) hc.1))
/-- the best stable assignment -/
def bestR (r : XRound) : Option (List Int) := pick (valV r) (stableB r) none (asgL r)
theorem bestR_spec (r : XRound) : (bestR r = none ∧ ∀ x ∈ asgL r, stableB r x = false) ∨ ∃ z, bestR r = some z ∧ stableB r z = true ∧ asgB r z = true ∧ ∀ w, asgB r w = true → stableB r w = true → bef (valV r) z w := by
  rcases pick_spec (v := valV r) (p := stableB r) (asgL r) none (asgL_sorted r) (by simp) with ⟨a1, _, a3⟩ | ⟨z, a1, a2, a3, a4, _⟩
  · exact .inl ⟨a1, a3⟩
  · refine .inr ⟨z, a1, a2, ?_, fun w hw => a4 w (mem_asgL.2 hw)⟩
    rcases a3 with a3 | a3
    · exact mem_asgL.1 a3
    · cases a3
def bestM (r : XRound) : List Int × Int := match bestR r with | none => ([], 380) | some x => (x, 0)
theorem asg_len {r : XRound} {s : List Int} (hv : Val r) (h : asgB r s = true) : s.length ≤ 8 := by rw [(asg_props h).1]; exact hv.n8
theorem m18_eq (r : XRound) (hr : smXRound r) : m18_clearing_Best r = some (bif valB r then bestM r else ([], 370)) := by
  unfold m18_clearing_Best
  rw [m25_eq r hr]
  cases hvb : valB r
  · rfl
  have hv := Val.of hvb
  simp only [Option.bind_some, cond_true, ne_eq, not_true_eq_false, decide_false, cond_false, jn_eq, m38_eq r hv]
  have main : ∀ (L : List (List Int)) (acc : Option (List Int)), (∀ x ∈ L, asgB r x = true) →
      rng3 (m18_clearing_Best_B0 r) (fun (v_1 : List Int) (v_1n : Bool) (v_2 : List Int) => bif v_1n then some (([] : List Int), (380 : Int)) else some (v_2, 0)) L (match acc with | none => [] | some y => valV r y) (match acc with | none => true | some _ => false) (match acc with | none => [] | some y => y) =
        some (match pick (valV r) (stableB r) acc L with | none => ([], 380) | some x => (x, 0)) := by
    intro L
    induction L with
    | nil =>
      intro acc _
      rw [rng3_nil]
      cases acc <;> rfl
    | cons x t ih =>
      intro acc hL
      have ha := hL x List.mem_cons_self
      have hg : goodB r x = true := by unfold goodB; rw [hvb, ha]; rfl
      have hxl := asg_len hv ha
      have ih' := fun acc => ih acc fun w hw => hL w (List.mem_cons_of_mem _ hw)
      rw [rng3_cons]
      generalize rng3 (m18_clearing_Best_B0 r) (fun (v_1 : List Int) (v_1n : Bool) (v_2 : List Int) => bif v_1n then some (([] : List Int), (380 : Int)) else some (v_2, 0)) t = sf at ih' ⊢
      have hcl : m40_slices_Cloneint_int_ x = some x := by unfold m40_slices_Cloneint_int_; rw [ck_eq (by simp; omega)]; rfl
      have h2 : 0 < (valV r x).length := by simp [valV]
      unfold m18_clearing_Best_B0 pick btr
      simp only [val_good hg, Option.bind_some, jn_eq, m23_eq r x hr (by omega), hg, cond_true, decide_true, hcl, ck_eq h2]
      cases acc with
      | none =>
        simp only [Bool.not_true, cond_false, Bool.true_and]
        cases hs : stableB r x
        · exact ih' none
        · exact ih' (some x)
      | some y =>
        simp only [Bool.not_false, cond_true]
        rw [m39_eq _ _ (by simp [valV]), Option.bind_some]
        by_cases hc : 0 ≤ lexC (valV r x) (valV r y)
        · rw [decide_eq_true hc, cond_true, decide_eq_false (show ¬ lexC (valV r x) (valV r y) < 0 by omega), Bool.false_and, cond_false]
          exact ih' (some y)
        · rw [decide_eq_false hc, cond_false, decide_eq_true (show lexC (valV r x) (valV r y) < 0 by omega), Bool.true_and]
          cases hs : stableB r x
          · exact ih' (some y)
          · exact ih' (some x)
  exact main (asgL r) none fun x hx => mem_asgL.1 hx
theorem m11_eq (r : XRound) (hr : smXRound r) : m11_overflightref38_Few r = some (fewB r && (decide ((r.owners.length : Int) ≤ 5) && decide (r.slots ≤ 6))) := by
  unfold m11_overflightref38_Few
  rw [m29_eq r hr]
  cases fewB r
  · rfl
  · rw [Option.bind_some, cond_true]
    cases decide ((r.owners.length : Int) ≤ 5) <;> rfl
theorem good_of {r : XRound} {s : List Int} (hvb : valB r = true) (h : asgB r s = true) : goodB r s = true := by unfold goodB; rw [hvb, h]; rfl
end Go.Fx



/- ClearingSaves. -/
set_option linter.unusedSimpArgs false
set_option linter.unusedVariables false
namespace Go.Fx
open Go Go.RowKit
theorem asg_own {r : XRound} (hv : Val r) : asgB r (ownL r) = true := by
  unfold asgB
  simp only [Bool.and_eq_true, decide_eq_true_eq, List.all_eq_true, List.mem_range]
  refine ⟨ownL_len r, fun i hi => ?_⟩
  rw [ownL_len] at hi
  unfold okS
  rw [ownL_getD hi]
  have h3 := hv.s3
  have hd := hv.diag i hi
  have e : cst r (i : Int) (i : Int) = (r.costs.getD i default).getD i default := by unfold cst; simp
  have ha : ((ownL r).take i).any (fun x => decide ((i : Int) = x)) = false := by
    rw [List.any_eq_false]
    intro x hx hc
    have hx' := of_decide_eq_true hc
    obtain ⟨j, hj, hje⟩ := List.getElem_of_mem hx
    rw [List.length_take, ownL_len] at hj
    rw [List.getElem_take] at hje
    have : (ownL r)[j]'(by rw [ownL_len]; omega) = (j : Int) := by simp [ownL]
    omega
  rw [ha, e, decide_eq_false (show ¬ ((i : Int) < 0) by omega), decide_eq_false (show ¬ (r.slots ≤ (i : Int)) by omega), decide_eq_false (show ¬ (r.costs.getD i default).getD i default < 0 by omega)]
  rfl
theorem worse_own (r : XRound) : worseL r (ownL r) = [] := by
  unfold worseL
  rw [List.map_eq_nil_iff, List.filter_eq_nil_iff]
  intro i _ h
  have := of_decide_eq_true h
  omega
/-- all costs -/
def tot (r : XRound) : List (Int × Int) → Int
  | [] => 0
  | p :: t => cst r p.1 p.2 + tot r t
theorem vsum_tot (r : XRound) : ∀ (s : List Int) (i : Nat), vsum r i s = tot r (((List.range' i s.length).map fun j : Nat => (j : Int)).zip s)
  | [], _ => rfl
  | x :: t, i => by
    unfold vsum
    rw [vsum_tot r t (i + 1), List.length_cons, List.range'_succ]; rfl
theorem vsum_own {r : XRound} {s : List Int} (h : s.length = r.owners.length) : vsum r 0 s = tot r ((ownL r).zip s) := by
  rw [vsum_tot, h]; unfold ownL; rw [List.range_eq_range']
theorem eight (f : Nat → Int) : ((List.range 8).map f).foldl (· + ·) 0 = f 0 + f 1 + f 2 + f 3 + f 4 + f 5 + f 6 + f 7 := by
  simp [List.range_succ]
theorem tot_csum {r : XRound} : ∀ {l : List (Int × Int)}, (∀ p ∈ l, 0 ≤ ownr r p.1 ∧ ownr r p.1 < 8) →
    tot r l = csum (ownr r) (cst r) 0 l + csum (ownr r) (cst r) 1 l + csum (ownr r) (cst r) 2 l + csum (ownr r) (cst r) 3 l + csum (ownr r) (cst r) 4 l + csum (ownr r) (cst r) 5 l + csum (ownr r) (cst r) 6 l + csum (ownr r) (cst r) 7 l
  | [], _ => rfl
  | (f, s) :: t, h => by
    have ih := tot_csum (l := t) fun p hp => h p (List.mem_cons_of_mem _ hp)
    obtain ⟨h1, h2⟩ := h (f, s) List.mem_cons_self
    simp only at h1 h2
    unfold tot csum
    simp only
    have h8 : ownr r f = 0 ∨ ownr r f = 1 ∨ ownr r f = 2 ∨ ownr r f = 3 ∨ ownr r f = 4 ∨ ownr r f = 5 ∨ ownr r f = 6 ∨ ownr r f = 7 := by omega
    rcases h8 with e | e | e | e | e | e | e | e <;> rw [e] <;> simp <;> omega
theorem zip_own8 {r : XRound} (hv : Val r) (s : List Int) : ∀ p ∈ (ownL r).zip s, 0 ≤ ownr r p.1 ∧ ownr r p.1 < 8 := by
  intro p hp
  have := (List.of_mem_zip hp).1
  have h := mem_ownL.1 this
  exact hv.own p.1.toNat (by omega)
theorem cvec_get {r : XRound} {fl s : List Int} {o : Nat} (h : o < 8) : (cvec r fl s).getD o default = csum (ownr r) (cst r) (o : Int) (fl.zip s) := by
  unfold cvec; exact getD_map_range h
theorem vmov_nonneg : ∀ (s : List Int) (i : Nat), 0 ≤ vmov i s
  | [], _ => Int.le_refl _
  | x :: t, i => by unfold vmov; have := vmov_nonneg t (i + 1); split <;> omega
theorem vmov_own : ∀ (n i : Nat), vmov i ((List.range' i n).map fun j : Nat => (j : Int)) = 0
  | 0, _ => rfl
  | n + 1, i => by rw [List.range'_succ, List.map_cons]; unfold vmov; rw [if_pos rfl, vmov_own n (i + 1)]; rfl
theorem sum_loop {r : XRound} {v w c : List Int × Int} (hb : ∀ x ∈ c.1, -(16777216 : Int) ≤ x ∧ x ≤ 16777216) (hl : c.1.length = 8) :
    loop2 (m6_overflightlaw38_ClearingSaves_B1 v w c) (((c.1.length : Int) - 0).toNat + 1) 0 0 = m6_overflightlaw38_ClearingSaves_B1 v w c (fun _ _ => none) (c.1.foldl (· + ·) 0) (c.1.length : Int) := by
  refine up_listB (B := m6_overflightlaw38_ClearingSaves_B1 v w c) (σ := Int) (fun i s => -(16777216 * (i : Int)) ≤ s ∧ s ≤ 16777216 * (i : Int)) (fun _ t s => m6_overflightlaw38_ClearingSaves_B1 v w c (fun _ _ => none) (t.foldl (· + ·) s) (c.1.length : Int)) c.1 (by omega) ?_ ?_ (by omega) (by simp)
  · intro sf s _
    unfold m6_overflightlaw38_ClearingSaves_B1
    rw [decide_eq_false (Int.lt_irrefl _)]; rfl
  · intro sf i s x t h1 h2 h3 hI ih
    have hx := hb x (List.mem_of_getElem? h2)
    have g1 : c.1.getD (i : Int).toNat default = x := getD_of h2
    have e : m6_overflightlaw38_ClearingSaves_B1 v w c sf s (i : Int) = sf (IntKind.wrap .i64 (s + x)) (IntKind.wrap .i64 ((i : Int) + 1)) := by
      unfold m6_overflightlaw38_ClearingSaves_B1
      rw [decide_eq_true (ipos38 h1), cond_true, ck_eq (by omega), g1]
    rw [e, h3, wrap_i64 (by omega) (by omega), ih _ (by omega)]; rfl
theorem ClearingSaves_law (r : XRound) (hr : smXRound r) : m6_overflightlaw38_ClearingSaves r = some true := by
  unfold m6_overflightlaw38_ClearingSaves
  rw [sane38, m11_eq r hr]
  simp only [Option.bind_some, Bool.not_true, cond_false, jn_eq]
  cases (fewB r && (decide ((r.owners.length : Int) ≤ 5) && decide (r.slots ≤ 6)))
  · rfl
  simp only [Bool.not_true, cond_false]
  rw [m18_eq r hr]
  simp only [Option.bind_some]
  cases hvb : valB r
  · rfl
  have hv := Val.of hvb
  have h8 := hv.n8
  rw [cond_true]
  rcases bestR_spec r with ⟨b1, b2⟩ | ⟨z, b1, b2, b3, b4⟩
  · unfold bestM; rw [b1]; rfl
  have hz : goodB r z = true := good_of hvb b3
  have hzl := asg_len hv b3
  have ho : goodB r (ownL r) = true := good_of hvb (asg_own hv)
  have hol := ownL_len r
  unfold bestM; rw [b1]
  simp only [ne_eq, not_true_eq_false, decide_false, cond_false]
  -- what one has without the round
  refine up_listB (B := m6_overflightlaw38_ClearingSaves_B0 r (z, 0)) (fun i s => s = (List.range i).map fun j : Nat => (j : Int)) (fun _ _ _ => some true) r.owners (by omega) ?_ ?_ (by omega) (by rfl)
  rotate_left
  · intro sf i s x t h1 h2 h3 hI ih
    unfold m6_overflightlaw38_ClearingSaves_B0
    rw [decide_eq_true (ipos38 h1), cond_true, ck_eq (by rw [hI]; simp; omega), h3, ih _ (by rw [hI, List.range_succ]; simp)]
  · intro sf s hI
    have hI : s = ownL r := hI
    subst hI
    unfold m6_overflightlaw38_ClearingSaves_B0
    rw [decide_eq_false (Int.lt_irrefl _), cond_false, m12_eq r z hr (by omega), m12_eq r _ hr (by omega), m22_eq r z hr (by omega), hz, ho]
    simp only [Option.bind_some, cond_true, jn_eq, ne_eq, not_true_eq_false, decide_false, cond_false]
    have k0 : (0 : Int) ≤ 0 ∧ 0 < ((valV r z).length : Int) := by simp [valV]
    have k1 : (0 : Int) ≤ 0 ∧ 0 < ((valV r (ownL r)).length : Int) := by simp [valV]
    have k2 : (0 : Int) ≤ 1 ∧ 1 < ((valV r z).length : Int) := by simp [valV]
    have v0 : (valV r z).getD 0 default = vsum r 0 z := rfl
    have v1 : (valV r z).getD 1 default = vmov 0 z := rfl
    have w0 : (valV r (ownL r)).getD 0 default = vsum r 0 (ownL r) := rfl
    -- sums
    have t1 := (vsum_own (r := r) (asg_props b3).1).trans (tot_csum (zip_own8 hv z))
    have t2 := (vsum_own (r := r) hol).trans (tot_csum (zip_own8 hv (ownL r)))
    obtain ⟨st1, st2⟩ : worseL r z = [] ∧ (List.range 256).any (stB r (cvec r (ownL r) z)) = false := by unfold stableB at b2; simpa using b2
    have hle : ∀ o : Nat, o < 8 → csum (ownr r) (cst r) (o : Int) ((ownL r).zip z) ≤ csum (ownr r) (cst r) (o : Int) ((ownL r).zip (ownL r)) := by
      intro o h
      unfold worseL at st1
      rw [List.map_eq_nil_iff, List.filter_eq_nil_iff] at st1
      have := st1 o (List.mem_range.2 h)
      rw [cvec_get h, cvec_get h] at this
      simp only [decide_eq_true_eq] at this; omega
    have q0 := hle 0 (by decide); have q1 := hle 1 (by decide); have q2 := hle 2 (by decide); have q3 := hle 3 (by decide)
    have q4 := hle 4 (by decide); have q5 := hle 5 (by decide); have q6 := hle 6 (by decide); have q7 := hle 7 (by decide)
    simp only [Int.natCast_zero, Int.natCast_one, Int.cast_ofNat_Int] at q0 q1 q2 q3 q4 q5 q6 q7
    have hlt : ¬ vsum r 0 (ownL r) < vsum r 0 z := by rw [t1, t2]; omega
    simp only [ck_eq k0, ck_eq k1, v0, w0]
    rw [decide_eq_false hlt, cond_false]
    have hcl : (cvec r (ownL r) z).length = 8 := by simp [cvec]
    have hb : ∀ x ∈ cvec r (ownL r) z, -(16777216 : Int) ≤ x ∧ x ≤ 16777216 := by
      intro x hx
      unfold cvec at hx
      obtain ⟨o, _, rfl⟩ := List.mem_map.1 hx
      have := csum_bound (own := ownr r) (cost := cst r) (o := (o : Int)) (b := 1048576) (l := (ownL r).zip z) (by omega) (fun p hp => by
        obtain ⟨j, hj, rfl⟩ := List.getElem_of_mem hp
        simp at hj
        have := fits.cst hv (fits_asg hv b3 j (by omega))
        rw [getD_getElem (by omega), getD_getElem (by omega)] at this
        simp only [List.getElem_zip]; omega)
      have hle : ((ownL r).zip z).length ≤ 8 := by simp; omega
      have : (1048576 : Int) * ((ownL r).zip z).length ≤ 1048576 * 8 := by omega
      omega
    rw [sum_loop (c := (cvec r (ownL r) z, 0)) (r := r) hb hcl]
    have hsum : (cvec r (ownL r) z).foldl (· + ·) 0 = vsum r 0 z := by
      rw [t1]; unfold cvec; rw [eight]; simp
    simp only [hsum]
    unfold m6_overflightlaw38_ClearingSaves_B1
    rw [decide_eq_false (Int.lt_irrefl _), cond_false, ck_eq k0, decide_eq_true v0.symm, cond_true, ck_eq k0, ck_eq k1, ck_eq k2, v0, v1, w0]
    by_cases hlt2 : vsum r 0 z < vsum r 0 (ownL r)
    · rw [decide_eq_true hlt2]; rfl
    · rw [decide_eq_false hlt2, cond_false]
      have heq : vsum r 0 z = vsum r 0 (ownL r) := by omega
      have hcv : cvec r (ownL r) (ownL r) = cvec r (ownL r) z := by
        unfold cvec
        refine List.map_congr_left fun o ho => ?_
        rw [List.mem_range] at ho
        rw [t1, t2] at heq
        have h8 : o = 0 ∨ o = 1 ∨ o = 2 ∨ o = 3 ∨ o = 4 ∨ o = 5 ∨ o = 6 ∨ o = 7 := by omega
        rcases h8 with e | e | e | e | e | e | e | e <;> subst e <;> simp only [Int.natCast_zero, Int.natCast_one, Int.cast_ofNat_Int] <;> omega
      have hso : stableB r (ownL r) = true := by unfold stableB; rw [worse_own, hcv, st2]; rfl
      have hm : vmov 0 (ownL r) = 0 := by unfold ownL; rw [List.range_eq_range']; exact vmov_own _ 0
      have hbf := b4 (ownL r) (asg_own hv) hso
      have hnn := vmov_nonneg z 0
      have : vmov 0 z = 0 := by
        unfold bef valV at hbf
        rw [heq, lexC_same, hm] at hbf
        rcases Int.lt_trichotomy (vmov 0 z) 0 with h | h | h
        · omega
        · exact h
        · rw [lexC_gt h] at hbf; omega
      rw [decide_eq_true this]
end Go.Fx



namespace Go.Proofs.Ytnenhpedfcngbaa.lawClearingSaves
open Go Go.Proofs Go.ChangeShapes Go.WideShapes Go.ChangeAt Go.RowKit Go.Fx
open Go.ChangeMaps (open_string shut_string)
set_option linter.unusedVariables false
set_option maxRecDepth 100000
theorem own : ownKnob Try.prog.godebug = none := by kernel_rfl
theorem laidOut : laidOutB Try.prog = true := by kernel_rfl
set_option maxRecDepth 100000 in
set_option maxHeartbeats 1000000 in
theorem lifted (os : Os) (started : os.Started) (H : Type) (enc : TypeId × Value → H) :
    ReturnsInHanded {} Try.checked os 6 .any (Rows.clearingSavesSpec.pre6 enc Try.prog Try.f6 Rows.clearingSavesRow.domain false) (Rows.clearingSavesSpec.post enc Try.prog Try.f6 false true false false) := by
  refine returnsInHanded_of_change_sized (C := Try.checked) own started (by kernel_rfl) Try.func6
    (ChangeSpec.witness6 (enc := enc) (C := Try.checked) false ⟨#[], #[.agg #[(.int .i64 0), (.slice none 0 0), (.slice none 0 0)]], []⟩ 8 (by kernel_rfl) (by kernel_rfl) (by kernel_rfl) (by kernel_rfl)) ?_
  intro W base args ds gs before hval0 hW hcnd hsz _
  have hval : ∀ (j : Nat) t v, Try.f6.params[j]? = some t → args[j]? = some v → Value.okWide Try.prog W .any base t v := hval0
  have hW' := hW
  obtain ⟨p, q, hA0, hV, rfl, hfz, hnd⟩ := hW
  have hA : DataW.TrodAll enc Try.prog W 0 (fun _ => true) true Try.f6.params.toList args.toList ds p := hA0
  rw [Try.params6] at hA hval
  obtain ⟨v0, vs0, d0, ds0, p0, q0, hargs, rfl, rfl, h0, r0⟩ := trodAll_cons hA
  obtain ⟨rfl, rfl, rfl⟩ := trodAll_nil r0
  obtain rfl : args = #[v0] := by cases args; simp_all
  obtain ⟨rfl, rfl⟩ := trodVars_none hV
  have k0 := h0
  have lt0 : ∀ x ∈ p0, x.block < W.heap.size := by obtain ⟨m, hm⟩ := k0; exact DataW.trod_lt m _ _ _ hm
  obtain ⟨fu0, hf0⟩ := h0
  obtain ⟨r_, rr0, sm0⟩ := rd25.2 _ _ _ hf0
  replace sm0 := sm0 (fun n hn => by have := List.all_eq_true.1 hsz n (DataW.weights_mem_each (j := 0) (t := 25) rfl rfl n hn); simpa using this)
  obtain ⟨⟨cs0⟩, rfl, _⟩ := okWide_struct Try.underlying25 (hval 0 25 v0 rfl rfl)
  replace rr0 : rXRound.rd W [] cs0 r_ := rr0
  obtain ⟨_, _, rfl, ⟨rfl, r_r__slots⟩, ⟨_, _, rfl, ⟨a_r__owners, c_r__owners, rfl, f_r__owners⟩, ⟨a_r__costs, c_r__costs, rfl, f_r__costs⟩⟩⟩ := rr0
  have hm : m6_overflightlaw38_ClearingSaves r_ = some true := ClearingSaves_law _ sm0
  have hc := Fn.calls (c6_overflightlaw38_ClearingSaves (r_ := r_) (w := W) (O := []) (by simp) r_r__slots f_r__owners f_r__costs hm)
  clear hA0 hval0
  refine Calls.mono hc ?_
  rintro e W' ⟨v, rfl, bel, hv⟩
  replace bel := bel.below; obtain rfl : v = .bool true := hv
  exact ⟨_, rfl, _, _, _, [], _, [], hW', trodAll_mk1 (shut_bool Try.underlying4 _), (trodAll_cons_mk (Below.trod laidOut (by kernel_rfl) (of_decide_eq_true (by kernel_rfl)) k0 bel lt0) trodAll_mk0), rfl, bel.frame _, fun h => by cases h⟩
theorem over : Rows.clearingSavesRow.holds Try.pinned (OpenSpec.ofChange Rows.clearingSavesSpec) :=
  OpenClaim.holds_of_wide 6 Try.f6 rfl rfl rfl rfl rfl rfl rfl ⟨rfl, rfl, rfl, rfl, rfl⟩ rfl rfl rfl rfl rfl (by kernel_rfl) Try.func6 (by kernel_rfl)
    (of_decide_eq_true (by kernel_rfl)) (by unfold Func.isWrapper; first | (rw [if_pos (by decide +kernel)]; kernel_rfl) | (rw [if_neg (by decide +kernel)]; exact ⟨rfl, rfl⟩))
    (fun os started H enc _ => lifted os started H enc)
theorem proved : Rows.ClearingSavesSaid := over
end Go.Proofs.Ytnenhpedfcngbaa.lawClearingSaves


