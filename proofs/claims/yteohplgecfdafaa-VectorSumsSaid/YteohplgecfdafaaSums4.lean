/- For every two lists of vectors and budget, the law VectorSums of chapter 06 returns true. -/
import Derived.Test.YteohplgecfdafaaSums3
import Derived.Test.YteohplgecfdafaaRows
import Derived.WalkKit
import Derived.ShutString
/- The plain laws of chapter 06: what the functions compute. -/
set_option linter.unusedSimpArgs false
set_option linter.unusedVariables false
namespace Go.Fx
open Go Go.RowKit
theorem sane_eq : m11_overflightlaw06_sane = some true := by kernel_rfl
abbrev big : Nat := 1000000
/-- the order of lists: -1, 0 or 1 -/
def cmpL : List Int → List Int → Int
  | [], [] => 0
  | [], _ :: _ => -1
  | _ :: _, [] => 1
  | x :: s, y :: t => if x < y then -1 else if y < x then 1 else cmpL s t
theorem cmpL_vals (a b : List Int) : cmpL a b = -1 ∨ cmpL a b = 0 ∨ cmpL a b = 1 := by
  induction a generalizing b with
  | nil => cases b <;> simp [cmpL]
  | cons x s ih => cases b with
    | nil => simp [cmpL]
    | cons y t =>
      unfold cmpL
      by_cases h1 : x < y
      · simp [h1]
      · by_cases h2 : y < x
        · simp [h1, h2]
        · simp only [h1, h2, if_false]; exact ih t
theorem cmpL_anti (a b : List Int) : cmpL b a = - cmpL a b := by
  induction a generalizing b with
  | nil => cases b <;> simp [cmpL]
  | cons x s ih => cases b with
    | nil => simp [cmpL]
    | cons y t =>
      unfold cmpL
      by_cases h1 : x < y
      · have : ¬ y < x := by omega
        simp [h1, this]
      · by_cases h2 : y < x
        · simp [h1, h2]
        · simp [h1, h2, ih]
theorem cmpL_zero {a b : List Int} : cmpL a b = 0 ↔ a = b := by
  induction a generalizing b with
  | nil => cases b <;> simp [cmpL]
  | cons x s ih => cases b with
    | nil => simp [cmpL]
    | cons y t =>
      unfold cmpL
      by_cases h1 : x < y
      · simp [h1]; omega
      · by_cases h2 : y < x
        · simp [h1, h2]; omega
        · have : x = y := by omega
          simp [h1, h2, ih, this]
theorem cmpL_trans {a b c : List Int} (h1 : cmpL a b ≤ 0) (h2 : cmpL b c ≤ 0) : cmpL a c ≤ 0 := by
  induction a generalizing b c with
  | nil => cases c <;> simp [cmpL]
  | cons x s ih =>
    cases b with
    | nil => simp [cmpL] at h1
    | cons y t =>
      cases c with
      | nil => simp [cmpL] at h2
      | cons z u =>
        unfold cmpL at h1 h2 ⊢
        by_cases a1 : x < z
        · simp [a1]
        · by_cases a2 : x < y
          · have : ¬ y < z := by omega
            have : z < y := by omega
            simp_all
          · by_cases a3 : y < x
            · simp [a2, a3] at h1
            · have hxy : x = y := by omega
              subst hxy
              simp only [a1, if_false] at h2 ⊢
              by_cases a4 : z < x
              · simp [a4] at h2
              · simp only [a4, if_false, Int.lt_irrefl] at h1 h2 ⊢
                exact ih h1 h2
theorem cmpL_lt {a b c : List Int} (h1 : cmpL a b < 0) (h2 : cmpL b c < 0) : cmpL a c < 0 := by
  have h3 := cmpL_trans (a := a) (b := b) (c := c) (by omega) (by omega)
  rcases Int.lt_or_eq_of_le h3 with h | h
  · exact h
  · rw [cmpL_zero] at h; subst h
    have := cmpL_anti a b; omega
/-- below, component by component -/
def bel : List Int → List Int → Bool
  | x :: s, y :: t => decide (x ≤ y) && bel s t
  | _, _ => true
theorem bel_refl (a : List Int) : bel a a = true := by induction a <;> simp [bel, *]
theorem bel_cmp {a b : List Int} (hl : a.length = b.length) (h : bel a b = true) : cmpL a b ≤ 0 := by
  induction a generalizing b with
  | nil => cases b <;> simp [cmpL]
  | cons x s ih => cases b with
    | nil => simp at hl
    | cons y t =>
      simp only [bel, Bool.and_eq_true, decide_eq_true_eq] at h
      unfold cmpL
      by_cases h1 : x < y
      · simp [h1]
      · have : ¬ y < x := by omega
        simp only [h1, this, if_false]; exact ih (by simpa using hl) h.2
theorem bel_trans {a b c : List Int} (h1 : a.length = b.length) (h2 : b.length = c.length) (k1 : bel a b = true) (k2 : bel b c = true) : bel a c = true := by
  induction a generalizing b c with
  | nil => cases c <;> simp [bel]
  | cons x s ih => cases b with
    | nil => simp at h1
    | cons y t => cases c with
      | nil => simp at h2
      | cons z u =>
        simp only [bel, Bool.and_eq_true, decide_eq_true_eq] at k1 k2 ⊢
        exact ⟨by omega, ih (by simpa using h1) (by simpa using h2) k1.2 k2.2⟩
theorem m48_eq (x y : Int) : m48_cmp_Compare x y = some (if x < y then -1 else if y < x then 1 else 0) := by
  unfold m48_cmp_Compare m58_cmp_isNaN
  by_cases h1 : x < y
  · simp [h1]
  · by_cases h2 : y < x <;> simp [h1, h2]
theorem m34_eq (a b : List Int) (ha : a.length < 9223372036854775807) : m34_slices_Compareint_int_ a b = some (cmpL a b) := by
  unfold m34_slices_Compareint_int_
  have := up_listI (B := m34_slices_Compareint_int__B0 a b) (fun i t => some (cmpL t (b.drop i))) a ha ?_ ?_ (fuel := ((a.length : Int) - 0).toNat + 1) (by omega)
  · simpa using this
  · intro sf
    unfold m34_slices_Compareint_int__B0
    by_cases h : a.length < b.length
    · have : ∃ y t, b.drop a.length = y :: t := by
        cases hd : b.drop a.length with
        | nil => have := congrArg List.length hd; simp at this; omega
        | cons y t => exact ⟨y, t, rfl⟩
      obtain ⟨y, t, hd⟩ := this
      have h' : (a.length : Int) < (b.length : Int) := by omega
      simp [h', hd, cmpL, h]
    · have h' : ¬ (a.length : Int) < (b.length : Int) := by omega
      have hd : b.drop a.length = [] := by simp; omega
      simp [h', hd, cmpL, h]
  · intro sf i x t h1 h2 h3 ih
    obtain ⟨_, rfl⟩ := List.getElem?_eq_some_iff.1 h2
    unfold m34_slices_Compareint_int__B0
    have c1 : (i : Int) < (a.length : Int) := by omega
    have g1 : a.getD (i : Int).toNat default = a[i] := by simp [h1]
    simp only [c1, decide_true, cond_true, g1, h3]
    rw [ck_eq (by simp)]
    by_cases hb : i < b.length
    · have c2 : ¬ (b.length : Int) ≤ (i : Int) := by omega
      have g2 : b.getD (i : Int).toNat default = b[i] := by simp [hb]
      have hd : b.drop i = b[i] :: b.drop (i + 1) := List.drop_eq_getElem_cons hb
      simp only [c2, decide_false, cond_false, g2, m48_eq, Option.bind_some, hd]
      rw [ck_eq (by omega)]
      unfold cmpL
      by_cases k1 : a[i] < b[i]
      · simp [k1]
      · by_cases k2 : b[i] < a[i]
        · simp [k1, k2]
        · simp only [k1, k2, if_false, ne_eq, not_true_eq_false, decide_false, cond_false]; exact ih
    · have c2 : (b.length : Int) ≤ (i : Int) := by omega
      have hd : b.drop i = [] := by simp; omega
      simp [c2, hd, cmpL]
theorem m35_eq (a b : List Int) (h : a.length = b.length) (ha : a.length < 9223372036854775807) : m35_overflightref06_Order a b = some (cmpL a b) := by
  unfold m35_overflightref06_Order
  have := up_listI (B := m35_overflightref06_Order_B0 a b) (fun i t => some (cmpL t (b.drop i))) a ha ?_ ?_ (fuel := ((a.length : Int) - 0).toNat + 1) (by omega)
  · simpa using this
  · intro sf
    unfold m35_overflightref06_Order_B0
    have hd : b.drop a.length = [] := by simp; omega
    simp [hd, cmpL]
  · intro sf i x t h1 h2 h3 ih
    obtain ⟨_, rfl⟩ := List.getElem?_eq_some_iff.1 h2
    unfold m35_overflightref06_Order_B0
    have c1 : (i : Int) < (a.length : Int) := by omega
    have hb : i < b.length := by omega
    have g1 : a.getD (i : Int).toNat default = a[i] := by simp [h1]
    have g2 : b.getD (i : Int).toNat default = b[i] := by simp [hb]
    have hd : b.drop i = b[i] :: b.drop (i + 1) := List.drop_eq_getElem_cons hb
    simp only [c1, decide_true, cond_true, g1, g2, h3, hd]
    rw [ck_eq (by simp), ck_eq (by omega), ck_eq (by simp), ck_eq (by omega)]
    unfold cmpL
    by_cases k1 : a[i] < b[i]
    · simp [k1]
    · by_cases k2 : b[i] < a[i]
      · simp [k1, k2]
      · simp only [k1, k2, if_false, decide_false, cond_false]; exact ih
theorem m19_eq (a b : List Int) (ha : a.length < 9223372036854775807) : m19_overflightref06_Same a b = some (decide (a = b)) := by
  unfold m19_overflightref06_Same
  by_cases h : a.length = b.length
  · have h' : (a.length : Int) = (b.length : Int) := by omega
    rw [m35_eq a b h ha]; simp [h', cmpL_zero]
  · have h' : ¬ (a.length : Int) = (b.length : Int) := by omega
    have : ¬ a = b := fun e => h (by rw [e])
    simp [h', this]
theorem m17_eq (a b : List Int) (ha : a.length < 9223372036854775807) : m17_vector_Compare a b = some (if a.length = b.length then (cmpL a b, 0) else (0, 60)) := by
  unfold m17_vector_Compare
  by_cases h : a.length = b.length
  · have h' : (a.length : Int) = (b.length : Int) := by omega
    rw [m34_eq a b ha]; simp [h', h]
  · have h' : ¬ (a.length : Int) = (b.length : Int) := by omega
    simp [h', h]
theorem m30_eq (a b : List Int) (h : a.length = b.length) (ha : a.length < 9223372036854775807) : m30_vector_pairs a b = some (a.zip b) := by
  unfold m30_vector_pairs m47_vector_pairs_1
  have := up_listI (B := m47_vector_pairs_1_B0 a b) (fun i t => some (t.zip (b.drop i))) a ha ?_ ?_ (fuel := ((a.length : Int) - 0).toNat + 1) (by omega)
  · rw [List.drop_zero] at this; exact (congrArg (fun o => o.bind fun l_1 => some l_1) this).trans rfl
  · intro sf; unfold m47_vector_pairs_1_B0; simp
  · intro sf i x t h1 h2 h3 ih
    obtain ⟨_, rfl⟩ := List.getElem?_eq_some_iff.1 h2
    unfold m47_vector_pairs_1_B0
    have c1 : (i : Int) < (a.length : Int) := by omega
    have hb : i < b.length := by omega
    have g1 : a.getD (i : Int).toNat default = a[i] := by simp [h1]
    have g2 : b.getD (i : Int).toNat default = b[i] := by simp [hb]
    have hd : b.drop i = b[i] :: b.drop (i + 1) := List.drop_eq_getElem_cons hb
    simp only [c1, decide_true, cond_true, g1, g2, h3, hd]
    rw [ck_eq (by simp), ck_eq (by omega), ih, List.zip_cons_cons]
    rfl
theorem m32_eq (a b : List Int) (h : a.length = b.length) (ha : a.length < 9223372036854775807) : m32_vector_below a b = some (bel a b) := by
  unfold m32_vector_below
  rw [m30_eq a b h ha]
  simp only [Option.bind_some, jn_eq]
  clear ha
  induction a generalizing b with
  | nil => simp [rng0_nil, bel]
  | cons x s ih => cases b with
    | nil => simp at h
    | cons y t =>
      rw [List.zip_cons_cons, rng0_cons]
      unfold m32_vector_below_B0
      by_cases k : y < x
      · have : ¬ x ≤ y := by omega
        simp [k, bel, this]
      · have : x ≤ y := by omega
        simp only [k, decide_false, cond_false, bel, this, decide_true, Bool.true_and]
        exact ih t (by simpa using h)
theorem m15_eq (a b : List Int) (ha : a.length < 9223372036854775807) : m15_vector_Below a b = some (if a.length = b.length then (bel a b, 0) else (false, 60)) := by
  unfold m15_vector_Below
  by_cases h : a.length = b.length
  · have h' : (a.length : Int) = (b.length : Int) := by omega
    rw [m32_eq a b h ha]; simp [h', h]
  · have h' : ¬ (a.length : Int) = (b.length : Int) := by omega
    simp [h', h]
theorem m28_eq (a b : List Int) (ha : a.length < 9223372036854775807) : m28_overflightlaw06_below a b = some (decide (a.length = b.length) && bel a b) := by
  unfold m28_overflightlaw06_below
  rw [m15_eq a b ha]
  by_cases h : a.length = b.length
  · cases hb : bel a b <;> simp [h, hb]
  · simp [h]
theorem few_eq (l : List (List Int)) (hl : l.length < 9223372036854775807) : m20_overflightref06_Few l = some (l.all (fun a => decide (a.length ≤ 20)) && decide (l.length ≤ 30)) := by
  unfold m20_overflightref06_Few
  refine up_list0 (fun t => some (t.all (fun a => decide (a.length ≤ 20)) && decide (l.length ≤ 30))) l hl ?_ ?_ (show l.length < ((l.length : Int) - 0).toNat + 1 by omega)
  · intro sf; unfold m20_overflightref06_Few_B0
    have : ((l.length : Int) ≤ 30) = (l.length ≤ 30) := by apply propext; omega
    simp [this]
  · intro sf i x t h1 h2 h3 ih
    obtain ⟨_, rfl⟩ := List.getElem?_eq_some_iff.1 h2
    unfold m20_overflightref06_Few_B0
    have k4 : (20 < (l[i].length : Int)) = (20 < l[i].length) := by apply propext; omega
    by_cases k : 20 < l[i].length
    · have : ¬ l[i].length ≤ 20 := by omega
      simp [h1, h3, ih, ck_eq, k4, k, this]
    · have : l[i].length ≤ 20 := by omega
      simp [h1, h3, ih, ck_eq, k4, k, this]
theorem few_spec {l : List (List Int)} (h : (l.all (fun a => decide (a.length ≤ 20)) && decide (l.length ≤ 30)) = true) : (∀ a ∈ l, a.length ≤ 20) ∧ l.length ≤ 30 := by
  simp only [Bool.and_eq_true, List.all_eq_true, decide_eq_true_eq] at h; exact h
theorem m12_eq (l : List (List Int)) (hl : l.length < 9223372036854775807) : m12_overflightlaw06_short l = some (l.all (fun a => decide (a.length ≤ 20)) && decide (l.length ≤ 30)) := by
  unfold m12_overflightlaw06_short; rw [few_eq l hl]; rfl
/-- the first index from i where g holds, or -1 -/
def fidx {α} (g : α → Bool) : Nat → List α → Int
  | _, [] => -1
  | i, x :: t => bif g x then (i : Int) else fidx g (i + 1) t
theorem fidx_any {α} (g : α → Bool) (l : List α) (i : Nat) : decide (0 ≤ fidx g i l) = l.any g := by
  induction l generalizing i with
  | nil => rfl
  | cons x t ih => cases h : g x <;> simp [fidx, h, ih]
theorem m42_eq (s : List (List Int)) (f : List Int → Option Bool) (g : List Int → Bool) (hf : ∀ x ∈ s, f x = some (g x)) (hl : s.length < 9223372036854775807) : m42_slices_ContainsFuncint_int_ s (some f) = some (s.any g) := by
  have : m56_slices_IndexFuncint_int_ s (some f) = some (fidx g 0 s) := by
    unfold m56_slices_IndexFuncint_int_
    refine up_listI (fun i t => some (fidx g i t)) s hl ?_ ?_ (by omega)
    · intro sf; unfold m56_slices_IndexFuncint_int__B0; simp [fidx]
    · intro sf i x t h1 h2 h3 ih; unfold m56_slices_IndexFuncint_int__B0; obtain ⟨_, rfl⟩ := List.getElem?_eq_some_iff.1 h2
      have hfi := hf s[i] (List.getElem_mem _)
      cases h : g s[i] <;> simp [h1, h3, ih, callO, hfi, h, fidx, ck_eq]
  unfold m42_slices_ContainsFuncint_int_; rw [this]; simp [fidx_any]
theorem m45_eq (s : List Int) (f : Int → Option Bool) (g : Int → Bool) (hf : ∀ x, f x = some (g x)) (hl : s.length < 9223372036854775807) : m45_slices_ContainsFuncint_int_ s f = some (s.any g) := by
  have : m57_slices_IndexFuncint_int_ s f = some (fidx g 0 s) := by
    unfold m57_slices_IndexFuncint_int_
    refine up_listI (fun i t => some (fidx g i t)) s hl ?_ ?_ (by omega)
    · intro sf; unfold m57_slices_IndexFuncint_int__B0; simp [fidx]
    · intro sf i x t h1 h2 h3 ih; unfold m57_slices_IndexFuncint_int__B0; obtain ⟨_, rfl⟩ := List.getElem?_eq_some_iff.1 h2
      cases h : g s[i] <;> simp [h1, h3, ih, hf, h, fidx, ck_eq]
  unfold m45_slices_ContainsFuncint_int_; rw [this]; simp [fidx_any]
def smallN (n : Int) : Bool := decide (-1152921504606846976 ≤ n) && decide (n ≤ 1152921504606846976)
def smallV (a : List Int) : Bool := a.all smallN
theorem m29_eq (a : List Int) (ha : a.length < 9223372036854775807) : m29_vector_small a = some (smallV a) := by
  unfold m29_vector_small
  rw [m45_eq a _ (fun n => !smallN n) _ ha]
  · have : (!a.any fun n => !smallN n) = smallV a := by unfold smallV; rw [List.not_any_eq_all_not]; simp
    simp [this]
  · intro n; unfold m46_vector_small_1 smallN
    by_cases h1 : n < -1152921504606846976
    · have : ¬ -1152921504606846976 ≤ n := by omega
      simp only [h1, this, decide_true, decide_false, cond_true, Bool.false_and, Bool.not_false]
    · have : -1152921504606846976 ≤ n := by omega
      by_cases h2 : 1152921504606846976 < n
      · have h3 : ¬ n ≤ 1152921504606846976 := by omega
        simp only [h1, this, h2, h3, decide_true, decide_false, cond_false, Bool.true_and, Bool.not_false]
      · have h3 : n ≤ 1152921504606846976 := by omega
        simp only [h1, this, h2, h3, decide_true, decide_false, cond_false, Bool.true_and, Bool.not_true]
/-- what Add answers -/
def addV (a b : List Int) : List Int := (a.zip b).map fun p => p.1 + p.2
theorem addV_len {a b : List Int} (h : a.length = b.length) : (addV a b).length = a.length := by simp [addV, h]
theorem m13_eq (a b : List Int) (ha : a.length < big) (hb : b.length < big) : m13_vector_Add a b = some (if a.length = b.length ∧ smallV a = true ∧ smallV b = true then (addV a b, 0) else ([], 60)) := by
  unfold m13_vector_Add
  simp only [jn_eq, m29_eq a (by simp [big] at ha; omega), m29_eq b (by simp [big] at hb; omega), Option.bind_some]
  by_cases h : a.length = b.length
  · have h' : (a.length : Int) = (b.length : Int) := by omega
    rw [m30_eq a b h (by simp [big] at ha; omega)]
    cases s1 : smallV a
    · simp [h, h', s1]
    cases s2 : smallV b
    · simp [h, h', s1, s2]
    simp only [h', ne_eq, not_true_eq_false, decide_false, cond_false, Bool.not_true, Option.bind_some, h, and_self, if_true]
    have main : ∀ (l : List (Int × Int)) (acc : List Int), (∀ p ∈ l, smallN p.1 = true ∧ smallN p.2 = true) → acc.length + l.length < big →
        rng1 m13_vector_Add_B0 (fun v => some (v, (0 : Int))) l acc = some (acc ++ l.map (fun p => p.1 + p.2), 0) := by
      intro l
      induction l with
      | nil => intro acc _ _; simp [rng1_nil]
      | cons p t ih =>
        intro acc hs hl
        rw [rng1_cons]
        obtain ⟨k1, k2⟩ := hs p (by simp)
        have IH := ih (acc ++ [p.1 + p.2]) (fun q hq => hs q (by simp [hq])) (by simp [big] at hl ⊢; omega)
        generalize rng1 m13_vector_Add_B0 (fun v => some (v, (0 : Int))) t = sf at IH ⊢
        unfold m13_vector_Add_B0
        simp only [smallN, Bool.and_eq_true, decide_eq_true_eq] at k1 k2
        have w : IntKind.i64.wrap (p.1 + p.2) = p.1 + p.2 := wrap_i64 (by omega) (by omega)
        simp only [List.length_cons, big] at hl
        rw [w, ck_eq (by simp; omega), IH]
        simp
    refine (main _ [] ?_ (by simp [big] at *; omega)).trans (by simp [addV])
    intro p hp
    obtain ⟨m1, m2⟩ := List.of_mem_zip hp
    exact ⟨List.all_eq_true.1 s1 _ m1, List.all_eq_true.1 s2 _ m2⟩
  · have h' : ¬ (a.length : Int) = (b.length : Int) := by omega
    simp [h', h]
/-- all of the same length as the first -/
def alikeB (l : List (List Int)) : Bool := l.all fun a => decide (a.length = (l.getD 0 default).length)
theorem alike_len {l : List (List Int)} (h : alikeB l = true) : ∃ n, ∀ a ∈ l, a.length = n := ⟨_, fun a ha => by simpa using List.all_eq_true.1 h a ha⟩
theorem alike_of {l : List (List Int)} {n : Nat} (h : ∀ a ∈ l, a.length = n) : alikeB l = true := by
  refine List.all_eq_true.2 fun a ha => ?_
  cases l with
  | nil => simp at ha
  | cons b t => simp [h a ha, h b (by simp)]
theorem m36_eq (l : List (List Int)) (f : Option (List Int → Option Bool)) (g : List Int → Bool) (hf : ∀ x ∈ l, ∀ f', f = some f' → f' x = some (g x)) (hl : l.length < 9223372036854775807) :
    m36_vector_alike l f = some (alikeB l && (!f.isSome || l.all g)) := by
  unfold m36_vector_alike
  rw [m42_eq l _ (fun a => !(decide (a.length = (l.getD 0 default).length) && (!f.isSome || g a))) _ hl]
  · have : (!l.any fun a => !(decide (a.length = (l.getD 0 default).length) && (!f.isSome || g a))) = (alikeB l && (!f.isSome || l.all g)) := by
      unfold alikeB
      rw [List.not_any_eq_all_not]
      have e : (fun a : List Int => !!(decide (a.length = (l.getD 0 default).length) && (!f.isSome || g a))) = fun a => (decide (a.length = (l.getD 0 default).length) && (!f.isSome || g a)) := by funext a; simp
      rw [e]
      cases f.isSome
      · simp
      · generalize (l.getD 0 default).length = n
        clear e hf hl
        simp only [Bool.not_true, Bool.false_or]
        induction l with
        | nil => rfl
        | cons x t ih => simp only [List.all_cons, ih]; cases decide (x.length = n) <;> cases g x <;> cases (t.all fun a => decide (a.length = n)) <;> simp
    rw [Option.bind_some, this]
  · intro a ha
    unfold m49_vector_alike_1
    have h0 : 0 < l.length := List.length_pos_of_mem ha
    rw [ck_eq (by omega)]
    by_cases h : a.length = (l.getD 0 default).length
    · have h' : (a.length : Int) = ((l.getD 0 default).length : Int) := by omega
      cases f with
      | none => simp [h', h]
      | some f' =>
        have := hf a ha f' rfl
        simp only [h', ne_eq, not_true_eq_false, decide_false, cond_false, Option.isSome_some, cond_true, callO, Option.bind_some, this, h, decide_true, Bool.true_and, Bool.not_true, Bool.false_or]
    · have h' : ¬ (a.length : Int) = ((l.getD 0 default).length : Int) := by omega
      simp only [h', ne_eq, not_false_eq_true, decide_true, cond_true, h, decide_false, Bool.false_and, Bool.not_false]
/-- the least ones of a sorted list -/
def stepL (x : List (List Int)) (a : List Int) : List (List Int) := bif x.any (fun b => bel b a) then x else x ++ [a]
def leastL (l : List (List Int)) : List (List Int) := (isortM (fun a b => decide (cmpL a b < 0)) l).foldl stepL []
theorem total (xs : List (List Int)) : TotalOn (fun a b => decide (cmpL a b < 0)) xs :=
  ⟨fun x _ => by have : cmpL x x = 0 := cmpL_zero.2 rfl; simp [this],
   fun x _ y _ h1 h2 => by
    simp only [decide_eq_false_iff_not] at h1 h2
    have := cmpL_anti x y
    exact cmpL_zero.1 (by omega),
   fun x _ y _ z _ h1 h2 => by simp only [decide_eq_true_eq] at *; exact cmpL_lt h1 h2⟩
theorem foldl_len (s x : List (List Int)) : (s.foldl stepL x).length ≤ x.length + s.length := by
  induction s generalizing x with
  | nil => simp
  | cons a t ih =>
    refine Nat.le_trans (ih _) ?_
    unfold stepL; cases x.any (fun b => bel b a) <;> simp <;> omega
theorem m37_eq (l : List (List Int)) (n : Nat) (hn : ∀ a ∈ l, a.length = n) (hl : l.length < big) (hs : n < big) : m37_vector_least l = some (leastL l) := by
  unfold m37_vector_least m50_slices_Cloneint_int_
  simp only [big] at hl hs
  rw [ck_eq (by simp; omega)]
  simp only [Option.bind_some, List.nil_append]
  have hcmp : ∀ a ∈ l, ∀ b, m34_slices_Compareint_int_ a b = some (cmpL a b) := fun a ha b => m34_eq a b (by have := hn a ha; omega)
  have hsort : sortM (fun x15 x16 => m34_slices_Compareint_int_ x15 x16) l = some (isortM (fun a b => decide (cmpL a b < 0)) l) := by
    have hlt : ∀ a ∈ l, ∀ b, ltM (fun x15 x16 => m34_slices_Compareint_int_ x15 x16) a b = decide (cmpL a b < 0) := fun a ha b => by
      show (match m34_slices_Compareint_int_ a b with | some n => decide (n < 0) | none => false) = _
      rw [hcmp a ha b]
    have hok : okSort (fun x15 x16 => m34_slices_Compareint_int_ x15 x16) l = true := by
      refine okSort_iff.2 ⟨⟨fun x hx => by rw [hlt x hx]; exact (total l).irr x hx, fun x hx y hy h1 h2 => by rw [hlt x hx] at h1; rw [hlt y hy] at h2; exact (total l).tot x hx y hy h1 h2,
        fun x hx y hy z hz h1 h2 => by rw [hlt x hx] at h1 ⊢; rw [hlt y hy] at h2; exact (total l).tr x hx y hy z hz h1 h2⟩, fun x hx y hy => ⟨_, hcmp x hx y⟩⟩
    unfold sortM
    rw [hok, cond_true]
    congr 1
    have key : ∀ (t : List (List Int)), (∀ a ∈ t, a ∈ l) → isortM (ltM fun x15 x16 => m34_slices_Compareint_int_ x15 x16) t = isortM (fun a b => decide (cmpL a b < 0)) t := by
      intro t
      induction t with
      | nil => intro _; rfl
      | cons x t ih =>
        intro ht
        show insM _ x (isortM _ t) = insM _ x (isortM _ t)
        rw [ih fun a ha => ht a (by simp [ha])]
        have : ∀ u : List (List Int), insM (ltM fun x15 x16 => m34_slices_Compareint_int_ x15 x16) x u = insM (fun a b => decide (cmpL a b < 0)) x u := by
          intro u
          induction u with
          | nil => rfl
          | cons y u ihu => unfold insM; rw [hlt x (ht x (by simp)), ihu]
        exact this _
    exact key l fun _ h => h
  rw [hsort]
  have hp := isortM_perm (fun a b => decide (cmpL a b < 0)) l
  have hsl : (isortM (fun a b => decide (cmpL a b < 0)) l).length = l.length := hp.length_eq
  simp only [Option.bind_some]
  rw [ck_eq (by omega)]
  unfold leastL
  have hmem : ∀ a ∈ isortM (fun a b => decide (cmpL a b < 0)) l, a.length = n := fun a ha => hn a (hp.mem_iff.1 ha)
  generalize isortM (fun a b => decide (cmpL a b < 0)) l = S at *
  refine up_listB (σ := List (List Int)) (fun i x => x.length ≤ i ∧ ∀ b ∈ x, b.length = n) (fun _ t x => some (t.foldl stepL x)) S (by omega) ?_ ?_ (by simp) ⟨by simp, by simp⟩
  · intro sf x _; unfold m37_vector_least_B0; simp
  · intro sf i x a t h1 h2 h3 ⟨hx, hxn⟩ ih
    obtain ⟨_, rfl⟩ := List.getElem?_eq_some_iff.1 h2
    unfold m37_vector_least_B0
    have c1 : (i : Int) < (S.length : Int) := by omega
    have g1 : S.getD (i : Int).toNat default = S[i] := by simp [h1]
    have han := hmem S[i] (List.getElem_mem _)
    simp only [c1, decide_true, cond_true, g1, h3]
    rw [ck_eq (by simp), m42_eq x _ (fun b => bel b S[i]) _ (by omega)]
    · simp only [Option.bind_some, List.foldl_cons]
      cases hany : x.any (fun b => bel b S[i])
      · simp only [Bool.not_false, cond_true]
        rw [ck_eq (by simp; omega), ih _ ⟨by simp; omega, fun b hb => by
          simp at hb; rcases hb with hb | hb
          · exact hxn b hb
          · rw [hb]; exact han⟩]
        simp [stepL, hany]
      · simp only [Bool.not_true, cond_false]
        rw [ih _ ⟨by omega, hxn⟩]
        simp [stepL, hany]
    · intro b hb
      unfold m52_vector_least_1
      rw [m32_eq b S[i] (by rw [hxn b hb, han]) (by have := hxn b hb; omega)]; rfl
theorem m21_eq (l : List (List Int)) (hl : l.length ≤ 4096) (hs : ∀ a ∈ l, a.length < big) : m21_vector_Least l = some (bif alikeB l then (leastL l, 0) else ([], 60)) := by
  unfold m21_vector_Least
  rw [m36_eq l none (fun _ => true) (by intro _ _ _ h; cases h) (by omega)]
  cases h : alikeB l
  · simp
  · obtain ⟨n, hn⟩ := alike_len h
    have h2 : ¬ (4096 : Int) < (l.length : Int) := by omega
    have hn' : ∃ n, (∀ a ∈ l, a.length = n) ∧ n < big := by
      cases l with
      | nil => exact ⟨0, by simp, by decide⟩
      | cons b t => exact ⟨n, hn, by have := hs b (by simp); rw [hn b (by simp)] at this; exact this⟩
    obtain ⟨n, hn, hb⟩ := hn'
    rw [m37_eq l n hn (by simp [big]; omega) hb]
    simp [h2]
/-! what the least ones are -/
structure IsLeast (l r : List (List Int)) : Prop where
  sub : ∀ a ∈ r, a ∈ l
  cov : ∀ a ∈ l, ∃ y ∈ r, bel y a = true
  up : r.Pairwise fun a b => cmpL a b < 0
  anti : ∀ y ∈ r, ∀ z ∈ r, bel y z = true → y = z
theorem leastL_is {l : List (List Int)} {n : Nat} (hn : ∀ a ∈ l, a.length = n) : IsLeast l (leastL l) := by
  have T := total l
  have hp := isortM_perm (fun a b => decide (cmpL a b < 0)) l
  have hs := isortM_sorted T l fun _ h => h
  unfold leastL
  have hmem : ∀ a ∈ isortM (fun a b => decide (cmpL a b < 0)) l, a.length = n := fun a ha => hn a (hp.mem_iff.1 ha)
  have key : ∀ (s p x : List (List Int)), (∀ a ∈ p, a.length = n) → (∀ a ∈ s, a.length = n) → s.Pairwise (fun a b => decide (cmpL b a < 0) = false) → (∀ a ∈ p, ∀ b ∈ s, decide (cmpL b a < 0) = false) → IsLeast p x → IsLeast (p ++ s) (s.foldl stepL x) := by
    intro s
    induction s with
    | nil => intro p x _ _ _ _ h; simpa using h
    | cons a t ih =>
      intro p x hpn hsn hso hps h
      rw [List.append_cons]
      have hso' := List.pairwise_cons.1 hso
      have han := hsn a (by simp)
      refine ih (p ++ [a]) (stepL x a) (fun b hb => ?_) (fun b hb => hsn b (by simp [hb])) hso'.2 (fun b hb c hc => ?_) ?_
      · simp at hb; rcases hb with hb | hb
        · exact hpn b hb
        · subst hb; exact han
      · simp at hb; rcases hb with hb | hb
        · exact hps b hb c (by simp [hc])
        · subst hb; exact hso'.1 c hc
      · unfold stepL
        cases hany : x.any (fun b => bel b a)
        · simp only [cond_false]
          have hno : ∀ b ∈ x, bel b a = false := fun b hb => by
            have := List.any_eq_false.1 hany b hb; simpa using this
          have hle : ∀ b ∈ x, cmpL b a < 0 := fun b hb => by
            have h1 := hps b (h.sub b hb) a (by simp)
            simp only [decide_eq_false_iff_not] at h1
            have h2 := cmpL_anti a b
            have h3 : cmpL b a ≠ 0 := fun e => by
              have := cmpL_zero.1 e; subst this
              have := hno b hb; rw [bel_refl] at this; cases this
            omega
          refine ⟨fun b hb => ?_, fun b hb => ?_, ?_, fun y hy z hz hyz => ?_⟩
          · simp at hb ⊢; rcases hb with hb | hb
            · exact .inl (h.sub b hb)
            · exact .inr hb
          · simp at hb; rcases hb with hb | hb
            · obtain ⟨y, hy, hb'⟩ := h.cov b hb; exact ⟨y, by simp [hy], hb'⟩
            · subst hb; exact ⟨b, by simp, bel_refl b⟩
          · rw [List.pairwise_append]
            exact ⟨h.up, by simp, fun b hb c hc => by simp at hc; subst hc; exact hle b hb⟩
          · simp at hy hz
            rcases hy with hy | hy <;> rcases hz with hz | hz
            · exact h.anti y hy z hz hyz
            · subst hz; rw [hno y hy] at hyz; cases hyz
            · subst hy
              have h1 := bel_cmp (by rw [han, hpn z (h.sub z hz)]) hyz
              have h2 := hle z hz
              have h3 := cmpL_anti y z
              omega
            · rw [hy, hz]
        · simp only [cond_true]
          obtain ⟨y, hy, hya⟩ := List.any_eq_true.1 hany
          refine ⟨fun b hb => by simp [h.sub b hb], fun b hb => ?_, h.up, h.anti⟩
          simp at hb; rcases hb with hb | hb
          · exact h.cov b hb
          · subst hb; exact ⟨y, hy, hya⟩
  have := key _ [] [] (by simp) hmem hs (by simp) ⟨by simp, by simp, by simp, by simp⟩
  simp only [List.nil_append] at this
  exact ⟨fun a ha => hp.mem_iff.1 (this.sub a ha), fun a ha => this.cov a (hp.mem_iff.2 ha), this.up, this.anti⟩
theorem bel_antisymm {a b : List Int} (hl : a.length = b.length) (h1 : bel a b = true) (h2 : bel b a = true) : a = b := by
  have k1 := bel_cmp hl h1
  have k2 := bel_cmp hl.symm h2
  have k3 := cmpL_anti a b
  exact cmpL_zero.1 (by omega)
theorem IsLeast.mem {l r : List (List Int)} (h : IsLeast l r) {n : Nat} (hn : ∀ a ∈ l, a.length = n) (a : List Int) : a ∈ r ↔ a ∈ l ∧ ∀ b ∈ l, bel b a = true → b = a := by
  constructor
  · intro ha
    refine ⟨h.sub a ha, fun b hb hba => ?_⟩
    obtain ⟨y, hy, hyb⟩ := h.cov b hb
    have hya := bel_trans (by rw [hn y (h.sub y hy), hn b hb]) (by rw [hn b hb, hn a (h.sub a ha)]) hyb hba
    have := h.anti y hy a ha hya
    subst this
    exact bel_antisymm (by rw [hn b hb, hn y (h.sub y hy)]) hba hyb
  · rintro ⟨ha, hm⟩
    obtain ⟨y, hy, hya⟩ := h.cov a ha
    have := hm y (h.sub y hy) hya
    subst this; exact hy
theorem up_unique {r s : List (List Int)} (h1 : r.Pairwise fun a b => cmpL a b < 0) (h2 : s.Pairwise fun a b => cmpL a b < 0) (h : ∀ a, a ∈ r ↔ a ∈ s) : r = s := by
  have nd : ∀ {t : List (List Int)}, t.Pairwise (fun a b => cmpL a b < 0) → t.Nodup := fun ht => ht.imp (fun {a b} hab e => by subst e; have : cmpL a a = 0 := cmpL_zero.2 rfl; omega)
  refine List.Perm.eq_of_pairwise (le := fun a b => cmpL a b < 0) ?_ h1 h2 ((List.perm_ext_iff_of_nodup (nd h1) (nd h2)).2 h)
  intro a b _ _ k1 k2
  have := cmpL_anti a b; omega
/-- the least ones hang on the elements alone -/
theorem leastL_eq {l m : List (List Int)} {n : Nat} (hl : ∀ a ∈ l, a.length = n) (h : ∀ a, a ∈ l ↔ a ∈ m) : leastL l = leastL m := by
  have hm : ∀ a ∈ m, a.length = n := fun a ha => hl a ((h a).2 ha)
  have il := leastL_is hl
  have im := leastL_is hm
  refine up_unique il.up im.up fun a => ?_
  rw [il.mem hl, im.mem hm]
  constructor
  · rintro ⟨h1, h2⟩; exact ⟨(h a).1 h1, fun b hb => h2 b ((h b).2 hb)⟩
  · rintro ⟨h1, h2⟩; exact ⟨(h a).2 h1, fun b hb => h2 b ((h b).1 hb)⟩
theorem leastL_again {l : List (List Int)} {n : Nat} (hl : ∀ a ∈ l, a.length = n) : leastL (leastL l) = leastL l := by
  have il := leastL_is hl
  have hl2 : ∀ a ∈ leastL l, a.length = n := fun a ha => hl a (il.sub a ha)
  have i2 := leastL_is hl2
  refine up_unique i2.up il.up fun a => ?_
  rw [i2.mem hl2]
  constructor
  · rintro ⟨h, _⟩; exact h
  · intro h; exact ⟨h, fun b hb hba => il.anti b hb a h hba⟩
theorem leastL_len (l : List (List Int)) : (leastL l).length ≤ l.length := by
  unfold leastL
  refine Nat.le_trans (foldl_len _ _) ?_
  rw [(isortM_perm _ l).length_eq]; simp
theorem m25_eq (l : List (List Int)) (c : List Int) (hl : l.length < 9223372036854775807) (hs : ∀ a ∈ l, a.length < 9223372036854775807) :
    m25_vector_Fits l c = some (bif l.all (fun a => decide (a.length = c.length)) then (l.any (fun a => bel a c), 0) else (false, 60)) := by
  unfold m25_vector_Fits
  rw [m42_eq l _ (fun a => !decide (a.length = c.length)) _ hl]
  · simp only [Option.bind_some]
    cases h : l.all (fun a => decide (a.length = c.length))
    · have : l.any (fun a => !decide (a.length = c.length)) = true := by rw [← Bool.not_eq_false', List.not_any_eq_all_not]; simpa using h
      simp [this]
    · have : l.any (fun a => !decide (a.length = c.length)) = false := by rw [← Bool.not_eq_true', List.not_any_eq_all_not]; simpa using h
      rw [this, cond_false, cond_true, m42_eq l _ (fun a => bel a c) _ hl]
      · rfl
      · intro a ha
        have := List.all_eq_true.1 h a ha
        simp only [decide_eq_true_eq] at this
        unfold m44_vector_Fits_2; rw [m32_eq a c this (hs a ha)]; rfl
  · intro a _
    unfold m43_vector_Fits_1
    have : ((a.length : Int) = (c.length : Int)) = (a.length = c.length) := by apply propext; omega
    simp [this]
end Go.Fx


set_option linter.unusedVariables false
set_option linter.unusedSimpArgs false
set_option maxRecDepth 100000
set_option maxHeartbeats 0
namespace Go.Fx
open Go Go.RowKit Go.Proofs
def m6_overflightlaw06_VectorFits_B0 (l : List (List Int)) (budget : List Int) (fits_1 : Bool × Int) (least_1 : (List (List Int)) × Int) (fits_2 : Bool × Int) (sf66 : Bool → Int → Option Bool) (any_1 : Bool) (v_2 : Int) : Option Bool :=
  bif (decide (v_2 < (l.length : Int))) then
    ck ((0 : Int) ≤ v_2 ∧ v_2 < (l.length : Int)) <|
    bif any_1 then
      sf66 true (IntKind.wrap .i64 (v_2 + 1))
    else
      (m28_overflightlaw06_below (l.getD v_2.toNat default) budget).bind fun below_1 =>
      sf66 below_1 (IntKind.wrap .i64 (v_2 + 1))
  else
    jn (fun (v_3 : Bool) =>
      some v_3)
    (fun k94 =>
      bif (decide (least_1.2 = 0)) then
        bif (decide (fits_2.2 = 0)) then
          bif (fits_1.1 == fits_2.1) then
            k94 (fits_1.1 == any_1)
          else
            k94 false
        else
          k94 false
      else
        k94 false)

def m6_overflightlaw06_VectorFits (l : List (List Int)) (budget : List Int) : Option Bool :=
  (m11_overflightlaw06_sane).bind fun sane_1 =>
  bif (!sane_1) then
    some false
  else
    jn (fun (v_1 : Bool) =>
      bif v_1 then
        some true
      else
        (m25_vector_Fits l budget).bind fun fits_1 =>
        (m21_vector_Least l).bind fun least_1 =>
        bif (decide (fits_1.2 ≠ 0)) then
          bif (decide (fits_1.2 = 60)) then
            some (!fits_1.1)
          else
            some false
        else
          (m25_vector_Fits least_1.1 budget).bind fun fits_2 =>
          loop2 (m6_overflightlaw06_VectorFits_B0 l budget fits_1 least_1 fits_2) (((l.length : Int) - 0).toNat + 1) false 0)
    (fun k12 =>
      (m20_overflightref06_Few l).bind fun few_1 =>
      bif (!few_1) then
        k12 true
      else
        (m12_overflightlaw06_short [budget]).bind fun short_1 =>
        k12 (!short_1))

theorem c6_overflightlaw06_VectorFits {w : World} {O : List Nat} {l : List (List Int)} {budget : List Int} {a_l : Option Addr} {c_l : Nat} {a_budget : Option Addr} {c_budget : Nat} (hO : ∀ k ∈ O, k < w.heap.size) (f_l : SlR (rSl (rInt .i64)) w O a_l c_l l) (f_budget : SlR (rInt .i64) w O a_budget c_budget budget) {x : Bool} (hm : m6_overflightlaw06_VectorFits l budget = some x) :
    Ok Try.prog 6 [(Value.slice a_l l.length c_l), (Value.slice a_budget budget.length c_budget)] w O vB x := by
  unfold m6_overflightlaw06_VectorFits at hm
  refine Fn_of_Wp (n := 79) (xs := [.tmp 4]) Try.func6 rfl Try.ntmps6 Try.results6 rfl ?_
  have hs := St.start hO
  refine Wp_seq ?_
  refine Wp_region ?_  -- 0 law.go:110
  refine Rg_op rfl (op_assign (v := (Value.bool false)) rfl ?_)
  refine Rg_nil ?_
  refine Wp_seq ?_
  refine Wp_seq ?_
  refine Wp_region ?_  -- 1 law.go:111
  replace hm := bd hm; obtain ⟨sane_1, hv1, hm⟩ := hm
  refine Rg_op rfl (op_call Try.call11 (c11_overflightlaw06_sane  hs.ltw  hv1) rfl ?_)
  rintro v2 w3 ⟨hx4, h5⟩
  have hs6 := hs.call hx4
  have p7 := Step.ext (O := ks [] O) hx4
  clear hx4
  replace f_l := f_l.step p7
  replace f_budget := f_budget.step p7
  clear p7
  obtain rfl := h5
  refine Rg_op rfl (op_not rfl ?_)
  refine Rg_nil ?_
  refine Wp_cond rfl (fun hc9 => ?_) (fun hc9 => ?_)
  ·
    replace hm := bif_t hm hc9
    refine Wp_seq ?_
    clear f_l f_budget
    refine Wp_region ?_  -- 2 law.go:112
    refine Rg_op rfl (op_assign (v := (Value.bool false)) rfl ?_)
    refine Rg_nil ?_
    refine Wp_ret ?_
    have hz := step_all hs6
    refine ⟨_, (show Closes [] _ _ from rfl), [(Value.bool false)], ⟨rfl, trivial⟩, hs6.ext, ?_⟩
    exact Vr.eq (a := vB) (x := false) rfl (Option.some.inj hm)
  ·
    replace hm := bif_f hm hc9
    refine Wp_skip ?_
    refine Wp_seq ?_
    refine Wp_reset [] [(0, (Value.slice a_l l.length c_l)), (1, (Value.slice a_budget budget.length c_budget))] rfl ⟨rfl, rfl, trivial⟩ fun ξ10 => ?_
    replace hm := jn_elim hm; obtain ⟨k12, hk13, hm⟩ := hm
    refine Wp_seqJ [16, 17, 18, 19, 20, 21, 22, 23, 24] (fun fr w' => ∃ (v_1 : Bool) (Ebs : Ents), Ebs = [] ∧ fr [] [(24, (Value.bool v_1))] ∧ Step (ks [] O) w3 (ks Ebs O) w' ∧ St ⟨w, [], []⟩ O w' Ebs ∧ k12 v_1 = some x) ?_ ?_
    ·
      rintro ρ19 w15 ⟨v_1, Ebs, hEbs, hfr18, hst17, hs16, hm⟩
      replace hm := jnE1 hk13 hm
      subst hEbs; rw [hfr18.eq]; clear hfr18
      replace f_l := f_l.step hst17
      replace f_budget := f_budget.step hst17
      clear hst17 hs6
      refine Wp_cond rfl (fun hc20 => ?_) (fun hc20 => ?_)
      ·
        replace hm := bif_t hm hc20
        refine Wp_seq ?_
        clear f_l f_budget
        refine Wp_region ?_  -- 4 law.go:115
        refine Rg_op rfl (op_assign (v := (Value.bool true)) rfl ?_)
        refine Rg_nil ?_
        refine Wp_ret ?_
        have hz := step_all hs16
        refine ⟨_, (show Closes [] _ _ from rfl), [(Value.bool true)], ⟨rfl, trivial⟩, hs16.ext, ?_⟩
        exact Vr.eq (a := vB) (x := true) rfl (Option.some.inj hm)
      ·
        replace hm := bif_f hm hc20
        refine Wp_skip ?_
        refine Wp_seq ?_
        refine Wp_region ?_  -- 5 law.go:117
        refine Rg_op rfl (op_move (v := (Value.slice a_l l.length c_l)) rfl ?_)
        refine Rg_op rfl (op_move (v := (Value.slice a_budget budget.length c_budget)) rfl ?_)
        replace hm := bd hm; obtain ⟨fits_1, hv21, hm⟩ := hm
        refine Rg_op rfl (op_call Try.call25 (c25_vector_Fits (l := l) (budget := budget) hs16.ltw f_l f_budget hv21) rfl ?_)
        rintro v22 w23 ⟨hx24, h25⟩
        have hs26 := hs16.call hx24
        have p27 := Step.ext (O := ks [] O) hx24
        clear hx24
        replace f_l := f_l.step p27
        replace f_budget := f_budget.step p27
        clear p27 hs16
        obtain ⟨v28, v29, rfl, h30, h31⟩ := h25
        obtain rfl := h30
        obtain ⟨rfl, r_y33⟩ := h31
        refine Rg_op rfl (op_move (v := (Value.tuple [(Value.bool fits_1.1), (Value.int .i64 fits_1.2)].toArray)) rfl ?_)
        refine Rg_op rfl (op_extract (v := (Value.bool fits_1.1)) rfl rfl ?_)
        refine Rg_op rfl (op_extract (v := (Value.int .i64 fits_1.2)) rfl rfl ?_)
        refine Rg_op rfl (op_assign (v := (Value.bool fits_1.1)) rfl ?_)
        refine Rg_op rfl (op_assign (v := (Value.int .i64 fits_1.2)) rfl ?_)
        refine Rg_nil ?_
        refine Wp_seq ?_
        refine Wp_region ?_  -- 6 law.go:118
        refine Rg_op rfl (op_move (v := (Value.slice a_l l.length c_l)) rfl ?_)
        replace hm := bd hm; obtain ⟨least_1, hv34, hm⟩ := hm
        refine Rg_op rfl (op_call Try.call21 (c21_vector_Least (l := l) hs26.ltw f_l hv34) rfl ?_)
        rintro v35 w36 ⟨hx37, h38⟩
        have hs39 := hs26.call hx37
        have p40 := Step.ext (O := ks [] O) hx37
        clear hx37
        replace f_l := f_l.step p40
        replace f_budget := f_budget.step p40
        clear p40 hs26
        obtain ⟨v41, v42, rfl, h43, h44⟩ := h38
        obtain ⟨a_y45, c_y45, rfl, f_y45⟩ := un_sl h43
        obtain ⟨rfl, r_y46⟩ := h44
        refine Rg_op rfl (op_move (v := (Value.tuple [(Value.slice a_y45 least_1.1.length c_y45), (Value.int .i64 least_1.2)].toArray)) rfl ?_)
        refine Rg_op rfl (op_extract (v := (Value.slice a_y45 least_1.1.length c_y45)) rfl rfl ?_)
        refine Rg_op rfl (op_extract (v := (Value.int .i64 least_1.2)) rfl rfl ?_)
        refine Rg_op rfl (op_assign (v := (Value.slice a_y45 least_1.1.length c_y45)) rfl ?_)
        refine Rg_op rfl (op_assign (v := (Value.int .i64 least_1.2)) rfl ?_)
        refine Rg_nil ?_
        refine Wp_seq ?_
        refine Wp_seq ?_
        refine Wp_region ?_  -- 7 law.go:119
        refine Rg_op rfl (op_move (v := (Value.int .i64 fits_1.2)) rfl ?_)
        refine Rg_op rfl (op_neq rfl rfl ?_)
        refine Rg_nil ?_
        refine Wp_cond rfl (fun hc47 => ?_) (fun hc47 => ?_)
        ·
          replace hm := bif_t hm hc47
          refine Wp_seq ?_
          clear f_l f_budget f_y45
          refine Wp_region ?_  -- 8 law.go:120
          refine Rg_op rfl (op_move (v := (Value.int .i64 fits_1.2)) rfl ?_)
          refine Rg_op rfl (op_eql rfl rfl ?_)
          refine Rg_op rfl (op_move (v := (Value.bool (decide (fits_1.2 = 60)))) rfl ?_)
          refine Rg_case (fun hg48 => ?_) (fun hg48 => ?_)
          ·
            replace hm := bif_t hm hg48
            refine Rg_opg rfl rfl rfl (op_move (v := (Value.bool fits_1.1)) rfl ?_)
            refine Rg_opg rfl rfl rfl (op_not rfl ?_)
            refine Rg_op rfl (op_pick_t (v := (Value.bool (!fits_1.1))) rfl rfl ?_)
            refine Rg_op rfl (op_assign (v := (Value.bool (!fits_1.1))) rfl ?_)
            refine Rg_nil ?_
            refine Wp_ret ?_
            have hz := step_all hs39
            refine ⟨_, (show Closes [] _ _ from rfl), [(Value.bool (!fits_1.1))], ⟨rfl, trivial⟩, hs39.ext, ?_⟩
            exact Vr.eq (a := vB) (x := (!fits_1.1)) rfl (Option.some.inj hm)
          ·
            replace hm := bif_f hm hg48
            refine Rg_opx rfl (asB_ne rfl rfl) rfl ?_
            refine Rg_opx rfl (asB_ne rfl rfl) rfl ?_
            refine Rg_op rfl (op_pick_f (v := (Value.bool false)) rfl rfl ?_)
            refine Rg_op rfl (op_assign (v := (Value.bool false)) rfl ?_)
            refine Rg_nil ?_
            refine Wp_ret ?_
            have hz := step_all hs39
            refine ⟨_, (show Closes [] _ _ from rfl), [(Value.bool false)], ⟨rfl, trivial⟩, hs39.ext, ?_⟩
            exact Vr.eq (a := vB) (x := false) rfl (Option.some.inj hm)
        ·
          replace hm := bif_f hm hc47
          refine Wp_skip ?_
          refine Wp_seq ?_
          refine Wp_region ?_  -- 9 law.go:122
          refine Rg_op rfl (op_move (v := (Value.slice a_y45 least_1.1.length c_y45)) rfl ?_)
          refine Rg_op rfl (op_move (v := (Value.slice a_budget budget.length c_budget)) rfl ?_)
          replace hm := bd hm; obtain ⟨fits_2, hv49, hm⟩ := hm
          refine Rg_op rfl (op_call Try.call25 (c25_vector_Fits (l := least_1.1) (budget := budget) hs39.ltw f_y45 f_budget hv49) rfl ?_)
          rintro v50 w51 ⟨hx52, h53⟩
          have hs54 := hs39.call hx52
          have p55 := Step.ext (O := ks [] O) hx52
          clear hx52
          replace f_l := f_l.step p55
          replace f_budget := f_budget.step p55
          replace f_y45 := f_y45.step p55
          clear p55 hs39
          obtain ⟨v56, v57, rfl, h58, h59⟩ := h53
          obtain rfl := h58
          obtain ⟨rfl, r_y61⟩ := h59
          refine Rg_op rfl (op_move (v := (Value.tuple [(Value.bool fits_2.1), (Value.int .i64 fits_2.2)].toArray)) rfl ?_)
          refine Rg_op rfl (op_extract (v := (Value.bool fits_2.1)) rfl rfl ?_)
          refine Rg_op rfl (op_extract (v := (Value.int .i64 fits_2.2)) rfl rfl ?_)
          refine Rg_op rfl (op_assign (v := (Value.bool fits_2.1)) rfl ?_)
          refine Rg_op rfl (op_assign (v := (Value.int .i64 fits_2.2)) rfl ?_)
          refine Rg_nil ?_
          refine Wp_seq ?_
          clear f_y45
          refine Wp_reset [] [(0, (Value.slice a_l l.length c_l)), (1, (Value.slice a_budget budget.length c_budget)), (5, (Value.bool fits_1.1)), (8, (Value.int .i64 least_1.2)), (9, (Value.bool fits_2.1)), (10, (Value.int .i64 fits_2.2))] rfl ⟨rfl, rfl, rfl, rfl, rfl, rfl, trivial⟩ fun ξ62 => ?_
          refine Wp_region ?_  -- 10 law.go:123
          refine Rg_op rfl (op_assign (v := (Value.bool false)) rfl ?_)
          refine Rg_nil ?_
          refine Wp_seq ?_
          refine Wp_seq ?_
          refine Wp_region ?_  -- 11 law.go:124
          refine Rg_op rfl (op_move (v := (Value.slice a_l l.length c_l)) rfl ?_)
          refine Rg_op rfl (op_len Try.underlying33 rfl ?_)
          refine Rg_op rfl (op_move (v := (Value.int .i64 0)) rfl ?_)
          refine Rg_nil ?_
          refine Wp_block ?_
          refine Wp_reset [] [(1, (Value.slice a_budget budget.length c_budget)), (5, (Value.bool fits_1.1)), (8, (Value.int .i64 least_1.2)), (9, (Value.bool fits_2.1)), (10, (Value.int .i64 fits_2.2)), (11, (Value.bool false)), (50, (Value.slice a_l l.length c_l)), (51, (Value.int .i64 (l.length : Int))), (52, (Value.int .i64 0))] rfl ⟨rfl, rfl, rfl, rfl, rfl, rfl, rfl, rfl, rfl, trivial⟩ fun ξ65 => ?_
          refine Wp_loopM [11, 13, 52, 53, 54, 55, 56, 57, 58, 59, 60, 61, 62] (fun m fr w' => ∃ (any_1 : Bool) (v_2 : Int) (Ebs : Ents), Ebs = [] ∧ fr [] [(11, (Value.bool any_1)), (52, (Value.int .i64 v_2))] ∧ Step (ks [] O) w51 (ks Ebs O) w' ∧ St ⟨w, [], []⟩ O w' Ebs ∧ InK .i64 v_2 ∧ loop2 (m6_overflightlaw06_VectorFits_B0 l budget fits_1 least_1 fits_2) m any_1 v_2 = some x) (((l.length : Int) - 0).toNat + 1) ⟨false, 0, _, rfl, ⟨Out.refl _ _, rfl, rfl, rfl, trivial⟩, Step.refl _ _, hs54, (show InK .i64 0 from by decide), hm⟩ ?_ ?_
          · rintro _ _ ⟨_, _, _, _, _, _, _, _, hm⟩; exact loop2_z hm
          · rintro m69 K68 hK68 ρ74 w70 ⟨any_1, v_2, Ebs, hEbs, hfr73, hst72, hs71, r_y64, hm⟩
            obtain ⟨sf66, hsf67, hm⟩ := loop2_s hm; unfold m6_overflightlaw06_VectorFits_B0 at hm
            subst hEbs; rw [hfr73.eq]; clear hfr73
            replace f_l := f_l.step hst72
            replace f_budget := f_budget.step hst72
            have ch75 := hst72
            refine Wp_seq ?_
            refine Wp_region ?_  -- 12 law.go:124
            refine Rg_op rfl (op_lss rfl rfl ?_)
            refine Rg_nil ?_
            refine Wp_seq ?_
            refine Wp_cond rfl (fun hc76 => ?_) (fun hc76 => ?_)
            ·
              replace hm := bif_t hm hc76
              refine Wp_skip ?_
              refine Wp_seq ?_
              refine Wp_block ?_
              refine Wp_seq ?_
              refine Wp_region ?_  -- 13 law.go:124
              replace hm := ck_some hm; obtain ⟨hc77, hm⟩ := hm
              refine Rg_op rfl (op_indexAddr (q := (rSl (rInt .i64))) ty33 ty22 rfl rfl f_l rfl hc77.1 hc77.2 ?_)
              intro p78 f79
              refine Rg_op rfl (op_loadP ty22 rfl f79 rfl ?_)
              intro v80 h81
              obtain ⟨a_y82, c_y82, rfl, f_y82⟩ := un_sl h81
              refine Rg_op rfl (op_assign (v := (Value.slice a_y82 (l.getD v_2.toNat default).length c_y82)) rfl ?_)
              refine Rg_nil ?_
              clear f79
              refine Wp_region ?_  -- 14 law.go:125
              refine Rg_op rfl (op_move (v := (Value.bool any_1)) rfl ?_)
              refine Rg_op rfl (op_move (v := (Value.bool any_1)) rfl ?_)
              refine Rg_case (fun hg83 => ?_) (fun hg83 => ?_)
              ·
                replace hm := bif_t hm hg83
                refine Rg_opx rfl (asB_ne rfl rfl) rfl ?_
                refine Rg_opx rfl (asB_ne rfl rfl) rfl ?_
                refine Rg_opx rfl (asB_ne rfl rfl) rfl ?_
                refine Rg_op rfl (op_pick_t (v := (Value.bool true)) rfl rfl ?_)
                refine Rg_op rfl (op_assign (v := (Value.bool true)) rfl ?_)
                refine Rg_nil ?_
                clear f_y82
                refine Wp_region ?_  -- 15 law.go:124
                refine Rg_op rfl (op_addw rfl rfl ?_)
                refine Rg_op rfl (op_move (v := (Value.int .i64 (IntKind.wrap .i64 (v_2 + 1)))) rfl ?_)
                refine Rg_nil ?_
                exact hK68 _ _ ⟨true, (IntKind.wrap .i64 (v_2 + 1)), _, rfl, ⟨(by repeat (first | with_reducible exact Out.refl _ _ | refine Out.upd ?_ rfl | refine Out.updL ?_ rfl | refine Out.mix' ?_ rfl | exact Out.refl _ _)), rfl, rfl, rfl, trivial⟩, ch75, hs71, (inK_wrap .i64 _), jnE2 hsf67 hm⟩
              ·
                replace hm := bif_f hm hg83
                refine Rg_opg rfl rfl rfl (op_move (v := (Value.slice a_y82 (l.getD v_2.toNat default).length c_y82)) rfl ?_)
                refine Rg_opg rfl rfl rfl (op_move (v := (Value.slice a_budget budget.length c_budget)) rfl ?_)
                replace hm := bd hm; obtain ⟨below_1, hv84, hm⟩ := hm
                refine Rg_opg rfl rfl rfl (op_call Try.call28 (c28_overflightlaw06_below (a := (l.getD v_2.toNat default)) (b := budget) hs71.ltw f_y82 f_budget hv84) rfl ?_)
                rintro v85 w86 ⟨hx87, h88⟩
                have hs89 := hs71.call hx87
                have p90 := Step.ext (O := ks [] O) hx87
                clear hx87
                replace f_l := f_l.step p90
                replace f_budget := f_budget.step p90
                replace f_y82 := f_y82.step p90
                replace ch75 := ch75.trans p90
                clear p90 hs71
                obtain rfl := h88
                refine Rg_op rfl (op_pick_f (v := (Value.bool below_1)) rfl rfl ?_)
                refine Rg_op rfl (op_assign (v := (Value.bool below_1)) rfl ?_)
                refine Rg_nil ?_
                refine Wp_region ?_  -- 15 law.go:124
                refine Rg_op rfl (op_addw rfl rfl ?_)
                refine Rg_op rfl (op_move (v := (Value.int .i64 (IntKind.wrap .i64 (v_2 + 1)))) rfl ?_)
                refine Rg_nil ?_
                exact hK68 _ _ ⟨below_1, (IntKind.wrap .i64 (v_2 + 1)), _, rfl, ⟨(by repeat (first | with_reducible exact Out.refl _ _ | refine Out.upd ?_ rfl | refine Out.updL ?_ rfl | refine Out.mix' ?_ rfl | exact Out.refl _ _)), rfl, rfl, rfl, trivial⟩, ch75, hs89, (inK_wrap .i64 _), jnE2 hsf67 hm⟩
            ·
              replace hm := bif_f hm hc76
              refine Wp_exit ?_
              refine Wp_reset [] [(5, (Value.bool fits_1.1)), (8, (Value.int .i64 least_1.2)), (9, (Value.bool fits_2.1)), (10, (Value.int .i64 fits_2.2)), (11, (Value.bool any_1))] rfl ⟨rfl, rfl, rfl, rfl, rfl, trivial⟩ fun ξ92 => ?_
              replace hm := jn_elim hm; obtain ⟨k94, hk95, hm⟩ := hm
              refine Wp_seqJ [4, 63, 64, 65, 66, 67, 68, 69, 70, 71, 72, 73, 74, 75, 76, 77, 78] (fun fr w' => ∃ (v_3 : Bool) (Ebs : Ents), Ebs = [] ∧ fr [] [(4, (Value.bool v_3))] ∧ Step (ks [] O) w70 (ks Ebs O) w' ∧ St ⟨w, [], []⟩ O w' Ebs ∧ k94 v_3 = some x) ?_ ?_
              ·
                rintro ρ101 w97 ⟨v_3, Ebs, hEbs, hfr100, hst99, hs98, hm⟩
                replace hm := jnE1 hk95 hm
                subst hEbs; rw [hfr100.eq]; clear hfr100
                replace f_l := f_l.step hst99
                replace f_budget := f_budget.step hst99
                replace ch75 := ch75.trans hst99
                clear hst99 hs71
                refine Wp_ret ?_
                have hz := step_all hs98
                replace f_l := f_l.step hz
                replace f_budget := f_budget.step hz
                refine ⟨_, (show Closes [] _ _ from rfl), [(Value.bool v_3)], ⟨rfl, trivial⟩, hs98.ext, ?_⟩
                exact Vr.eq (a := vB) (x := v_3) rfl (Option.some.inj hm)
              ·
                intro K96 hK96
                have ch102 := Step.refl (ks [] O) w70
                clear f_l f_budget
                refine Wp_region ?_  -- 16 law.go:127
                refine Rg_op rfl (op_move (v := (Value.int .i64 least_1.2)) rfl ?_)
                refine Rg_op rfl (op_eql rfl rfl ?_)
                refine Rg_op rfl (op_move (v := (Value.bool (decide (least_1.2 = 0)))) rfl ?_)
                refine Rg_case (fun hg103 => ?_) (fun hg103 => ?_)
                ·
                  replace hm := bif_t hm hg103
                  refine Rg_opg rfl rfl rfl (op_move (v := (Value.int .i64 fits_2.2)) rfl ?_)
                  refine Rg_opg rfl rfl rfl (op_eql rfl rfl ?_)
                  refine Rg_op rfl (op_pick_t (v := (Value.bool (decide (fits_2.2 = 0)))) rfl rfl ?_)
                  refine Rg_op rfl (op_move (v := (Value.bool (decide (fits_2.2 = 0)))) rfl ?_)
                  refine Rg_case (fun hg104 => ?_) (fun hg104 => ?_)
                  ·
                    replace hm := bif_t hm hg104
                    refine Rg_opg rfl rfl rfl (op_move (v := (Value.bool fits_1.1)) rfl ?_)
                    refine Rg_opg rfl rfl rfl (op_move (v := (Value.bool fits_2.1)) rfl ?_)
                    refine Rg_opg rfl rfl rfl (op_eqb Try.underlying4 rfl rfl ?_)
                    refine Rg_op rfl (op_pick_t (v := (Value.bool (fits_1.1 == fits_2.1))) rfl rfl ?_)
                    refine Rg_op rfl (op_move (v := (Value.bool (fits_1.1 == fits_2.1))) rfl ?_)
                    refine Rg_case (fun hg105 => ?_) (fun hg105 => ?_)
                    ·
                      replace hm := bif_t hm hg105
                      refine Rg_opg rfl rfl rfl (op_move (v := (Value.bool fits_1.1)) rfl ?_)
                      refine Rg_opg rfl rfl rfl (op_move (v := (Value.bool any_1)) rfl ?_)
                      refine Rg_opg rfl rfl rfl (op_eqb Try.underlying4 rfl rfl ?_)
                      refine Rg_op rfl (op_pick_t (v := (Value.bool (fits_1.1 == any_1))) rfl rfl ?_)
                      refine Rg_op rfl (op_assign (v := (Value.bool (fits_1.1 == any_1))) rfl ?_)
                      refine Rg_nil ?_
                      exact hK96 _ _ ⟨(fits_1.1 == any_1), _, rfl, ⟨(by repeat (first | with_reducible exact Out.refl _ _ | refine Out.upd ?_ rfl | refine Out.updL ?_ rfl | refine Out.mix' ?_ rfl | exact Out.refl _ _)), rfl, rfl, trivial⟩, ch102, hs71, hm⟩
                    ·
                      replace hm := bif_f hm hg105
                      refine Rg_opx rfl (asB_ne rfl rfl) rfl ?_
                      refine Rg_opx rfl (asB_ne rfl rfl) rfl ?_
                      refine Rg_opx rfl (asB_ne rfl rfl) rfl ?_
                      refine Rg_op rfl (op_pick_f (v := (Value.bool false)) rfl rfl ?_)
                      refine Rg_op rfl (op_assign (v := (Value.bool false)) rfl ?_)
                      refine Rg_nil ?_
                      exact hK96 _ _ ⟨false, _, rfl, ⟨(by repeat (first | with_reducible exact Out.refl _ _ | refine Out.upd ?_ rfl | refine Out.updL ?_ rfl | refine Out.mix' ?_ rfl | exact Out.refl _ _)), rfl, rfl, trivial⟩, ch102, hs71, hm⟩
                  ·
                    replace hm := bif_f hm hg104
                    refine Rg_opx rfl (asB_ne rfl rfl) rfl ?_
                    refine Rg_opx rfl (asB_ne rfl rfl) rfl ?_
                    refine Rg_opx rfl (asB_ne rfl rfl) rfl ?_
                    refine Rg_op rfl (op_pick_f (v := (Value.bool false)) rfl rfl ?_)
                    refine Rg_op rfl (op_move (v := (Value.bool false)) rfl ?_)
                    refine Rg_opx rfl (asB_ne rfl rfl) rfl ?_
                    refine Rg_opx rfl (asB_ne rfl rfl) rfl ?_
                    refine Rg_opx rfl (asB_ne rfl rfl) rfl ?_
                    refine Rg_op rfl (op_pick_f (v := (Value.bool false)) rfl rfl ?_)
                    refine Rg_op rfl (op_assign (v := (Value.bool false)) rfl ?_)
                    refine Rg_nil ?_
                    exact hK96 _ _ ⟨false, _, rfl, ⟨(by repeat (first | with_reducible exact Out.refl _ _ | refine Out.upd ?_ rfl | refine Out.updL ?_ rfl | refine Out.mix' ?_ rfl | exact Out.refl _ _)), rfl, rfl, trivial⟩, ch102, hs71, hm⟩
                ·
                  replace hm := bif_f hm hg103
                  refine Rg_opx rfl (asB_ne rfl rfl) rfl ?_
                  refine Rg_opx rfl (asB_ne rfl rfl) rfl ?_
                  refine Rg_op rfl (op_pick_f (v := (Value.bool false)) rfl rfl ?_)
                  refine Rg_op rfl (op_move (v := (Value.bool false)) rfl ?_)
                  refine Rg_opx rfl (asB_ne rfl rfl) rfl ?_
                  refine Rg_opx rfl (asB_ne rfl rfl) rfl ?_
                  refine Rg_opx rfl (asB_ne rfl rfl) rfl ?_
                  refine Rg_op rfl (op_pick_f (v := (Value.bool false)) rfl rfl ?_)
                  refine Rg_op rfl (op_move (v := (Value.bool false)) rfl ?_)
                  refine Rg_opx rfl (asB_ne rfl rfl) rfl ?_
                  refine Rg_opx rfl (asB_ne rfl rfl) rfl ?_
                  refine Rg_opx rfl (asB_ne rfl rfl) rfl ?_
                  refine Rg_op rfl (op_pick_f (v := (Value.bool false)) rfl rfl ?_)
                  refine Rg_op rfl (op_assign (v := (Value.bool false)) rfl ?_)
                  refine Rg_nil ?_
                  exact hK96 _ _ ⟨false, _, rfl, ⟨(by repeat (first | with_reducible exact Out.refl _ _ | refine Out.upd ?_ rfl | refine Out.updL ?_ rfl | refine Out.mix' ?_ rfl | exact Out.refl _ _)), rfl, rfl, trivial⟩, ch102, hs71, hm⟩
    ·
      intro K14 hK14
      have ch106 := Step.refl (ks [] O) w3
      refine Wp_region ?_  -- 3 law.go:114
      refine Rg_op rfl (op_move (v := (Value.slice a_l l.length c_l)) rfl ?_)
      replace hm := bd hm; obtain ⟨few_1, hv107, hm⟩ := hm
      refine Rg_op rfl (op_call Try.call20 (c20_overflightref06_Few (l := l) hs6.ltw f_l hv107) rfl ?_)
      rintro v108 w109 ⟨hx110, h111⟩
      have hs112 := hs6.call hx110
      have p113 := Step.ext (O := ks [] O) hx110
      clear hx110
      replace f_l := f_l.step p113
      replace f_budget := f_budget.step p113
      replace ch106 := ch106.trans p113
      clear p113 hs6
      obtain rfl := h111
      refine Rg_op rfl (op_not rfl ?_)
      refine Rg_op rfl (op_move (v := (Value.bool (!few_1))) rfl ?_)
      refine Rg_case (fun hg115 => ?_) (fun hg115 => ?_)
      ·
        replace hm := bif_t hm hg115
        refine Rg_opx rfl (asB_ne rfl rfl) rfl ?_
        refine Rg_opx rfl (asB_ne rfl rfl) rfl ?_
        refine Rg_opx rfl (asB_ne rfl rfl) rfl ?_
        refine Rg_opx rfl (asB_ne rfl rfl) rfl ?_
        refine Rg_op rfl (op_pick_t (v := (Value.bool true)) rfl rfl ?_)
        refine Rg_nil ?_
        exact hK14 _ _ ⟨true, _, rfl, ⟨(by repeat (first | with_reducible exact Out.refl _ _ | refine Out.upd ?_ rfl | refine Out.updL ?_ rfl | refine Out.mix' ?_ rfl | exact Out.refl _ _)), rfl, rfl, trivial⟩, ch106, hs112, hm⟩
      ·
        replace hm := bif_f hm hg115
        refine Rg_opg rfl rfl rfl (op_move (v := (Value.slice a_budget budget.length c_budget)) rfl ?_)
        refine Rg_opg rfl rfl rfl (op_buildSlice (cs := [(Value.slice a_budget budget.length c_budget)]) (parts := [(0, .tmp 20)]) ty33 ty22 hs112 (by decide) rfl ?_)
        intro b116 w117 hx120 p118 hs119
        replace f_l := f_l.step p118
        replace f_budget := f_budget.step p118
        replace ch106 := ch106.trans p118
        clear p118 hs112
        obtain ⟨hs123, p124, f122⟩ := St.publish (i := 0) (o := 0) (c := 1) (xs := [budget]) hs119 rfl (show Els (rSl (rInt .i64)) _ _ [(Value.slice a_budget budget.length c_budget)] [budget] from ⟨_, _, rfl, (mk_sl f_budget), Els.nil⟩) (le_lit rfl) (le_lit rfl) (le_lit rfl)
        replace f_l := f_l.step p124
        replace f_budget := f_budget.step p124
        replace ch106 := ch106.trans p124
        clear p124 hs119
        replace hm := bd hm; obtain ⟨short_1, hv125, hm⟩ := hm
        refine Rg_opg rfl rfl rfl (op_call Try.call12 (c12_overflightlaw06_short (l := [budget]) hs123.ltw f122 hv125) rfl ?_)
        rintro v126 w127 ⟨hx128, h129⟩
        have hs130 := hs123.call hx128
        have p131 := Step.ext (O := ks [] O) hx128
        clear hx128
        replace f_l := f_l.step p131
        replace f_budget := f_budget.step p131
        replace f122 := f122.step p131
        replace ch106 := ch106.trans p131
        clear p131 hs123
        obtain rfl := h129
        refine Rg_opg rfl rfl rfl (op_not rfl ?_)
        refine Rg_op rfl (op_pick_f (v := (Value.bool (!short_1))) rfl rfl ?_)
        refine Rg_nil ?_
        exact hK14 _ _ ⟨(!short_1), _, rfl, ⟨(by repeat (first | with_reducible exact Out.refl _ _ | refine Out.upd ?_ rfl | refine Out.updL ?_ rfl | refine Out.mix' ?_ rfl | exact Out.refl _ _)), rfl, rfl, trivial⟩, ch106, hs130, hm⟩

end Go.Fx


/- VectorFits: the plain law. -/
set_option linter.unusedSimpArgs false
set_option linter.unusedVariables false
namespace Go.Fx
open Go Go.RowKit
theorem least_any {l : List (List Int)} {c : List Int} (h : ∀ a ∈ l, a.length = c.length) : (leastL l).any (fun a => bel a c) = l.any (fun a => bel a c) := by
  have il := leastL_is h
  apply Bool.eq_iff_iff.2
  simp only [List.any_eq_true]
  constructor
  · rintro ⟨a, ha, hb⟩; exact ⟨a, il.sub a ha, hb⟩
  · rintro ⟨a, ha, hb⟩
    obtain ⟨y, hy, hya⟩ := il.cov a ha
    exact ⟨y, hy, bel_trans (by rw [h y (il.sub y hy), h a ha]) (h a ha) hya hb⟩
theorem VectorFits_law (l : List (List Int)) (budget : List Int) (hl : SmL (SmL (InK .i64)) l) (_ : SmL (InK .i64) budget) : m6_overflightlaw06_VectorFits l budget = some true := by
  have hl0 : l.length < 9223372036854775807 := by have := hl.1; omega
  have hls : ∀ a ∈ l, a.length < 9223372036854775807 := fun a ha => by have := (hl.2 a ha).1; omega
  unfold m6_overflightlaw06_VectorFits
  rw [sane_eq]
  simp only [Option.bind_some, jn_eq, Bool.not_true, cond_false]
  rw [few_eq l hl0, m12_eq _ (by simp)]
  cases hf : (l.all (fun a => decide (a.length ≤ 20)) && decide (l.length ≤ 30))
  · simp
  obtain ⟨f1, f2⟩ := few_spec hf
  simp only [Option.bind_some, Bool.not_true, cond_false]
  cases hg : (List.all [budget] (fun a => decide (a.length ≤ 20)) && decide ([budget].length ≤ 30))
  · simp
  simp only [Bool.not_true, cond_false]
  rw [m25_eq l budget hl0 hls, m21_eq l (by omega) (fun a ha => by have := f1 a ha; simp [big]; omega)]
  simp only [Option.bind_some]
  cases hb : l.all (fun a => decide (a.length = budget.length))
  · simp
  have hn : ∀ a ∈ l, a.length = budget.length := fun a ha => by simpa using List.all_eq_true.1 hb a ha
  rw [alike_of hn]
  simp only [cond_true, ne_eq, not_true_eq_false, decide_false, cond_false]
  have hr : (leastL l).all (fun a => decide (a.length = budget.length)) = true := List.all_eq_true.2 fun a ha => by simpa using hn a ((leastL_is hn).sub a ha)
  rw [m25_eq (leastL l) budget (by have := leastL_len l; omega) (fun a ha => hls a ((leastL_is hn).sub a ha)), hr]
  simp only [Option.bind_some, cond_true, least_any hn]
  refine (up_listB (σ := Bool) (fun i x => True) (fun _ t x => some (l.any (fun a => bel a budget) == (x || t.any (fun a => bel a budget)))) l hl0 ?_ ?_ (show l.length < ((l.length : Int) - 0).toNat + 1 by omega) trivial).trans (by simp)
  · intro sf x _; unfold m6_overflightlaw06_VectorFits_B0; simp
  · intro sf i x a t h1 h2 h3 _ ih
    obtain ⟨_, rfl⟩ := List.getElem?_eq_some_iff.1 h2
    unfold m6_overflightlaw06_VectorFits_B0
    have c1 : (i : Int) < (l.length : Int) := by omega
    have g1 : l.getD (i : Int).toNat default = l[i] := by simp [h1]
    simp only [c1, decide_true, cond_true, g1, h3]
    rw [ck_eq (by simp)]
    cases x
    · rw [m28_eq _ _ (hls _ (List.getElem_mem _)), hn _ (List.getElem_mem _)]
      simp only [cond_false, Option.bind_some, decide_true, Bool.true_and, ih _ trivial, List.any_cons, Bool.false_or]
    · simp only [cond_true, ih _ trivial, Bool.true_or]
end Go.Fx


/- VectorSums: the plain law. -/
set_option linter.unusedSimpArgs false
set_option linter.unusedVariables false
namespace Go.Fx
open Go Go.RowKit
theorem m55_eq (n : Nat) (h : n < big) : m55_slices_Growint_int_ (n : Int) = some [] := by
  unfold m55_slices_Growint_int_
  simp only [big] at h
  have e1 : IntKind.i64.wrap (0 - 0) = 0 := by decide
  have e2 : IntKind.i64.wrap ((n : Int) - 0) = n := (wrap_i64 (by omega) (by omega)).trans (by omega)
  have e3 : ¬ (n : Int) < 0 := by omega
  rw [e1, e2]
  simp only [e3, decide_false, cond_false]
  by_cases h0 : 0 < (n : Int)
  · simp only [h0, decide_true, cond_true]
    rw [ck_eq trivial, ck_eq (by omega)]
  · simp only [h0, decide_false, cond_false]
theorem m40_eq (a b : List (List Int)) (ha : a.length < 400000) (hb : b.length < 400000) : m40_slices_Concatint_int_ [a, b] = some (a ++ b) := by
  have w1 : IntKind.i64.wrap (0 + (a.length : Int)) = (a.length : Int) := (wrap_i64 (by omega) (by omega)).trans (by omega)
  have w2 : IntKind.i64.wrap ((a.length : Int) + (b.length : Int)) = ((a.length + b.length : Nat) : Int) := (wrap_i64 (by omega) (by omega)).trans (by omega)
  have s1 : IntKind.i64.wrap (0 + 1) = 1 := by decide
  have s2 : IntKind.i64.wrap (1 + 1) = 2 := by decide
  have n1 : ¬ (a.length : Int) < 0 := by omega
  have n2 : ¬ ((a.length + b.length : Nat) : Int) < 0 := by omega
  have L : loop2 (m40_slices_Concatint_int__B1 [a, b]) ((([a, b].length : Int) - 0).toNat + 1) [] 0 = some (a ++ b) := by
    show loop2 _ 3 [] 0 = _
    rw [loop2_succ]; unfold m40_slices_Concatint_int__B1
    rw [loop2_succ]
    rw [loop2_succ]
    simp only [s1, s2]
    simp
    rw [ck_eq (by omega), ck_eq (by omega)]
  unfold m40_slices_Concatint_int_
  show loop2 _ 3 0 0 = _
  rw [loop2_succ]; unfold m40_slices_Concatint_int__B0
  rw [loop2_succ]
  rw [loop2_succ]
  simp only [s1, s2]
  have e0 : ([a, b] : List (List (List Int))).getD (0 : Int).toNat default = a := rfl
  have e1 : ([a, b] : List (List (List Int))).getD (1 : Int).toNat default = b := rfl
  have c0 : decide ((0 : Int) < (([a, b] : List (List (List Int))).length : Int)) = true := rfl
  have c1 : decide ((1 : Int) < (([a, b] : List (List (List Int))).length : Int)) = true := rfl
  have c2 : decide ((2 : Int) < (([a, b] : List (List (List Int))).length : Int)) = false := rfl
  simp only [e0, e1, w1, w2, n1, n2, c0, c1, c2, decide_false, cond_false, cond_true]
  rw [ck_eq (by simp), ck_eq (by simp), m55_eq _ (by simp only [big]; omega)]
  exact L
/-- all sums -/
def sumsL (a b : List (List Int)) : List (List Int) := a.flatMap fun u => b.map fun v => addV u v
theorem m23_eq (a b : List (List Int)) (n : Nat) (ha : a.length ≤ 30) (hb : b.length ≤ 30) (hna : ∀ u ∈ a, u.length = n) (hnb : ∀ u ∈ b, u.length = n) (hn : n ≤ 20) (sa : ∀ u ∈ a, smallV u = true) (sb : ∀ u ∈ b, smallV u = true)
    (alike : m36_vector_alike (a ++ b) (some fun x => m29_vector_small x) = some true) : m23_vector_Sums a b = some (leastL (sumsL a b), 0) := by
  unfold m23_vector_Sums
  rw [m40_eq a b (by omega) (by omega)]
  simp only [Option.bind_some]
  rw [alike]
  have c1 : ¬ (4096 : Int) < (a.length : Int) := by omega
  have c2 : ¬ (4096 : Int) < (b.length : Int) := by omega
  have hm : a.length * b.length ≤ 30 * 30 := Nat.mul_le_mul ha hb
  have w : IntKind.i64.wrap ((a.length : Int) * (b.length : Int)) = ((a.length * b.length : Nat) : Int) := by
    rw [← Int.natCast_mul]; exact wrap_i64 (by omega) (by omega)
  have c3 : ¬ (1048576 : Int) < ((a.length * b.length : Nat) : Int) := by omega
  simp only [Option.bind_some, Bool.not_true, cond_false, jn_eq, c1, c2, c3, w, decide_false]
  have hX : ∀ x ∈ sumsL a b, x.length = n := fun x hx => by
    simp only [sumsL, List.mem_flatMap, List.mem_map] at hx
    obtain ⟨u, hu, v, hv, rfl⟩ := hx
    rw [addV_len (by rw [hna u hu, hnb v hv]), hna u hu]
  have hXl : (sumsL a b).length = a.length * b.length := by
    simp [sumsL, List.length_flatMap, List.map_const']
  -- the inner loop
  have inner : ∀ (u : List Int) (hu : u ∈ a) (i : Nat) (sf : (List (List Int)) → Int → Option ((List (List Int)) × Int)) (v : Int), v = (i : Int) → a.getD i default = u → ∀ x : List (List Int), x.length ≤ 900 →
      loop2 (m23_vector_Sums_B1 a b v sf) (((b.length : Int) - 0).toNat + 1) x 0 = sf (x ++ b.map fun w => addV u w) (IntKind.wrap .i64 (v + 1)) := by
    intro u hu i sf v hv hgu x hx
    refine (up_listB (σ := List (List Int)) (fun j y => y.length = x.length + j) (fun j t y => sf (y ++ t.map fun w => addV u w) (IntKind.wrap .i64 (v + 1))) b (by omega) ?_ ?_ (show b.length < ((b.length : Int) - 0).toNat + 1 by omega) (by simp))
    · intro sf' y _; unfold m23_vector_Sums_B1; simp
    · intro sf' j y w t h1 h2 h3 hy ih
      obtain ⟨_, rfl⟩ := List.getElem?_eq_some_iff.1 h2
      unfold m23_vector_Sums_B1
      have c1 : (j : Int) < (b.length : Int) := by omega
      have g1 : b.getD (j : Int).toNat default = b[j] := by simp [h1]
      have hbm : b[j] ∈ b := List.getElem_mem _
      have hgu' : a.getD v.toNat default = u := by rw [hv, Int.toNat_natCast]; exact hgu
      simp only [c1, decide_true, cond_true, g1, h3, hgu']
      rw [ck_eq (by simp), m13_eq u b[j] (by have := hna u hu; simp [big]; omega) (by have := hnb _ hbm; simp [big]; omega), if_pos ⟨by rw [hna u hu, hnb _ hbm], sa u hu, sb _ hbm⟩]
      simp only [Option.bind_some]
      rw [ck_eq (by simp; omega), ih _ (by simp; omega)]
      simp
  refine (up_listB (σ := List (List Int)) (fun i x => x.length = i * b.length ∧ ∀ e ∈ x, e.length = n) (fun i t x => some (leastL (x ++ sumsL t b), (0 : Int))) a (by omega) ?_ ?_ (show a.length < ((a.length : Int) - 0).toNat + 1 by omega) ⟨by simp, by simp⟩).trans (by simp)
  · rintro sf x ⟨hx, hxn⟩
    unfold m23_vector_Sums_B0
    have hl := leastL_len x
    have c4 : ¬ (4096 : Int) < ((leastL x).length : Int) := by omega
    simp only [Int.lt_irrefl, decide_false, cond_false]
    rw [m37_eq x n hxn (by simp only [big]; omega) (by simp only [big]; omega)]
    simp [c4, sumsL]
  · rintro sf i x u t h1 h2 h3 ⟨hx, hxn⟩ ih
    obtain ⟨_, rfl⟩ := List.getElem?_eq_some_iff.1 h2
    have hu : a[i] ∈ a := List.getElem_mem _
    have hi30 : i * b.length ≤ 29 * 30 := Nat.mul_le_mul (by omega) hb
    unfold m23_vector_Sums_B0
    have c4 : (i : Int) < (a.length : Int) := by omega
    simp only [c4, decide_true, cond_true]
    rw [ck_eq (by simp), inner a[i] hu i sf i rfl (by simp [h1]) x (by omega), h3, ih _ ⟨by simp [hx, Nat.add_mul], fun e he => ?_⟩]
    · simp [sumsL]
    · simp only [List.mem_append, List.mem_map] at he
      rcases he with he | ⟨v, hv, rfl⟩
      · exact hxn e he
      · rw [addV_len (by rw [hna _ hu, hnb v hv]), hna _ hu]
theorem VectorSums_law (a b : List (List Int)) (budget : List Int) (hla : SmL (SmL (InK .i64)) a) (hlb : SmL (SmL (InK .i64)) b) (_ : SmL (InK .i64) budget) : m7_overflightlaw06_VectorSums a b budget = some true := by
  have ha0 : a.length < 9223372036854775807 := by have := hla.1; omega
  have hb0 : b.length < 9223372036854775807 := by have := hlb.1; omega
  unfold m7_overflightlaw06_VectorSums
  rw [sane_eq]
  simp only [Option.bind_some, jn_eq, Bool.not_true, cond_false]
  rw [few_eq a ha0, few_eq b hb0, m12_eq _ (by simp)]
  cases hf : (a.all (fun a => decide (a.length ≤ 20)) && decide (a.length ≤ 30))
  · simp
  obtain ⟨f1, f2⟩ := few_spec hf
  simp only [Option.bind_some, Bool.not_true, cond_false]
  cases hf' : (b.all (fun a => decide (a.length ≤ 20)) && decide (b.length ≤ 30))
  · simp
  obtain ⟨f3, f4⟩ := few_spec hf'
  simp only [Option.bind_some, Bool.not_true, cond_false]
  cases hg : (List.all [budget] (fun a => decide (a.length ≤ 20)) && decide ([budget].length ≤ 30))
  · simp
  simp only [Bool.not_true, cond_false]
  have fab : ∀ x ∈ a ++ b, x.length ≤ 20 := fun x hx => by
    rcases List.mem_append.1 hx with h | h
    · exact f1 x h
    · exact f3 x h
  have al := m36_eq (a ++ b) (some fun x => m29_vector_small x) smallV (fun x hx f' hf' => by cases hf'; exact m29_eq x (by have := fab x hx; omega)) (by simp; omega)
  cases hal : (alikeB (a ++ b) && (!(some fun x => m29_vector_small x).isSome || (a ++ b).all smallV))
  · have : m23_vector_Sums a b = some ([], 60) := by
      unfold m23_vector_Sums
      rw [m40_eq a b (by omega) (by omega)]
      simp only [Option.bind_some]
      rw [al, hal]; rfl
    rw [this]; simp
  rw [hal] at al
  simp only [Option.isSome_some, Bool.not_true, Bool.false_or, Bool.and_eq_true] at hal
  obtain ⟨n, hn, hn20⟩ : ∃ n, (∀ x ∈ a ++ b, x.length = n) ∧ n ≤ 20 := by
    obtain ⟨n, hn⟩ := alike_len hal.1
    cases hh : a ++ b with
    | nil => exact ⟨0, by simp, by omega⟩
    | cons x t => rw [hh] at hn fab; exact ⟨n, hn, by have := fab x (by simp); rw [hn x (by simp)] at this; exact this⟩
  have hna : ∀ u ∈ a, u.length = n := fun u hu => hn u (by simp [hu])
  have hnb : ∀ u ∈ b, u.length = n := fun u hu => hn u (by simp [hu])
  have sa : ∀ u ∈ a, smallV u = true := fun u hu => List.all_eq_true.1 hal.2 u (by simp [hu])
  have sb : ∀ u ∈ b, smallV u = true := fun u hu => List.all_eq_true.1 hal.2 u (by simp [hu])
  rw [m23_eq a b n f2 f4 hna hnb hn20 sa sb al]
  have hX : ∀ x ∈ sumsL a b, x.length = n := fun x hx => by
    simp only [sumsL, List.mem_flatMap, List.mem_map] at hx
    obtain ⟨u, hu, v, hv, rfl⟩ := hx
    rw [addV_len (by rw [hna u hu, hnb v hv]), hna u hu]
  have hXl : (sumsL a b).length = a.length * b.length := by simp [sumsL, List.length_flatMap, List.map_const']
  have hm : a.length * b.length ≤ 30 * 30 := Nat.mul_le_mul f2 f4
  have il := leastL_is hX
  have hll := leastL_len (sumsL a b)
  simp only [Option.bind_some, ne_eq, not_true_eq_false, decide_false, cond_false]
  rw [m25_eq _ budget (by omega) (fun x hx => by rw [hX x (il.sub x hx)]; omega)]
  simp only [Option.bind_some]
  cases hb : (leastL (sumsL a b)).all (fun x => decide (x.length = budget.length))
  · simp
  simp only [cond_true, ne_eq, not_true_eq_false, decide_false, cond_false]
  have hlen : ∀ x ∈ sumsL a b, x.length = budget.length := fun x hx => by
    obtain ⟨y, hy, _⟩ := il.cov x hx
    have := List.all_eq_true.1 hb y hy
    simp only [decide_eq_true_eq] at this
    rw [hX x hx, ← this, hX y (il.sub y hy)]
  rw [least_any hlen]
  have inner : ∀ (u : List Int) (hu : u ∈ a) (i : Nat) (sf : Bool → Int → Option Bool) (v : Int), v = (i : Int) → a.getD i default = u → ∀ x : Bool,
      loop2 (m7_overflightlaw06_VectorSums_B1 a b budget v sf) (((b.length : Int) - 0).toNat + 1) x 0 = sf (x || (b.map fun w => addV u w).any fun c => bel c budget) (IntKind.wrap .i64 (v + 1)) := by
    intro u hu i sf v hv hgu x
    refine (up_listB (σ := Bool) (fun j y => True) (fun j t y => sf (y || (t.map fun w => addV u w).any fun c => bel c budget) (IntKind.wrap .i64 (v + 1))) b hb0 ?_ ?_ (show b.length < ((b.length : Int) - 0).toNat + 1 by omega) trivial)
    · intro sf' y _; unfold m7_overflightlaw06_VectorSums_B1; simp
    · intro sf' j y w t h1 h2 h3 hy ih
      obtain ⟨_, rfl⟩ := List.getElem?_eq_some_iff.1 h2
      unfold m7_overflightlaw06_VectorSums_B1
      have c1 : (j : Int) < (b.length : Int) := by omega
      have g1 : b.getD (j : Int).toNat default = b[j] := by simp [h1]
      have hbm : b[j] ∈ b := List.getElem_mem _
      have hgu' : a.getD v.toNat default = u := by rw [hv, Int.toNat_natCast]; exact hgu
      have hmem : addV u b[j] ∈ sumsL a b := by
        simp only [sumsL, List.mem_flatMap, List.mem_map]; exact ⟨u, hu, b[j], hbm, rfl⟩
      simp only [c1, decide_true, cond_true, g1, h3, hgu']
      rw [ck_eq (by simp), m13_eq u b[j] (by have := hna u hu; simp [big]; omega) (by have := hnb _ hbm; simp [big]; omega), if_pos ⟨by rw [hna u hu, hnb _ hbm], sa u hu, sb _ hbm⟩]
      simp only [Option.bind_some, ne_eq, not_true_eq_false, decide_false, cond_false]
      rw [m28_eq _ _ (by rw [hX _ hmem]; omega), hlen _ hmem]
      cases y
      · simp only [cond_false, Option.bind_some, decide_true, Bool.true_and, ih _ trivial, List.map_cons, List.any_cons, Bool.false_or]
      · simp only [cond_true, ih _ trivial, Bool.true_or]
  refine (up_listB (σ := Bool) (fun i x => True) (fun i t x => some ((sumsL a b).any (fun c => bel c budget) == (x || (sumsL t b).any (fun c => bel c budget)))) a ha0 ?_ ?_ (show a.length < ((a.length : Int) - 0).toNat + 1 by omega) trivial).trans (by simp)
  · intro sf x _; unfold m7_overflightlaw06_VectorSums_B0; simp [sumsL]
  · intro sf i x u t h1 h2 h3 _ ih
    obtain ⟨_, rfl⟩ := List.getElem?_eq_some_iff.1 h2
    have hu : a[i] ∈ a := List.getElem_mem _
    unfold m7_overflightlaw06_VectorSums_B0
    have c4 : (i : Int) < (a.length : Int) := by omega
    simp only [c4, decide_true, cond_true]
    rw [ck_eq (by simp), inner a[i] hu i sf i rfl (by simp [h1]) x, h3, ih _ trivial]
    simp [sumsL, Bool.or_assoc]
end Go.Fx


namespace Go.Proofs.Yteohplgecfdafaa.lawVectorSums
open Go Go.Proofs Go.ChangeShapes Go.WideShapes Go.ChangeAt Go.RowKit Go.Fx
open Go.ChangeMaps (open_string shut_string)
set_option linter.unusedVariables false
set_option maxRecDepth 100000
theorem own : ownKnob Try.prog.godebug = none := by kernel_rfl
theorem laidOut : laidOutB Try.prog = true := by kernel_rfl
set_option maxRecDepth 100000 in
set_option maxHeartbeats 1000000 in
theorem lifted (os : Os) (started : os.Started) (H : Type) (enc : TypeId × Value → H) :
    ReturnsInHanded {} Try.checked os 7 .any (Rows.vectorSumsSpec.pre6 enc Try.prog Try.f7 Rows.vectorSumsRow.domain false) (Rows.vectorSumsSpec.post enc Try.prog Try.f7 false true false false) := by
  refine returnsInHanded_of_change_sized (C := Try.checked) own started (by kernel_rfl) Try.func7
    (ChangeSpec.witness6 (enc := enc) (C := Try.checked) false ⟨#[], #[(.slice none 0 0), (.slice none 0 0), (.slice none 0 0)], []⟩ 8 (by kernel_rfl) (by kernel_rfl) (by kernel_rfl) (by kernel_rfl)) ?_
  intro W base args ds gs before hval0 hW hcnd hsz _
  have hval : ∀ (j : Nat) t v, Try.f7.params[j]? = some t → args[j]? = some v → Value.okWide Try.prog W .any base t v := hval0
  have hW' := hW
  obtain ⟨p, q, hA0, hV, rfl, hfz, hnd⟩ := hW
  have hA : DataW.TrodAll enc Try.prog W 0 (fun _ => true) true Try.f7.params.toList args.toList ds p := hA0
  rw [Try.params7] at hA hval
  obtain ⟨v0, vs0, d0, ds0, p0, q0, hargs, rfl, rfl, h0, r0⟩ := trodAll_cons hA
  obtain ⟨v1, vs1, d1, ds1, p1, q1, rfl, rfl, rfl, h1, r1⟩ := trodAll_cons r0
  obtain ⟨v2, vs2, d2, ds2, p2, q2, rfl, rfl, rfl, h2, r2⟩ := trodAll_cons r1
  obtain ⟨rfl, rfl, rfl⟩ := trodAll_nil r2
  obtain rfl : args = #[v0, v1, v2] := by cases args; simp_all
  obtain ⟨rfl, rfl⟩ := trodVars_none hV
  have k0 := h0
  have lt0 : ∀ x ∈ p0, x.block < W.heap.size := by obtain ⟨m, hm⟩ := k0; exact DataW.trod_lt m _ _ _ hm
  obtain ⟨fu0, hf0⟩ := h0
  obtain ⟨a, rr0, sm0⟩ := rd33.2 _ _ _ hf0
  replace sm0 := sm0 (fun n hn => by have := List.all_eq_true.1 hsz n (DataW.weights_mem_each (j := 0) (t := 33) rfl rfl n hn); simpa using this)
  obtain ⟨b0, l0, c0, rfl⟩ := okWide_slice Try.underlying33 (hval 0 33 v0 rfl rfl)
  replace rr0 : (rSl (rSl (rInt .i64))).rd W [] [.slice b0 l0 c0] a := rr0
  obtain ⟨a_a, c_a, e0, f_a⟩ := un_sl rr0
  simp only [Value.slice.injEq] at e0
  obtain ⟨rfl, rfl, rfl⟩ := e0
  have k1 := h1
  have lt1 : ∀ x ∈ p1, x.block < W.heap.size := by obtain ⟨m, hm⟩ := k1; exact DataW.trod_lt m _ _ _ hm
  obtain ⟨fu1, hf1⟩ := h1
  obtain ⟨b, rr1, sm1⟩ := rd33.2 _ _ _ hf1
  replace sm1 := sm1 (fun n hn => by have := List.all_eq_true.1 hsz n (DataW.weights_mem_each (j := 1) (t := 33) rfl rfl n hn); simpa using this)
  obtain ⟨b1, l1, c1, rfl⟩ := okWide_slice Try.underlying33 (hval 1 33 v1 rfl rfl)
  replace rr1 : (rSl (rSl (rInt .i64))).rd W [] [.slice b1 l1 c1] b := rr1
  obtain ⟨a_b, c_b, e1, f_b⟩ := un_sl rr1
  simp only [Value.slice.injEq] at e1
  obtain ⟨rfl, rfl, rfl⟩ := e1
  have k2 := h2
  have lt2 : ∀ x ∈ p2, x.block < W.heap.size := by obtain ⟨m, hm⟩ := k2; exact DataW.trod_lt m _ _ _ hm
  obtain ⟨fu2, hf2⟩ := h2
  obtain ⟨budget, rr2, sm2⟩ := rd22.2 _ _ _ hf2
  replace sm2 := sm2 (fun n hn => by have := List.all_eq_true.1 hsz n (DataW.weights_mem_each (j := 2) (t := 22) rfl rfl n hn); simpa using this)
  obtain ⟨b2, l2, c2, rfl⟩ := okWide_slice Try.underlying22 (hval 2 22 v2 rfl rfl)
  replace rr2 : (rSl (rInt .i64)).rd W [] [.slice b2 l2 c2] budget := rr2
  obtain ⟨a_budget, c_budget, e2, f_budget⟩ := un_sl rr2
  simp only [Value.slice.injEq] at e2
  obtain ⟨rfl, rfl, rfl⟩ := e2
  have hm : m7_overflightlaw06_VectorSums a b budget = some true := VectorSums_law _ _ _ sm0 sm1 sm2
  have hc := Fn.calls (c7_overflightlaw06_VectorSums (a := a) (b := b) (budget := budget) (w := W) (O := []) (by simp) f_a f_b f_budget hm)
  clear hA0 hval0
  refine Calls.mono hc ?_
  rintro e W' ⟨v, rfl, bel, hv⟩
  replace bel := bel.below; obtain rfl : v = .bool true := hv
  exact ⟨_, rfl, _, _, _, [], _, [], hW', trodAll_mk1 (shut_bool Try.underlying4 _), (trodAll_cons_mk (Below.trod laidOut (by kernel_rfl) (of_decide_eq_true (by kernel_rfl)) k0 bel lt0) (trodAll_cons_mk (Below.trod laidOut (by kernel_rfl) (of_decide_eq_true (by kernel_rfl)) k1 bel lt1) (trodAll_cons_mk (Below.trod laidOut (by kernel_rfl) (of_decide_eq_true (by kernel_rfl)) k2 bel lt2) trodAll_mk0))), rfl, bel.frame _, fun h => by cases h⟩
theorem over : Rows.vectorSumsRow.holds Try.pinned (OpenSpec.ofChange Rows.vectorSumsSpec) :=
  OpenClaim.holds_of_wide 7 Try.f7 rfl rfl rfl rfl rfl rfl rfl ⟨rfl, rfl, rfl, rfl, rfl⟩ rfl rfl rfl rfl rfl (by kernel_rfl) Try.func7 (by kernel_rfl)
    (of_decide_eq_true (by kernel_rfl)) (by unfold Func.isWrapper; first | (rw [if_pos (by decide +kernel)]; kernel_rfl) | (rw [if_neg (by decide +kernel)]; exact ⟨rfl, rfl⟩))
    (fun os started H enc _ => lifted os started H enc)
theorem proved : Rows.VectorSumsSaid := over
end Go.Proofs.Yteohplgecfdafaa.lawVectorSums

