/- For every list of vectors, the law VectorFront of chapter 06 returns true. -/
import Derived.Test.YteohplgecfdafaaFront3
import Derived.Test.YteohplgecfdafaaRows
import Derived.WalkKit
import Derived.ShutString
/- The plain laws of chapter 06: what the functions compute. -/
set_option linter.unusedSimpArgs false
set_option linter.unusedVariables false
namespace Go.Fx
open Go Go.RowKit
theorem sane_eq : m11_overflightlaw06_sane = some true := by kernel_rfl
abbrev big : Nat := 1000000
/-- the order of lists: -1, 0 or 1 -/
def cmpL : List Int → List Int → Int
  | [], [] => 0
  | [], _ :: _ => -1
  | _ :: _, [] => 1
  | x :: s, y :: t => if x < y then -1 else if y < x then 1 else cmpL s t
theorem cmpL_vals (a b : List Int) : cmpL a b = -1 ∨ cmpL a b = 0 ∨ cmpL a b = 1 := by
  induction a generalizing b with
  | nil => cases b <;> simp [cmpL]
  | cons x s ih => cases b with
    | nil => simp [cmpL]
    | cons y t =>
      unfold cmpL
      by_cases h1 : x < y
      · simp [h1]
      · by_cases h2 : y < x
        · simp [h1, h2]
        · simp only [h1, h2, if_false]; exact ih t
theorem cmpL_anti (a b : List Int) : cmpL b a = - cmpL a b := by
  induction a generalizing b with
  | nil => cases b <;> simp [cmpL]
  | cons x s ih => cases b with
    | nil => simp [cmpL]
    | cons y t =>
      unfold cmpL
      by_cases h1 : x < y
      · have : ¬ y < x := by omega
        simp [h1, this]
      · by_cases h2 : y < x
        · simp [h1, h2]
        · simp [h1, h2, ih]
theorem cmpL_zero {a b : List Int} : cmpL a b = 0 ↔ a = b := by
  induction a generalizing b with
  | nil => cases b <;> simp [cmpL]
  | cons x s ih => cases b with
    | nil => simp [cmpL]
    | cons y t =>
      unfold cmpL
      by_cases h1 : x < y
      · simp [h1]; omega
      · by_cases h2 : y < x
        · simp [h1, h2]; omega
        · have : x = y := by omega
          simp [h1, h2, ih, this]
theorem cmpL_trans {a b c : List Int} (h1 : cmpL a b ≤ 0) (h2 : cmpL b c ≤ 0) : cmpL a c ≤ 0 := by
  induction a generalizing b c with
  | nil => cases c <;> simp [cmpL]
  | cons x s ih =>
    cases b with
    | nil => simp [cmpL] at h1
    | cons y t =>
      cases c with
      | nil => simp [cmpL] at h2
      | cons z u =>
        unfold cmpL at h1 h2 ⊢
        by_cases a1 : x < z
        · simp [a1]
        · by_cases a2 : x < y
          · have : ¬ y < z := by omega
            have : z < y := by omega
            simp_all
          · by_cases a3 : y < x
            · simp [a2, a3] at h1
            · have hxy : x = y := by omega
              subst hxy
              simp only [a1, if_false] at h2 ⊢
              by_cases a4 : z < x
              · simp [a4] at h2
              · simp only [a4, if_false, Int.lt_irrefl] at h1 h2 ⊢
                exact ih h1 h2
theorem cmpL_lt {a b c : List Int} (h1 : cmpL a b < 0) (h2 : cmpL b c < 0) : cmpL a c < 0 := by
  have h3 := cmpL_trans (a := a) (b := b) (c := c) (by omega) (by omega)
  rcases Int.lt_or_eq_of_le h3 with h | h
  · exact h
  · rw [cmpL_zero] at h; subst h
    have := cmpL_anti a b; omega
/-- below, component by component -/
def bel : List Int → List Int → Bool
  | x :: s, y :: t => decide (x ≤ y) && bel s t
  | _, _ => true
theorem bel_refl (a : List Int) : bel a a = true := by induction a <;> simp [bel, *]
theorem bel_cmp {a b : List Int} (hl : a.length = b.length) (h : bel a b = true) : cmpL a b ≤ 0 := by
  induction a generalizing b with
  | nil => cases b <;> simp [cmpL]
  | cons x s ih => cases b with
    | nil => simp at hl
    | cons y t =>
      simp only [bel, Bool.and_eq_true, decide_eq_true_eq] at h
      unfold cmpL
      by_cases h1 : x < y
      · simp [h1]
      · have : ¬ y < x := by omega
        simp only [h1, this, if_false]; exact ih (by simpa using hl) h.2
theorem bel_trans {a b c : List Int} (h1 : a.length = b.length) (h2 : b.length = c.length) (k1 : bel a b = true) (k2 : bel b c = true) : bel a c = true := by
  induction a generalizing b c with
  | nil => cases c <;> simp [bel]
  | cons x s ih => cases b with
    | nil => simp at h1
    | cons y t => cases c with
      | nil => simp at h2
      | cons z u =>
        simp only [bel, Bool.and_eq_true, decide_eq_true_eq] at k1 k2 ⊢
        exact ⟨by omega, ih (by simpa using h1) (by simpa using h2) k1.2 k2.2⟩
theorem m48_eq (x y : Int) : m48_cmp_Compare x y = some (if x < y then -1 else if y < x then 1 else 0) := by
  unfold m48_cmp_Compare m58_cmp_isNaN
  by_cases h1 : x < y
  · simp [h1]
  · by_cases h2 : y < x <;> simp [h1, h2]
theorem m34_eq (a b : List Int) (ha : a.length < 9223372036854775807) : m34_slices_Compareint_int_ a b = some (cmpL a b) := by
  unfold m34_slices_Compareint_int_
  have := up_listI (B := m34_slices_Compareint_int__B0 a b) (fun i t => some (cmpL t (b.drop i))) a ha ?_ ?_ (fuel := ((a.length : Int) - 0).toNat + 1) (by omega)
  · simpa using this
  · intro sf
    unfold m34_slices_Compareint_int__B0
    by_cases h : a.length < b.length
    · have : ∃ y t, b.drop a.length = y :: t := by
        cases hd : b.drop a.length with
        | nil => have := congrArg List.length hd; simp at this; omega
        | cons y t => exact ⟨y, t, rfl⟩
      obtain ⟨y, t, hd⟩ := this
      have h' : (a.length : Int) < (b.length : Int) := by omega
      simp [h', hd, cmpL, h]
    · have h' : ¬ (a.length : Int) < (b.length : Int) := by omega
      have hd : b.drop a.length = [] := by simp; omega
      simp [h', hd, cmpL, h]
  · intro sf i x t h1 h2 h3 ih
    obtain ⟨_, rfl⟩ := List.getElem?_eq_some_iff.1 h2
    unfold m34_slices_Compareint_int__B0
    have c1 : (i : Int) < (a.length : Int) := by omega
    have g1 : a.getD (i : Int).toNat default = a[i] := by simp [h1]
    simp only [c1, decide_true, cond_true, g1, h3]
    rw [ck_eq (by simp)]
    by_cases hb : i < b.length
    · have c2 : ¬ (b.length : Int) ≤ (i : Int) := by omega
      have g2 : b.getD (i : Int).toNat default = b[i] := by simp [hb]
      have hd : b.drop i = b[i] :: b.drop (i + 1) := List.drop_eq_getElem_cons hb
      simp only [c2, decide_false, cond_false, g2, m48_eq, Option.bind_some, hd]
      rw [ck_eq (by omega)]
      unfold cmpL
      by_cases k1 : a[i] < b[i]
      · simp [k1]
      · by_cases k2 : b[i] < a[i]
        · simp [k1, k2]
        · simp only [k1, k2, if_false, ne_eq, not_true_eq_false, decide_false, cond_false]; exact ih
    · have c2 : (b.length : Int) ≤ (i : Int) := by omega
      have hd : b.drop i = [] := by simp; omega
      simp [c2, hd, cmpL]
theorem m35_eq (a b : List Int) (h : a.length = b.length) (ha : a.length < 9223372036854775807) : m35_overflightref06_Order a b = some (cmpL a b) := by
  unfold m35_overflightref06_Order
  have := up_listI (B := m35_overflightref06_Order_B0 a b) (fun i t => some (cmpL t (b.drop i))) a ha ?_ ?_ (fuel := ((a.length : Int) - 0).toNat + 1) (by omega)
  · simpa using this
  · intro sf
    unfold m35_overflightref06_Order_B0
    have hd : b.drop a.length = [] := by simp; omega
    simp [hd, cmpL]
  · intro sf i x t h1 h2 h3 ih
    obtain ⟨_, rfl⟩ := List.getElem?_eq_some_iff.1 h2
    unfold m35_overflightref06_Order_B0
    have c1 : (i : Int) < (a.length : Int) := by omega
    have hb : i < b.length := by omega
    have g1 : a.getD (i : Int).toNat default = a[i] := by simp [h1]
    have g2 : b.getD (i : Int).toNat default = b[i] := by simp [hb]
    have hd : b.drop i = b[i] :: b.drop (i + 1) := List.drop_eq_getElem_cons hb
    simp only [c1, decide_true, cond_true, g1, g2, h3, hd]
    rw [ck_eq (by simp), ck_eq (by omega), ck_eq (by simp), ck_eq (by omega)]
    unfold cmpL
    by_cases k1 : a[i] < b[i]
    · simp [k1]
    · by_cases k2 : b[i] < a[i]
      · simp [k1, k2]
      · simp only [k1, k2, if_false, decide_false, cond_false]; exact ih
theorem m19_eq (a b : List Int) (ha : a.length < 9223372036854775807) : m19_overflightref06_Same a b = some (decide (a = b)) := by
  unfold m19_overflightref06_Same
  by_cases h : a.length = b.length
  · have h' : (a.length : Int) = (b.length : Int) := by omega
    rw [m35_eq a b h ha]; simp [h', cmpL_zero]
  · have h' : ¬ (a.length : Int) = (b.length : Int) := by omega
    have : ¬ a = b := fun e => h (by rw [e])
    simp [h', this]
theorem m17_eq (a b : List Int) (ha : a.length < 9223372036854775807) : m17_vector_Compare a b = some (if a.length = b.length then (cmpL a b, 0) else (0, 60)) := by
  unfold m17_vector_Compare
  by_cases h : a.length = b.length
  · have h' : (a.length : Int) = (b.length : Int) := by omega
    rw [m34_eq a b ha]; simp [h', h]
  · have h' : ¬ (a.length : Int) = (b.length : Int) := by omega
    simp [h', h]
theorem m30_eq (a b : List Int) (h : a.length = b.length) (ha : a.length < 9223372036854775807) : m30_vector_pairs a b = some (a.zip b) := by
  unfold m30_vector_pairs m47_vector_pairs_1
  have := up_listI (B := m47_vector_pairs_1_B0 a b) (fun i t => some (t.zip (b.drop i))) a ha ?_ ?_ (fuel := ((a.length : Int) - 0).toNat + 1) (by omega)
  · rw [List.drop_zero] at this; exact (congrArg (fun o => o.bind fun l_1 => some l_1) this).trans rfl
  · intro sf; unfold m47_vector_pairs_1_B0; simp
  · intro sf i x t h1 h2 h3 ih
    obtain ⟨_, rfl⟩ := List.getElem?_eq_some_iff.1 h2
    unfold m47_vector_pairs_1_B0
    have c1 : (i : Int) < (a.length : Int) := by omega
    have hb : i < b.length := by omega
    have g1 : a.getD (i : Int).toNat default = a[i] := by simp [h1]
    have g2 : b.getD (i : Int).toNat default = b[i] := by simp [hb]
    have hd : b.drop i = b[i] :: b.drop (i + 1) := List.drop_eq_getElem_cons hb
    simp only [c1, decide_true, cond_true, g1, g2, h3, hd]
    rw [ck_eq (by simp), ck_eq (by omega), ih, List.zip_cons_cons]
    rfl
theorem m32_eq (a b : List Int) (h : a.length = b.length) (ha : a.length < 9223372036854775807) : m32_vector_below a b = some (bel a b) := by
  unfold m32_vector_below
  rw [m30_eq a b h ha]
  simp only [Option.bind_some, jn_eq]
  clear ha
  induction a generalizing b with
  | nil => simp [rng0_nil, bel]
  | cons x s ih => cases b with
    | nil => simp at h
    | cons y t =>
      rw [List.zip_cons_cons, rng0_cons]
      unfold m32_vector_below_B0
      by_cases k : y < x
      · have : ¬ x ≤ y := by omega
        simp [k, bel, this]
      · have : x ≤ y := by omega
        simp only [k, decide_false, cond_false, bel, this, decide_true, Bool.true_and]
        exact ih t (by simpa using h)
theorem m15_eq (a b : List Int) (ha : a.length < 9223372036854775807) : m15_vector_Below a b = some (if a.length = b.length then (bel a b, 0) else (false, 60)) := by
  unfold m15_vector_Below
  by_cases h : a.length = b.length
  · have h' : (a.length : Int) = (b.length : Int) := by omega
    rw [m32_eq a b h ha]; simp [h', h]
  · have h' : ¬ (a.length : Int) = (b.length : Int) := by omega
    simp [h', h]
theorem m28_eq (a b : List Int) (ha : a.length < 9223372036854775807) : m28_overflightlaw06_below a b = some (decide (a.length = b.length) && bel a b) := by
  unfold m28_overflightlaw06_below
  rw [m15_eq a b ha]
  by_cases h : a.length = b.length
  · cases hb : bel a b <;> simp [h, hb]
  · simp [h]
theorem few_eq (l : List (List Int)) (hl : l.length < 9223372036854775807) : m20_overflightref06_Few l = some (l.all (fun a => decide (a.length ≤ 20)) && decide (l.length ≤ 30)) := by
  unfold m20_overflightref06_Few
  refine up_list0 (fun t => some (t.all (fun a => decide (a.length ≤ 20)) && decide (l.length ≤ 30))) l hl ?_ ?_ (show l.length < ((l.length : Int) - 0).toNat + 1 by omega)
  · intro sf; unfold m20_overflightref06_Few_B0
    have : ((l.length : Int) ≤ 30) = (l.length ≤ 30) := by apply propext; omega
    simp [this]
  · intro sf i x t h1 h2 h3 ih
    obtain ⟨_, rfl⟩ := List.getElem?_eq_some_iff.1 h2
    unfold m20_overflightref06_Few_B0
    have k4 : (20 < (l[i].length : Int)) = (20 < l[i].length) := by apply propext; omega
    by_cases k : 20 < l[i].length
    · have : ¬ l[i].length ≤ 20 := by omega
      simp [h1, h3, ih, ck_eq, k4, k, this]
    · have : l[i].length ≤ 20 := by omega
      simp [h1, h3, ih, ck_eq, k4, k, this]
theorem few_spec {l : List (List Int)} (h : (l.all (fun a => decide (a.length ≤ 20)) && decide (l.length ≤ 30)) = true) : (∀ a ∈ l, a.length ≤ 20) ∧ l.length ≤ 30 := by
  simp only [Bool.and_eq_true, List.all_eq_true, decide_eq_true_eq] at h; exact h
theorem m12_eq (l : List (List Int)) (hl : l.length < 9223372036854775807) : m12_overflightlaw06_short l = some (l.all (fun a => decide (a.length ≤ 20)) && decide (l.length ≤ 30)) := by
  unfold m12_overflightlaw06_short; rw [few_eq l hl]; rfl
/-- the first index from i where g holds, or -1 -/
def fidx {α} (g : α → Bool) : Nat → List α → Int
  | _, [] => -1
  | i, x :: t => bif g x then (i : Int) else fidx g (i + 1) t
theorem fidx_any {α} (g : α → Bool) (l : List α) (i : Nat) : decide (0 ≤ fidx g i l) = l.any g := by
  induction l generalizing i with
  | nil => rfl
  | cons x t ih => cases h : g x <;> simp [fidx, h, ih]
theorem m42_eq (s : List (List Int)) (f : List Int → Option Bool) (g : List Int → Bool) (hf : ∀ x ∈ s, f x = some (g x)) (hl : s.length < 9223372036854775807) : m42_slices_ContainsFuncint_int_ s (some f) = some (s.any g) := by
  have : m56_slices_IndexFuncint_int_ s (some f) = some (fidx g 0 s) := by
    unfold m56_slices_IndexFuncint_int_
    refine up_listI (fun i t => some (fidx g i t)) s hl ?_ ?_ (by omega)
    · intro sf; unfold m56_slices_IndexFuncint_int__B0; simp [fidx]
    · intro sf i x t h1 h2 h3 ih; unfold m56_slices_IndexFuncint_int__B0; obtain ⟨_, rfl⟩ := List.getElem?_eq_some_iff.1 h2
      have hfi := hf s[i] (List.getElem_mem _)
      cases h : g s[i] <;> simp [h1, h3, ih, callO, hfi, h, fidx, ck_eq]
  unfold m42_slices_ContainsFuncint_int_; rw [this]; simp [fidx_any]
theorem m45_eq (s : List Int) (f : Int → Option Bool) (g : Int → Bool) (hf : ∀ x, f x = some (g x)) (hl : s.length < 9223372036854775807) : m45_slices_ContainsFuncint_int_ s f = some (s.any g) := by
  have : m57_slices_IndexFuncint_int_ s f = some (fidx g 0 s) := by
    unfold m57_slices_IndexFuncint_int_
    refine up_listI (fun i t => some (fidx g i t)) s hl ?_ ?_ (by omega)
    · intro sf; unfold m57_slices_IndexFuncint_int__B0; simp [fidx]
    · intro sf i x t h1 h2 h3 ih; unfold m57_slices_IndexFuncint_int__B0; obtain ⟨_, rfl⟩ := List.getElem?_eq_some_iff.1 h2
      cases h : g s[i] <;> simp [h1, h3, ih, hf, h, fidx, ck_eq]
  unfold m45_slices_ContainsFuncint_int_; rw [this]; simp [fidx_any]
def smallN (n : Int) : Bool := decide (-1152921504606846976 ≤ n) && decide (n ≤ 1152921504606846976)
def smallV (a : List Int) : Bool := a.all smallN
theorem m29_eq (a : List Int) (ha : a.length < 9223372036854775807) : m29_vector_small a = some (smallV a) := by
  unfold m29_vector_small
  rw [m45_eq a _ (fun n => !smallN n) _ ha]
  · have : (!a.any fun n => !smallN n) = smallV a := by unfold smallV; rw [List.not_any_eq_all_not]; simp
    simp [this]
  · intro n; unfold m46_vector_small_1 smallN
    by_cases h1 : n < -1152921504606846976
    · have : ¬ -1152921504606846976 ≤ n := by omega
      simp only [h1, this, decide_true, decide_false, cond_true, Bool.false_and, Bool.not_false]
    · have : -1152921504606846976 ≤ n := by omega
      by_cases h2 : 1152921504606846976 < n
      · have h3 : ¬ n ≤ 1152921504606846976 := by omega
        simp only [h1, this, h2, h3, decide_true, decide_false, cond_false, Bool.true_and, Bool.not_false]
      · have h3 : n ≤ 1152921504606846976 := by omega
        simp only [h1, this, h2, h3, decide_true, decide_false, cond_false, Bool.true_and, Bool.not_true]
/-- what Add answers -/
def addV (a b : List Int) : List Int := (a.zip b).map fun p => p.1 + p.2
theorem addV_len {a b : List Int} (h : a.length = b.length) : (addV a b).length = a.length := by simp [addV, h]
theorem m13_eq (a b : List Int) (ha : a.length < big) (hb : b.length < big) : m13_vector_Add a b = some (if a.length = b.length ∧ smallV a = true ∧ smallV b = true then (addV a b, 0) else ([], 60)) := by
  unfold m13_vector_Add
  simp only [jn_eq, m29_eq a (by simp [big] at ha; omega), m29_eq b (by simp [big] at hb; omega), Option.bind_some]
  by_cases h : a.length = b.length
  · have h' : (a.length : Int) = (b.length : Int) := by omega
    rw [m30_eq a b h (by simp [big] at ha; omega)]
    cases s1 : smallV a
    · simp [h, h', s1]
    cases s2 : smallV b
    · simp [h, h', s1, s2]
    simp only [h', ne_eq, not_true_eq_false, decide_false, cond_false, Bool.not_true, Option.bind_some, h, and_self, if_true]
    have main : ∀ (l : List (Int × Int)) (acc : List Int), (∀ p ∈ l, smallN p.1 = true ∧ smallN p.2 = true) → acc.length + l.length < big →
        rng1 m13_vector_Add_B0 (fun v => some (v, (0 : Int))) l acc = some (acc ++ l.map (fun p => p.1 + p.2), 0) := by
      intro l
      induction l with
      | nil => intro acc _ _; simp [rng1_nil]
      | cons p t ih =>
        intro acc hs hl
        rw [rng1_cons]
        obtain ⟨k1, k2⟩ := hs p (by simp)
        have IH := ih (acc ++ [p.1 + p.2]) (fun q hq => hs q (by simp [hq])) (by simp [big] at hl ⊢; omega)
        generalize rng1 m13_vector_Add_B0 (fun v => some (v, (0 : Int))) t = sf at IH ⊢
        unfold m13_vector_Add_B0
        simp only [smallN, Bool.and_eq_true, decide_eq_true_eq] at k1 k2
        have w : IntKind.i64.wrap (p.1 + p.2) = p.1 + p.2 := wrap_i64 (by omega) (by omega)
        simp only [List.length_cons, big] at hl
        rw [w, ck_eq (by simp; omega), IH]
        simp
    refine (main _ [] ?_ (by simp [big] at *; omega)).trans (by simp [addV])
    intro p hp
    obtain ⟨m1, m2⟩ := List.of_mem_zip hp
    exact ⟨List.all_eq_true.1 s1 _ m1, List.all_eq_true.1 s2 _ m2⟩
  · have h' : ¬ (a.length : Int) = (b.length : Int) := by omega
    simp [h', h]
/-- all of the same length as the first -/
def alikeB (l : List (List Int)) : Bool := l.all fun a => decide (a.length = (l.getD 0 default).length)
theorem alike_len {l : List (List Int)} (h : alikeB l = true) : ∃ n, ∀ a ∈ l, a.length = n := ⟨_, fun a ha => by simpa using List.all_eq_true.1 h a ha⟩
theorem alike_of {l : List (List Int)} {n : Nat} (h : ∀ a ∈ l, a.length = n) : alikeB l = true := by
  refine List.all_eq_true.2 fun a ha => ?_
  cases l with
  | nil => simp at ha
  | cons b t => simp [h a ha, h b (by simp)]
theorem m36_eq (l : List (List Int)) (f : Option (List Int → Option Bool)) (g : List Int → Bool) (hf : ∀ x ∈ l, ∀ f', f = some f' → f' x = some (g x)) (hl : l.length < 9223372036854775807) :
    m36_vector_alike l f = some (alikeB l && (!f.isSome || l.all g)) := by
  unfold m36_vector_alike
  rw [m42_eq l _ (fun a => !(decide (a.length = (l.getD 0 default).length) && (!f.isSome || g a))) _ hl]
  · have : (!l.any fun a => !(decide (a.length = (l.getD 0 default).length) && (!f.isSome || g a))) = (alikeB l && (!f.isSome || l.all g)) := by
      unfold alikeB
      rw [List.not_any_eq_all_not]
      have e : (fun a : List Int => !!(decide (a.length = (l.getD 0 default).length) && (!f.isSome || g a))) = fun a => (decide (a.length = (l.getD 0 default).length) && (!f.isSome || g a)) := by funext a; simp
      rw [e]
      cases f.isSome
      · simp
      · generalize (l.getD 0 default).length = n
        clear e hf hl
        simp only [Bool.not_true, Bool.false_or]
        induction l with
        | nil => rfl
        | cons x t ih => simp only [List.all_cons, ih]; cases decide (x.length = n) <;> cases g x <;> cases (t.all fun a => decide (a.length = n)) <;> simp
    rw [Option.bind_some, this]
  · intro a ha
    unfold m49_vector_alike_1
    have h0 : 0 < l.length := List.length_pos_of_mem ha
    rw [ck_eq (by omega)]
    by_cases h : a.length = (l.getD 0 default).length
    · have h' : (a.length : Int) = ((l.getD 0 default).length : Int) := by omega
      cases f with
      | none => simp [h', h]
      | some f' =>
        have := hf a ha f' rfl
        simp only [h', ne_eq, not_true_eq_false, decide_false, cond_false, Option.isSome_some, cond_true, callO, Option.bind_some, this, h, decide_true, Bool.true_and, Bool.not_true, Bool.false_or]
    · have h' : ¬ (a.length : Int) = ((l.getD 0 default).length : Int) := by omega
      simp only [h', ne_eq, not_false_eq_true, decide_true, cond_true, h, decide_false, Bool.false_and, Bool.not_false]
/-- the least ones of a sorted list -/
def stepL (x : List (List Int)) (a : List Int) : List (List Int) := bif x.any (fun b => bel b a) then x else x ++ [a]
def leastL (l : List (List Int)) : List (List Int) := (isortM (fun a b => decide (cmpL a b < 0)) l).foldl stepL []
theorem total (xs : List (List Int)) : TotalOn (fun a b => decide (cmpL a b < 0)) xs :=
  ⟨fun x _ => by have : cmpL x x = 0 := cmpL_zero.2 rfl; simp [this],
   fun x _ y _ h1 h2 => by
    simp only [decide_eq_false_iff_not] at h1 h2
    have := cmpL_anti x y
    exact cmpL_zero.1 (by omega),
   fun x _ y _ z _ h1 h2 => by simp only [decide_eq_true_eq] at *; exact cmpL_lt h1 h2⟩
theorem foldl_len (s x : List (List Int)) : (s.foldl stepL x).length ≤ x.length + s.length := by
  induction s generalizing x with
  | nil => simp
  | cons a t ih =>
    refine Nat.le_trans (ih _) ?_
    unfold stepL; cases x.any (fun b => bel b a) <;> simp <;> omega
theorem m37_eq (l : List (List Int)) (n : Nat) (hn : ∀ a ∈ l, a.length = n) (hl : l.length < big) (hs : n < big) : m37_vector_least l = some (leastL l) := by
  unfold m37_vector_least m50_slices_Cloneint_int_
  simp only [big] at hl hs
  rw [ck_eq (by simp; omega)]
  simp only [Option.bind_some, List.nil_append]
  have hcmp : ∀ a ∈ l, ∀ b, m34_slices_Compareint_int_ a b = some (cmpL a b) := fun a ha b => m34_eq a b (by have := hn a ha; omega)
  have hsort : sortM (fun x15 x16 => m34_slices_Compareint_int_ x15 x16) l = some (isortM (fun a b => decide (cmpL a b < 0)) l) := by
    have hlt : ∀ a ∈ l, ∀ b, ltM (fun x15 x16 => m34_slices_Compareint_int_ x15 x16) a b = decide (cmpL a b < 0) := fun a ha b => by
      show (match m34_slices_Compareint_int_ a b with | some n => decide (n < 0) | none => false) = _
      rw [hcmp a ha b]
    have hok : okSort (fun x15 x16 => m34_slices_Compareint_int_ x15 x16) l = true := by
      refine okSort_iff.2 ⟨⟨fun x hx => by rw [hlt x hx]; exact (total l).irr x hx, fun x hx y hy h1 h2 => by rw [hlt x hx] at h1; rw [hlt y hy] at h2; exact (total l).tot x hx y hy h1 h2,
        fun x hx y hy z hz h1 h2 => by rw [hlt x hx] at h1 ⊢; rw [hlt y hy] at h2; exact (total l).tr x hx y hy z hz h1 h2⟩, fun x hx y hy => ⟨_, hcmp x hx y⟩⟩
    unfold sortM
    rw [hok, cond_true]
    congr 1
    have key : ∀ (t : List (List Int)), (∀ a ∈ t, a ∈ l) → isortM (ltM fun x15 x16 => m34_slices_Compareint_int_ x15 x16) t = isortM (fun a b => decide (cmpL a b < 0)) t := by
      intro t
      induction t with
      | nil => intro _; rfl
      | cons x t ih =>
        intro ht
        show insM _ x (isortM _ t) = insM _ x (isortM _ t)
        rw [ih fun a ha => ht a (by simp [ha])]
        have : ∀ u : List (List Int), insM (ltM fun x15 x16 => m34_slices_Compareint_int_ x15 x16) x u = insM (fun a b => decide (cmpL a b < 0)) x u := by
          intro u
          induction u with
          | nil => rfl
          | cons y u ihu => unfold insM; rw [hlt x (ht x (by simp)), ihu]
        exact this _
    exact key l fun _ h => h
  rw [hsort]
  have hp := isortM_perm (fun a b => decide (cmpL a b < 0)) l
  have hsl : (isortM (fun a b => decide (cmpL a b < 0)) l).length = l.length := hp.length_eq
  simp only [Option.bind_some]
  rw [ck_eq (by omega)]
  unfold leastL
  have hmem : ∀ a ∈ isortM (fun a b => decide (cmpL a b < 0)) l, a.length = n := fun a ha => hn a (hp.mem_iff.1 ha)
  generalize isortM (fun a b => decide (cmpL a b < 0)) l = S at *
  refine up_listB (σ := List (List Int)) (fun i x => x.length ≤ i ∧ ∀ b ∈ x, b.length = n) (fun _ t x => some (t.foldl stepL x)) S (by omega) ?_ ?_ (by simp) ⟨by simp, by simp⟩
  · intro sf x _; unfold m37_vector_least_B0; simp
  · intro sf i x a t h1 h2 h3 ⟨hx, hxn⟩ ih
    obtain ⟨_, rfl⟩ := List.getElem?_eq_some_iff.1 h2
    unfold m37_vector_least_B0
    have c1 : (i : Int) < (S.length : Int) := by omega
    have g1 : S.getD (i : Int).toNat default = S[i] := by simp [h1]
    have han := hmem S[i] (List.getElem_mem _)
    simp only [c1, decide_true, cond_true, g1, h3]
    rw [ck_eq (by simp), m42_eq x _ (fun b => bel b S[i]) _ (by omega)]
    · simp only [Option.bind_some, List.foldl_cons]
      cases hany : x.any (fun b => bel b S[i])
      · simp only [Bool.not_false, cond_true]
        rw [ck_eq (by simp; omega), ih _ ⟨by simp; omega, fun b hb => by
          simp at hb; rcases hb with hb | hb
          · exact hxn b hb
          · rw [hb]; exact han⟩]
        simp [stepL, hany]
      · simp only [Bool.not_true, cond_false]
        rw [ih _ ⟨by omega, hxn⟩]
        simp [stepL, hany]
    · intro b hb
      unfold m52_vector_least_1
      rw [m32_eq b S[i] (by rw [hxn b hb, han]) (by have := hxn b hb; omega)]; rfl
theorem m21_eq (l : List (List Int)) (hl : l.length ≤ 4096) (hs : ∀ a ∈ l, a.length < big) : m21_vector_Least l = some (bif alikeB l then (leastL l, 0) else ([], 60)) := by
  unfold m21_vector_Least
  rw [m36_eq l none (fun _ => true) (by intro _ _ _ h; cases h) (by omega)]
  cases h : alikeB l
  · simp
  · obtain ⟨n, hn⟩ := alike_len h
    have h2 : ¬ (4096 : Int) < (l.length : Int) := by omega
    have hn' : ∃ n, (∀ a ∈ l, a.length = n) ∧ n < big := by
      cases l with
      | nil => exact ⟨0, by simp, by decide⟩
      | cons b t => exact ⟨n, hn, by have := hs b (by simp); rw [hn b (by simp)] at this; exact this⟩
    obtain ⟨n, hn, hb⟩ := hn'
    rw [m37_eq l n hn (by simp [big]; omega) hb]
    simp [h2]
/-! what the least ones are -/
structure IsLeast (l r : List (List Int)) : Prop where
  sub : ∀ a ∈ r, a ∈ l
  cov : ∀ a ∈ l, ∃ y ∈ r, bel y a = true
  up : r.Pairwise fun a b => cmpL a b < 0
  anti : ∀ y ∈ r, ∀ z ∈ r, bel y z = true → y = z
theorem leastL_is {l : List (List Int)} {n : Nat} (hn : ∀ a ∈ l, a.length = n) : IsLeast l (leastL l) := by
  have T := total l
  have hp := isortM_perm (fun a b => decide (cmpL a b < 0)) l
  have hs := isortM_sorted T l fun _ h => h
  unfold leastL
  have hmem : ∀ a ∈ isortM (fun a b => decide (cmpL a b < 0)) l, a.length = n := fun a ha => hn a (hp.mem_iff.1 ha)
  have key : ∀ (s p x : List (List Int)), (∀ a ∈ p, a.length = n) → (∀ a ∈ s, a.length = n) → s.Pairwise (fun a b => decide (cmpL b a < 0) = false) → (∀ a ∈ p, ∀ b ∈ s, decide (cmpL b a < 0) = false) → IsLeast p x → IsLeast (p ++ s) (s.foldl stepL x) := by
    intro s
    induction s with
    | nil => intro p x _ _ _ _ h; simpa using h
    | cons a t ih =>
      intro p x hpn hsn hso hps h
      rw [List.append_cons]
      have hso' := List.pairwise_cons.1 hso
      have han := hsn a (by simp)
      refine ih (p ++ [a]) (stepL x a) (fun b hb => ?_) (fun b hb => hsn b (by simp [hb])) hso'.2 (fun b hb c hc => ?_) ?_
      · simp at hb; rcases hb with hb | hb
        · exact hpn b hb
        · subst hb; exact han
      · simp at hb; rcases hb with hb | hb
        · exact hps b hb c (by simp [hc])
        · subst hb; exact hso'.1 c hc
      · unfold stepL
        cases hany : x.any (fun b => bel b a)
        · simp only [cond_false]
          have hno : ∀ b ∈ x, bel b a = false := fun b hb => by
            have := List.any_eq_false.1 hany b hb; simpa using this
          have hle : ∀ b ∈ x, cmpL b a < 0 := fun b hb => by
            have h1 := hps b (h.sub b hb) a (by simp)
            simp only [decide_eq_false_iff_not] at h1
            have h2 := cmpL_anti a b
            have h3 : cmpL b a ≠ 0 := fun e => by
              have := cmpL_zero.1 e; subst this
              have := hno b hb; rw [bel_refl] at this; cases this
            omega
          refine ⟨fun b hb => ?_, fun b hb => ?_, ?_, fun y hy z hz hyz => ?_⟩
          · simp at hb ⊢; rcases hb with hb | hb
            · exact .inl (h.sub b hb)
            · exact .inr hb
          · simp at hb; rcases hb with hb | hb
            · obtain ⟨y, hy, hb'⟩ := h.cov b hb; exact ⟨y, by simp [hy], hb'⟩
            · subst hb; exact ⟨b, by simp, bel_refl b⟩
          · rw [List.pairwise_append]
            exact ⟨h.up, by simp, fun b hb c hc => by simp at hc; subst hc; exact hle b hb⟩
          · simp at hy hz
            rcases hy with hy | hy <;> rcases hz with hz | hz
            · exact h.anti y hy z hz hyz
            · subst hz; rw [hno y hy] at hyz; cases hyz
            · subst hy
              have h1 := bel_cmp (by rw [han, hpn z (h.sub z hz)]) hyz
              have h2 := hle z hz
              have h3 := cmpL_anti y z
              omega
            · rw [hy, hz]
        · simp only [cond_true]
          obtain ⟨y, hy, hya⟩ := List.any_eq_true.1 hany
          refine ⟨fun b hb => by simp [h.sub b hb], fun b hb => ?_, h.up, h.anti⟩
          simp at hb; rcases hb with hb | hb
          · exact h.cov b hb
          · subst hb; exact ⟨y, hy, hya⟩
  have := key _ [] [] (by simp) hmem hs (by simp) ⟨by simp, by simp, by simp, by simp⟩
  simp only [List.nil_append] at this
  exact ⟨fun a ha => hp.mem_iff.1 (this.sub a ha), fun a ha => this.cov a (hp.mem_iff.2 ha), this.up, this.anti⟩
theorem bel_antisymm {a b : List Int} (hl : a.length = b.length) (h1 : bel a b = true) (h2 : bel b a = true) : a = b := by
  have k1 := bel_cmp hl h1
  have k2 := bel_cmp hl.symm h2
  have k3 := cmpL_anti a b
  exact cmpL_zero.1 (by omega)
theorem IsLeast.mem {l r : List (List Int)} (h : IsLeast l r) {n : Nat} (hn : ∀ a ∈ l, a.length = n) (a : List Int) : a ∈ r ↔ a ∈ l ∧ ∀ b ∈ l, bel b a = true → b = a := by
  constructor
  · intro ha
    refine ⟨h.sub a ha, fun b hb hba => ?_⟩
    obtain ⟨y, hy, hyb⟩ := h.cov b hb
    have hya := bel_trans (by rw [hn y (h.sub y hy), hn b hb]) (by rw [hn b hb, hn a (h.sub a ha)]) hyb hba
    have := h.anti y hy a ha hya
    subst this
    exact bel_antisymm (by rw [hn b hb, hn y (h.sub y hy)]) hba hyb
  · rintro ⟨ha, hm⟩
    obtain ⟨y, hy, hya⟩ := h.cov a ha
    have := hm y (h.sub y hy) hya
    subst this; exact hy
theorem up_unique {r s : List (List Int)} (h1 : r.Pairwise fun a b => cmpL a b < 0) (h2 : s.Pairwise fun a b => cmpL a b < 0) (h : ∀ a, a ∈ r ↔ a ∈ s) : r = s := by
  have nd : ∀ {t : List (List Int)}, t.Pairwise (fun a b => cmpL a b < 0) → t.Nodup := fun ht => ht.imp (fun {a b} hab e => by subst e; have : cmpL a a = 0 := cmpL_zero.2 rfl; omega)
  refine List.Perm.eq_of_pairwise (le := fun a b => cmpL a b < 0) ?_ h1 h2 ((List.perm_ext_iff_of_nodup (nd h1) (nd h2)).2 h)
  intro a b _ _ k1 k2
  have := cmpL_anti a b; omega
/-- the least ones hang on the elements alone -/
theorem leastL_eq {l m : List (List Int)} {n : Nat} (hl : ∀ a ∈ l, a.length = n) (h : ∀ a, a ∈ l ↔ a ∈ m) : leastL l = leastL m := by
  have hm : ∀ a ∈ m, a.length = n := fun a ha => hl a ((h a).2 ha)
  have il := leastL_is hl
  have im := leastL_is hm
  refine up_unique il.up im.up fun a => ?_
  rw [il.mem hl, im.mem hm]
  constructor
  · rintro ⟨h1, h2⟩; exact ⟨(h a).1 h1, fun b hb => h2 b ((h b).2 hb)⟩
  · rintro ⟨h1, h2⟩; exact ⟨(h a).2 h1, fun b hb => h2 b ((h b).1 hb)⟩
theorem leastL_again {l : List (List Int)} {n : Nat} (hl : ∀ a ∈ l, a.length = n) : leastL (leastL l) = leastL l := by
  have il := leastL_is hl
  have hl2 : ∀ a ∈ leastL l, a.length = n := fun a ha => hl a (il.sub a ha)
  have i2 := leastL_is hl2
  refine up_unique i2.up il.up fun a => ?_
  rw [i2.mem hl2]
  constructor
  · rintro ⟨h, _⟩; exact h
  · intro h; exact ⟨h, fun b hb hba => il.anti b hb a h hba⟩
theorem leastL_len (l : List (List Int)) : (leastL l).length ≤ l.length := by
  unfold leastL
  refine Nat.le_trans (foldl_len _ _) ?_
  rw [(isortM_perm _ l).length_eq]; simp
theorem m25_eq (l : List (List Int)) (c : List Int) (hl : l.length < 9223372036854775807) (hs : ∀ a ∈ l, a.length < 9223372036854775807) :
    m25_vector_Fits l c = some (bif l.all (fun a => decide (a.length = c.length)) then (l.any (fun a => bel a c), 0) else (false, 60)) := by
  unfold m25_vector_Fits
  rw [m42_eq l _ (fun a => !decide (a.length = c.length)) _ hl]
  · simp only [Option.bind_some]
    cases h : l.all (fun a => decide (a.length = c.length))
    · have : l.any (fun a => !decide (a.length = c.length)) = true := by rw [← Bool.not_eq_false', List.not_any_eq_all_not]; simpa using h
      simp [this]
    · have : l.any (fun a => !decide (a.length = c.length)) = false := by rw [← Bool.not_eq_true', List.not_any_eq_all_not]; simpa using h
      rw [this, cond_false, cond_true, m42_eq l _ (fun a => bel a c) _ hl]
      · rfl
      · intro a ha
        have := List.all_eq_true.1 h a ha
        simp only [decide_eq_true_eq] at this
        unfold m44_vector_Fits_2; rw [m32_eq a c this (hs a ha)]; rfl
  · intro a _
    unfold m43_vector_Fits_1
    have : ((a.length : Int) = (c.length : Int)) = (a.length = c.length) := by apply propext; omega
    simp [this]
end Go.Fx


/- VectorFront: the plain law. -/
set_option linter.unusedSimpArgs false
set_option linter.unusedVariables false
namespace Go.Fx
open Go Go.RowKit
theorem VectorFront_law (l : List (List Int)) (hla : SmL (SmL (InK .i64)) l) : m5_overflightlaw06_VectorFront l = some true := by
  have ha0 : l.length < 9223372036854775807 := by have := hla.1; omega
  unfold m5_overflightlaw06_VectorFront
  rw [sane_eq]
  simp only [Option.bind_some, jn_eq, Bool.not_true, cond_false]
  rw [few_eq l ha0]
  cases hf : (l.all (fun a => decide (a.length ≤ 20)) && decide (l.length ≤ 30))
  · simp
  obtain ⟨f1, f2⟩ := few_spec hf
  simp only [Option.bind_some, Bool.not_true, cond_false]
  have fb : ∀ a ∈ l, a.length < big := fun a ha => by have := f1 a ha; simp only [big]; omega
  rw [m21_eq l (by omega) fb]
  simp only [Option.bind_some]
  cases hb : alikeB l
  · simp
  obtain ⟨n, hn⟩ := alike_len hb
  have il := leastL_is hn
  have hll := leastL_len l
  simp only [cond_true, ne_eq, not_true_eq_false, decide_false, cond_false]
  obtain ⟨r, hr⟩ : ∃ r, r = leastL l := ⟨_, rfl⟩
  rw [← hr] at il hll ⊢
  have hrn : ∀ a ∈ r, a.length = n := fun a ha => hn a (il.sub a ha)
  have hr20 : ∀ a ∈ r, a.length ≤ 20 := fun a ha => f1 a (il.sub a ha)
  -- every vector of the list has one below it
  have B3 : loop1 (m5_overflightlaw06_VectorFront_B3 l (r, 0)) (((l.length : Int) - 0).toNat + 1) 0 = some true := by
    refine up_list0 (fun t => some true) l ha0 ?_ ?_ (show l.length < ((l.length : Int) - 0).toNat + 1 by omega)
    · intro sf; unfold m5_overflightlaw06_VectorFront_B3; simp
    · intro sf i x t h1 h2 h3 ih
      obtain ⟨_, rfl⟩ := List.getElem?_eq_some_iff.1 h2
      have hm : l[i] ∈ l := List.getElem_mem _
      unfold m5_overflightlaw06_VectorFront_B3
      have c1 : (i : Int) < (l.length : Int) := by omega
      simp only [c1, decide_true, cond_true]
      rw [ck_eq (by simp)]
      have g0 : l.getD (i : Int).toNat default = l[i] := by simp [h1]
      refine (up_listB (σ := Bool) (fun j y => True) (fun j t y => bif (y || t.any fun c => bel c l[i]) then some true else some false) r (by omega) ?_ ?_ (show r.length < ((r.length : Int) - 0).toNat + 1 by omega) trivial).trans ?_
      · intro sf' y _; unfold m5_overflightlaw06_VectorFront_B4
        cases y
        · simp
        · simp [h3, ih]
      · intro sf' j y w t h1' h2' h3' _ ih'
        obtain ⟨_, rfl⟩ := List.getElem?_eq_some_iff.1 h2'
        have hm' : r[j] ∈ r := List.getElem_mem _
        unfold m5_overflightlaw06_VectorFront_B4
        have c2 : (j : Int) < (r.length : Int) := by omega
        have g2 : r.getD (j : Int).toNat default = r[j] := by simp [h1']
        simp only [c2, decide_true, cond_true, g2, g0, h3']
        rw [ck_eq (by simp)]
        cases y
        · rw [m28_eq _ _ (by have := hr20 _ hm'; omega), hrn _ hm', hn _ hm]
          simp only [cond_false, Option.bind_some, decide_true, Bool.true_and, ih' _ trivial, List.any_cons, Bool.false_or]
        · simp only [cond_true, ih' _ trivial, Bool.true_or]
      · obtain ⟨y, hy, hyl⟩ := il.cov l[i] hm
        have : (r.any fun c => bel c l[i]) = true := List.any_eq_true.2 ⟨y, hy, hyl⟩
        simp [this]
  refine up_list0 (fun t => some true) r (by omega) ?_ ?_ (show r.length < ((r.length : Int) - 0).toNat + 1 by omega)
  · intro sf; unfold m5_overflightlaw06_VectorFront_B0; simp only [Int.lt_irrefl, decide_false, cond_false]; exact B3
  · intro sf i x t h1 h2 h3 ih
    obtain ⟨_, rfl⟩ := List.getElem?_eq_some_iff.1 h2
    have hm : r[i] ∈ r := List.getElem_mem _
    unfold m5_overflightlaw06_VectorFront_B0
    have c1 : (i : Int) < (r.length : Int) := by omega
    simp only [c1, decide_true, cond_true]
    rw [ck_eq (by simp)]
    have g0 : r.getD (i : Int).toNat default = r[i] := by simp [h1]
    -- it goes before no other one, nor is another one below it
    have B2 : loop1 (m5_overflightlaw06_VectorFront_B2 (r, 0) (i : Int) sf) (((r.length : Int) - 0).toNat + 1) 0 = some true := by
      refine up_list0 (fun t => some true) r (by omega) ?_ ?_ (show r.length < ((r.length : Int) - 0).toNat + 1 by omega)
      · intro sf'; unfold m5_overflightlaw06_VectorFront_B2; simp [h3, ih]
      · intro sf' j y t h1' h2' h3' ih'
        obtain ⟨_, rfl⟩ := List.getElem?_eq_some_iff.1 h2'
        have hm' : r[j] ∈ r := List.getElem_mem _
        unfold m5_overflightlaw06_VectorFront_B2
        have c2 : (j : Int) < (r.length : Int) := by omega
        have g2 : r.getD (j : Int).toNat default = r[j] := by simp [h1']
        have le : (r[j]).length = (r[i]).length := by rw [hrn _ hm, hrn _ hm']
        simp only [c2, decide_true, cond_true, g2, g0, h3', jn_eq]
        rw [ck_eq (by simp), m17_eq _ _ (by have := hr20 _ hm'; omega), m28_eq _ _ (by have := hr20 _ hm'; omega), if_pos le, le]
        simp only [Option.bind_some, ne_eq, not_true_eq_false, decide_false, cond_false, decide_true, Bool.true_and]
        have hne : j ≠ i → bel r[j] r[i] = false := fun hji => by
          cases hbb : bel r[j] r[i]
          · rfl
          · have e := il.anti _ hm' _ hm hbb
            exfalso
            rcases Nat.lt_or_gt_of_ne hji with h | h
            · have := (List.pairwise_iff_getElem.1 il.up) j i h1' h1 h
              rw [e] at this; have : cmpL r[i] r[i] = 0 := cmpL_zero.2 rfl; omega
            · have := (List.pairwise_iff_getElem.1 il.up) i j h1 h1' h
              rw [e] at this; have : cmpL r[i] r[i] = 0 := cmpL_zero.2 rfl; omega
        by_cases hlt : j < i
        · have c3 : (j : Int) < (i : Int) := by omega
          have c4 : ¬ (j : Int) = (i : Int) := by omega
          have h5 := (List.pairwise_iff_getElem.1 il.up) j i h1' h1 hlt
          have h6 : cmpL r[j] r[i] = -1 := by rcases cmpL_vals r[j] r[i] with h | h | h <;> omega
          simp only [c3, c4, h6, decide_true, cond_true, not_true_eq_false, not_false_eq_true, decide_false, cond_false, hne (by omega), ih']
        · have c3 : ¬ (j : Int) < (i : Int) := by omega
          simp only [c3, decide_false, cond_false]
          by_cases hji : j = i
          · subst hji; simp [ih']
          · have c4 : ¬ (j : Int) = (i : Int) := by omega
            simp only [c4, not_false_eq_true, decide_true, cond_true, hne hji, cond_false, ih']
    refine (up_listB (σ := Bool) (fun j y => True) (fun j t y => bif (y || t.any fun c => decide (r[i] = c)) then some true else some false) l ha0 ?_ ?_ (show l.length < ((l.length : Int) - 0).toNat + 1 by omega) trivial).trans ?_
    · intro sf' y _; unfold m5_overflightlaw06_VectorFront_B1
      cases y
      · simp
      · simp only [Int.lt_irrefl, decide_false, cond_false, Bool.not_true, Bool.true_or, cond_true]; exact B2
    · intro sf' j y w t h1' h2' h3' _ ih'
      obtain ⟨_, rfl⟩ := List.getElem?_eq_some_iff.1 h2'
      unfold m5_overflightlaw06_VectorFront_B1
      have c2 : (j : Int) < (l.length : Int) := by omega
      have g2 : l.getD (j : Int).toNat default = l[j] := by simp [h1']
      simp only [c2, decide_true, cond_true, g2, g0, h3']
      rw [ck_eq (by simp)]
      cases y
      · rw [m19_eq _ _ (by have := hr20 _ hm; omega)]
        simp only [cond_false, Option.bind_some, ih' _ trivial, List.any_cons, Bool.false_or]
      · simp only [cond_true, ih' _ trivial, Bool.true_or]
    · have : (l.any fun c => decide (r[i] = c)) = true := List.any_eq_true.2 ⟨r[i], il.sub _ hm, by simp⟩
      simp [this]
end Go.Fx


namespace Go.Proofs.Yteohplgecfdafaa.lawVectorFront
open Go Go.Proofs Go.ChangeShapes Go.WideShapes Go.ChangeAt Go.RowKit Go.Fx
open Go.ChangeMaps (open_string shut_string)
set_option linter.unusedVariables false
set_option maxRecDepth 100000
theorem own : ownKnob Try.prog.godebug = none := by kernel_rfl
theorem laidOut : laidOutB Try.prog = true := by kernel_rfl
set_option maxRecDepth 100000 in
set_option maxHeartbeats 1000000 in
theorem lifted (os : Os) (started : os.Started) (H : Type) (enc : TypeId × Value → H) :
    ReturnsInHanded {} Try.checked os 5 .any (Rows.vectorFrontSpec.pre6 enc Try.prog Try.f5 Rows.vectorFrontRow.domain false) (Rows.vectorFrontSpec.post enc Try.prog Try.f5 false true false false) := by
  refine returnsInHanded_of_change_sized (C := Try.checked) own started (by kernel_rfl) Try.func5
    (ChangeSpec.witness6 (enc := enc) (C := Try.checked) false ⟨#[], #[(.slice none 0 0)], []⟩ 8 (by kernel_rfl) (by kernel_rfl) (by kernel_rfl) (by kernel_rfl)) ?_
  intro W base args ds gs before hval0 hW hcnd hsz _
  have hval : ∀ (j : Nat) t v, Try.f5.params[j]? = some t → args[j]? = some v → Value.okWide Try.prog W .any base t v := hval0
  have hW' := hW
  obtain ⟨p, q, hA0, hV, rfl, hfz, hnd⟩ := hW
  have hA : DataW.TrodAll enc Try.prog W 0 (fun _ => true) true Try.f5.params.toList args.toList ds p := hA0
  rw [Try.params5] at hA hval
  obtain ⟨v0, vs0, d0, ds0, p0, q0, hargs, rfl, rfl, h0, r0⟩ := trodAll_cons hA
  obtain ⟨rfl, rfl, rfl⟩ := trodAll_nil r0
  obtain rfl : args = #[v0] := by cases args; simp_all
  obtain ⟨rfl, rfl⟩ := trodVars_none hV
  have k0 := h0
  have lt0 : ∀ x ∈ p0, x.block < W.heap.size := by obtain ⟨m, hm⟩ := k0; exact DataW.trod_lt m _ _ _ hm
  obtain ⟨fu0, hf0⟩ := h0
  obtain ⟨l, rr0, sm0⟩ := rd33.2 _ _ _ hf0
  replace sm0 := sm0 (fun n hn => by have := List.all_eq_true.1 hsz n (DataW.weights_mem_each (j := 0) (t := 33) rfl rfl n hn); simpa using this)
  obtain ⟨b0, l0, c0, rfl⟩ := okWide_slice Try.underlying33 (hval 0 33 v0 rfl rfl)
  replace rr0 : (rSl (rSl (rInt .i64))).rd W [] [.slice b0 l0 c0] l := rr0
  obtain ⟨a_l, c_l, e0, f_l⟩ := un_sl rr0
  simp only [Value.slice.injEq] at e0
  obtain ⟨rfl, rfl, rfl⟩ := e0
  have hm : m5_overflightlaw06_VectorFront l = some true := VectorFront_law _ sm0
  have hc := Fn.calls (c5_overflightlaw06_VectorFront (l := l) (w := W) (O := []) (by simp) f_l hm)
  clear hA0 hval0
  refine Calls.mono hc ?_
  rintro e W' ⟨v, rfl, bel, hv⟩
  replace bel := bel.below; obtain rfl : v = .bool true := hv
  exact ⟨_, rfl, _, _, _, [], _, [], hW', trodAll_mk1 (shut_bool Try.underlying4 _), (trodAll_cons_mk (Below.trod laidOut (by kernel_rfl) (of_decide_eq_true (by kernel_rfl)) k0 bel lt0) trodAll_mk0), rfl, bel.frame _, fun h => by cases h⟩
theorem over : Rows.vectorFrontRow.holds Try.pinned (OpenSpec.ofChange Rows.vectorFrontSpec) :=
  OpenClaim.holds_of_wide 5 Try.f5 rfl rfl rfl rfl rfl rfl rfl ⟨rfl, rfl, rfl, rfl, rfl⟩ rfl rfl rfl rfl rfl (by kernel_rfl) Try.func5 (by kernel_rfl)
    (of_decide_eq_true (by kernel_rfl)) (by unfold Func.isWrapper; first | (rw [if_pos (by decide +kernel)]; kernel_rfl) | (rw [if_neg (by decide +kernel)]; exact ⟨rfl, rfl⟩))
    (fun os started H enc _ => lifted os started H enc)
theorem proved : Rows.VectorFrontSaid := over
end Go.Proofs.Yteohplgecfdafaa.lawVectorFront

