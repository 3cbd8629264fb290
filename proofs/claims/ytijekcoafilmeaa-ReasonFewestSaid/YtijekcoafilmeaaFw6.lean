/- No reason that proves has fewer variables than the smallest one, or as many and fewer places. -/
import Derived.Test.YtijekcoafilmeaaFw5
import Derived.Test.YtijekcoafilmeaaRows
import Derived.WalkKit
import Derived.ShutString
/- Chapter 32: lists hands out all rising lists of k numbers. -/
set_option linter.unusedSimpArgs false
set_option linter.unusedVariables false
set_option maxRecDepth 100000
namespace Go.Fx
open Go Go.RowKit
abbrev PhiL (n k : Nat) (ln : Nat) : ((Int × Int) × List Int → Option (List (List Int) × List Int)) → (Int × Int) × List Int → Option (List (List Int) × List Int) :=
  fun fx x => m70_reason_lists_1_1 x.1.1 x.1.2 (k : Int) ln x.2 (n : Int) fx
theorem take_snoc {l : List Int} {i : Nat} {c : Int} (h : l[i]? = some c) : l.take (i + 1) = l.take i ++ [c] := by
  rw [List.take_add_one, h]; rfl
theorem lists_fix (n k ln : Nat) (hn : n ≤ 1000) (hk : k ≤ 1000) : ∀ (j fuel at_ c : Nat) (arr : List Int), j < fuel → at_ + j = k → arr.length = k → c ≤ n →
    ∃ arr', fixO (PhiL n k ln) fuel (((at_ : Int), (c : Int)), arr) = some ((combs j (rng (c : Int) (n - c))).map (arr.take at_ ++ ·), arr') ∧ arr'.length = k ∧ arr'.take at_ = arr.take at_ := by
  intro j
  induction j with
  | zero =>
    intro fuel at_ c arr hf ha hl hc
    obtain ⟨f, rfl⟩ : ∃ f, fuel = f + 1 := ⟨fuel - 1, by omega⟩
    refine ⟨arr, ?_, hl, rfl⟩
    show m70_reason_lists_1_1 (at_ : Int) (c : Int) (k : Int) ln arr (n : Int) _ = _
    unfold m70_reason_lists_1_1 m71_slices_Cloneint_int_
    rw [decide_eq_true (by omega), cond_true, ck_eq (by simp; omega), combs_zero]
    simp only [Option.bind_some, List.nil_append, ylM, Option.map_some, List.map_cons, List.map_nil, List.append_nil]
    rw [List.take_of_length_le (by omega)]
  | succ j ih =>
    intro fuel at_ c arr hf ha hl hc
    obtain ⟨f, rfl⟩ : ∃ f, fuel = f + 1 := ⟨fuel - 1, by omega⟩
    show ∃ arr', m70_reason_lists_1_1 (at_ : Int) (c : Int) (k : Int) ln arr (n : Int) (fixO (PhiL n k ln) f) = _ ∧ _
    unfold m70_reason_lists_1_1
    rw [decide_eq_false (by omega), cond_false, ck_eq (by omega), Int.toNat_natCast]
    obtain ⟨fu, hfu⟩ : ∃ fu : Nat, fu = 1000000 := ⟨_, rfl⟩
    rw [← hfu]
    have inner : ∀ (d c fl : Nat) (a : List Int), n - c = d → c ≤ n → a.length = k → a[at_]? = some (c : Int) → d < fl →
        ∃ a', loop1 (m70_reason_lists_1_1_B0 (at_ : Int) (k : Int) (n : Int) (fixO (PhiL n k ln) f)) fl a = some ((combs (j + 1) (rng (c : Int) d)).map (a.take at_ ++ ·), a') ∧ a'.length = k ∧ a'.take at_ = a.take at_ := by
      intro d
      induction d with
      | zero =>
        intro c fl a h1 h2 h3 h4 h5
        obtain ⟨m, rfl⟩ : ∃ m, fl = m + 1 := ⟨fl - 1, by omega⟩
        refine ⟨a, ?_, h3, rfl⟩
        rw [loop1_succ, m70_reason_lists_1_1_B0, ck_eq (by omega), Int.toNat_natCast, getD_of h4]
        rw [show IntKind.wrap .i64 ((k : Int) - (at_ : Int)) = (k : Int) - (at_ : Int) from wrap_i64 (by omega) (by omega), show IntKind.wrap .i64 ((n : Int) - ((k : Int) - (at_ : Int))) = (n : Int) - ((k : Int) - (at_ : Int)) from wrap_i64 (by omega) (by omega), decide_eq_false (by omega), cond_false]
        rfl
      | succ d ihd =>
        intro c fl a h1 h2 h3 h4 h5
        obtain ⟨m, rfl⟩ : ∃ m, fl = m + 1 := ⟨fl - 1, by omega⟩
        rw [loop1_succ, m70_reason_lists_1_1_B0, ck_eq (by omega), Int.toNat_natCast, getD_of h4]
        rw [show IntKind.wrap .i64 ((k : Int) - (at_ : Int)) = (k : Int) - (at_ : Int) from wrap_i64 (by omega) (by omega), show IntKind.wrap .i64 ((n : Int) - ((k : Int) - (at_ : Int))) = (n : Int) - ((k : Int) - (at_ : Int)) from wrap_i64 (by omega) (by omega)]
        by_cases hcn : (c : Int) ≤ (n : Int) - ((k : Int) - (at_ : Int))
        · rw [decide_eq_true hcn, cond_true, ck_eq (by omega), wrapS (by omega), wrapS (by omega)]
          obtain ⟨a2, e1, e2, e3⟩ := ih f (at_ + 1) (c + 1) a (by omega) (by omega) h3 (by omega)
          rw [show ((at_ + 1 : Nat) : Int) = (at_ : Int) + 1 by omega, show ((c + 1 : Nat) : Int) = (c : Int) + 1 by omega] at e1
          rw [e1, aplM, Option.bind_some]
          have ht := take_snoc h4
          have ha2 : a2[at_]? = some (c : Int) := by
            have : (a2.take (at_ + 1))[at_]? = some (c : Int) := by
              have hm : (a.take at_).length = at_ := by rw [List.length_take]; omega
              rw [e3, ht, List.getElem?_append_right (by omega), hm]; simp
            rwa [List.getElem?_take, if_pos (by omega)] at this
          have ht2 : a2.take at_ = a.take at_ := by
            have := congrArg (List.take at_) e3
            rwa [List.take_take, List.take_take, Nat.min_eq_left (by omega)] at this
          simp only
          rw [ck_eq (by omega), ck_eq (by omega), getD_of ha2, wrapS (by omega)]
          obtain ⟨a3, g1, g2, g3⟩ := ihd (c + 1) m (a2.set at_ ((c : Int) + 1)) (by omega) (by omega) (by rw [List.length_set]; exact e2) (by rw [List.getElem?_set_self (by omega)]; rfl) (by omega)
          have hts : (a2.set at_ ((c : Int) + 1)).take at_ = a.take at_ := by rw [List.take_set_of_le (by omega), ht2]
          rw [g1, Option.map_some]
          refine ⟨a3, ?_, g2, by rw [g3, hts]⟩
          rw [hts, rng, combs, List.map_append, List.map_map, show n - (c + 1) = d by omega, show ((c + 1 : Nat) : Int) = (c : Int) + 1 by omega, ht]
          simp [Function.comp_def]
        · rw [decide_eq_false hcn, cond_false, combs_short (by rw [rng_len]; omega)]
          exact ⟨a, rfl, h3, rfl⟩
    obtain ⟨a', g1, g2, g3⟩ := inner (n - c) c fu (arr.set at_ (c : Int)) rfl hc (by rw [List.length_set]; exact hl) (by rw [List.getElem?_set_self (by omega)]) (by omega)
    have hts : (arr.set at_ (c : Int)).take at_ = arr.take at_ := by rw [List.take_set_of_le (by omega)]
    exact ⟨a', by rw [g1, hts], g2, by rw [g3, hts]⟩
theorem m45_eq (n k : Nat) (hn : n ≤ 1000) (hk : k ≤ 1000) : m45_reason_lists (n : Int) (k : Int) = some (combs k (rng 0 n)) := by
  unfold m45_reason_lists m69_reason_lists_1
  rw [ck_eq (by omega), Int.toNat_natCast]
  obtain ⟨fu, hfu⟩ : ∃ fu : Nat, fu = 1000000 := ⟨_, rfl⟩
  rw [← hfu]
  obtain ⟨a, e, _, _⟩ := lists_fix n k ((List.replicate k (0 : Int)).length) hn hk k fu 0 0 (List.replicate k 0) (by omega) (by omega) (by simp) (by omega)
  have e' : fixO (fun fx43 x44 => m70_reason_lists_1_1 x44.1.1 x44.1.2 (k : Int) ((List.replicate k (0 : Int)).length) x44.2 (n : Int) fx43) fu ((0, 0), List.replicate k (0 : Int)) = _ := e
  rw [e']
  simp [aplI]
end Go.Fx
set_option linter.unusedVariables false
set_option linter.unusedSimpArgs false
set_option maxRecDepth 100000
set_option maxHeartbeats 0
namespace Go.Fx
open Go Go.RowKit Go.Proofs
end Go.Fx
/- Chapter 32: the next choices. -/
set_option linter.unusedSimpArgs false
set_option linter.unusedVariables false
set_option maxRecDepth 100000
namespace Go.Fx
open Go Go.RowKit
/-- how many choices each variable has -/
def cnV (vs : List XVariable) : List Int := vs.map fun v => (v.choices.length : Int)
def zs (k : Nat) : List Int := List.replicate k 0
theorem cnV_take {vs : List XVariable} {i : Nat} {v : XVariable} (h : vs[i]? = some v) : (cnV (vs.take (i + 1))).reverse = (v.choices.length : Int) :: (cnV (vs.take i)).reverse := by
  unfold cnV
  rw [List.take_add_one, h]; simp
theorem at_mid {u z : List Int} {a : Int} : (u ++ a :: z)[u.length]? = some a := by simp
theorem set_mid' {u z : List Int} {a b : Int} {n : Nat} (h : n = u.length) : (u ++ a :: z).set n b = u ++ b :: z := by subst h; simp
/-- what the next choices are -/
def nextOf (p : XProblem) (c : List Int) : Option (List Int) := (nr (cnV p.variables).reverse c.reverse).map List.reverse
theorem m58_loop {p : XProblem} (ch : List Int) : ∀ (t : List Int) (k fuel : Nat), t.length ≤ p.variables.length → t.length ≤ 1000 → (∀ a ∈ t, -1 ≤ a ∧ a < 1000000) → t.length < fuel →
    loop2 (m58_overflightref32_Next_B0 p ch) fuel (t.reverse ++ zs k) ((t.length : Int) - 1) = some (match nr (cnV (p.variables.take t.length)).reverse t with | some c => (c.reverse ++ zs k, true) | none => (zs (t.length + k), false)) := by
  intro t
  induction t with
  | nil =>
    intro k fuel _ _ _ hf
    obtain ⟨n, rfl⟩ : ∃ n, fuel = n + 1 := ⟨fuel - 1, by simp at hf; omega⟩
    rw [loop2_succ]; unfold m58_overflightref32_Next_B0
    simp [cnV, nr]
  | cons a t ih =>
    intro k fuel h1 h2 h3 hf
    obtain ⟨n, rfl⟩ : ∃ n, fuel = n + 1 := ⟨fuel - 1, by simp at hf; omega⟩
    simp only [List.length_cons] at h1 h2 hf
    have hlt : t.length < p.variables.length := by omega
    have hv : p.variables[t.length]? = some p.variables[t.length] := List.getElem?_eq_getElem hlt
    have ha := h3 a (List.mem_cons_self ..)
    have e0 : (((a :: t).length : Nat) : Int) - 1 = (t.length : Int) := by simp
    have er : (a :: t).reverse ++ zs k = t.reverse ++ a :: zs k := by simp
    have el : t.length = t.reverse.length := by simp
    rw [e0, er, loop2_succ, m58_overflightref32_Next_B0]
    have g1 : (t.reverse ++ a :: zs k).getD t.length default = a := by exact getD_of (by rw [el]; exact at_mid)
    have hw : IntKind.wrap .i64 (a + 1) = a + 1 := wrap_i64 (by omega) (by omega)
    have g2 : (t.reverse ++ a :: zs k).set t.length (a + 1) = t.reverse ++ (a + 1) :: zs k := set_mid' el
    have g3 : (t.reverse ++ (a + 1) :: zs k).getD t.length default = a + 1 := by exact getD_of (by rw [el]; exact at_mid)
    have g4 : (t.reverse ++ (a + 1) :: zs k).set t.length 0 = t.reverse ++ 0 :: zs k := set_mid' el
    have b1 : ((0 : Int) ≤ (t.length : Int) ∧ (t.length : Int) < ((t.reverse ++ a :: zs k).length : Int)) = True := by simp <;> omega
    have b2 : ((0 : Int) ≤ (t.length : Int) ∧ (t.length : Int) < ((t.reverse ++ (a + 1) :: zs k).length : Int)) = True := by simp <;> omega
    have c0 : decide ((0 : Int) ≤ (t.length : Int)) = true := by simp
    simp only [Int.toNat_natCast]
    simp only [g1, hw, g2, g3, g4, b1, b2, c0, ck_True, cond_true, inBd hlt, Int.toNat_natCast, getD_of hv]
    rw [show (a :: t).length = t.length + 1 from rfl, cnV_take hv]
    simp only [nr]
    by_cases hn : a + 1 < (p.variables[t.length].choices.length : Int)
    · simp only [hn, decide_true, cond_true, if_true]; simp
    · simp only [hn, decide_false, cond_false, if_false]
      rw [show IntKind.wrap .i64 ((t.length : Int) - 1) = (t.length : Int) - 1 from wrap_i64 (by omega) (by omega)]
      rw [show t.reverse ++ 0 :: zs k = t.reverse ++ zs (k + 1) by rw [zs, zs, List.replicate_succ]]
      rw [ih (k + 1) n (by omega) (by omega) (fun b hb => h3 b (List.mem_cons_of_mem _ hb)) (by omega)]
      cases nr (cnV (p.variables.take t.length)).reverse t with
      | none => simp only [Option.map_none]; rw [show t.length + (k + 1) = t.length + 1 + k by omega]
      | some c => simp [zs, List.replicate_succ]
theorem m58_eq {p : XProblem} (ch : List Int) (hl : ch.length = p.variables.length) (hs : p.variables.length ≤ 1000) (hb : ∀ a ∈ ch, -1 ≤ a ∧ a < 1000000) :
    m58_overflightref32_Next p ch = some (match nextOf p ch with | some c => (c, true) | none => (zs ch.length, false)) := by
  obtain ⟨fu, hfu⟩ : ∃ n : Nat, n = 1000000 := ⟨_, rfl⟩
  unfold m58_overflightref32_Next
  rw [← hfu, ck_eq (by simp; omega)]
  have := m58_loop (p := p) ch ch.reverse 0 fu (by simp; omega) (by simp; omega) (fun a ha => hb a (by simpa using ha)) (by simp; omega)
  simp only [List.length_reverse, List.reverse_reverse, zs, List.replicate_zero, List.append_nil, Nat.add_zero] at this
  rw [List.nil_append, show IntKind.wrap .i64 ((ch.length : Int) - 1) = (ch.length : Int) - 1 from wrap_i64 (by omega) (by omega), this]
  unfold nextOf
  rw [hl, List.take_length]
  cases nr (cnV p.variables).reverse ch.reverse with
  | none => simp [zs]
  | some c => rfl
end Go.Fx
/- Chapter 32: the reference's demand. -/
set_option linter.unusedSimpArgs false
set_option linter.unusedVariables false
set_option maxRecDepth 100000
namespace Go.Fx
open Go Go.RowKit
/-- the variables with what is chosen -/
def wayOf (p : XProblem) (ch : List Int) : List (XVariable × XChoice) := List.zipWith (fun v a => (v, v.choices.getD a.toNat default)) p.variables ch
theorem fit_get : ∀ {vs : List XVariable} {ch : List Int}, Fit ch (cnV vs) → ∀ {i : Nat} {v : XVariable}, vs[i]? = some v → ∃ a, ch[i]? = some a ∧ 0 ≤ a ∧ a < (v.choices.length : Int)
  | [], _, _, i, v, h => by simp at h
  | w :: vs, [], hf, _, _, _ => by simp [cnV, Fit] at hf
  | w :: vs, a :: ch, hf, 0, v, h => by
    simp only [cnV, List.map_cons, Fit] at hf
    simp at h; subst h
    exact ⟨a, rfl, hf.1.1, hf.1.2⟩
  | w :: vs, a :: ch, hf, i + 1, v, h => by
    simp only [cnV, List.map_cons, Fit] at hf
    obtain ⟨b, h1, h2⟩ := fit_get (vs := vs) hf.2 (i := i) (v := v) (by simpa using h)
    exact ⟨b, by simpa using h1, h2⟩
theorem way_get {p : XProblem} {ch : List Int} (hf : Fit ch (cnV p.variables)) {i : Nat} {vc : XVariable × XChoice} (h : (wayOf p ch)[i]? = some vc) :
    p.variables[i]? = some vc.1 ∧ ∃ a, ch[i]? = some a ∧ 0 ≤ a ∧ a < (vc.1.choices.length : Int) ∧ vc.1.choices.getD a.toNat default = vc.2 ∧ vc.2 ∈ vc.1.choices := by
  unfold wayOf at h
  rw [List.getElem?_zipWith] at h
  cases hv : p.variables[i]? with
  | none => rw [hv] at h; simp at h
  | some v =>
    obtain ⟨a, h1, h2, h3⟩ := fit_get hf hv
    rw [hv, h1] at h
    simp at h
    subst h
    refine ⟨rfl, a, h1, h2, h3, by simp [List.getD], ?_⟩
    rw [← List.getD_eq_getElem?_getD, getD_of (List.getElem?_eq_getElem (show a.toNat < v.choices.length by omega))]
    exact List.getElem_mem _
theorem way_len {p : XProblem} {ch : List Int} (hf : Fit ch (cnV p.variables)) : (wayOf p ch).length = ch.length ∧ ch.length = p.variables.length := by
  have := hf.length
  simp [cnV] at this
  refine ⟨?_, this⟩
  unfold wayOf; simp; omega
theorem way_mem {p : XProblem} {ch : List Int} (hf : Fit ch (cnV p.variables)) {vc : XVariable × XChoice} (h : vc ∈ wayOf p ch) : vc.1 ∈ p.variables ∧ vc.2 ∈ vc.1.choices := by
  obtain ⟨i, hi, e⟩ := List.getElem_of_mem h
  have := way_get hf (i := i) (vc := vc) (by rw [List.getElem?_eq_getElem hi, e])
  exact ⟨ge0 this.1, by obtain ⟨a, _, _, _, _, h⟩ := this.2; exact h⟩
theorem m89_eq (v : XVariable) (leaf : Int) (hl : v.leaves.length < 9223372036854775807) : m89_overflightref27_Counts v leaf = some (decide (leaf ∈ v.leaves)) := by
  unfold m89_overflightref27_Counts
  rw [up_list0 (B := m89_overflightref27_Counts_B0 v leaf) (fun t => some (decide (leaf ∈ t))) v.leaves hl ?_ ?_ (by omega)]
  · intro sf; unfold m89_overflightref27_Counts_B0; simp
  · intro sf i x t h1 h2 h3 ih
    unfold m89_overflightref27_Counts_B0
    simp only [ltBd h1, inBd h1, ck_True, Int.toNat_natCast, getD_of h2, h3, cond_true, ih]
    by_cases h : x = leaf
    · simp [h]
    · have : leaf ≠ x := fun e => h e.symm
      simp [h, this]
/-- part of what a choice takes -/
theorem use_bound {p : XProblem} (us : List XUse) (k : Int) (hu : ∀ u ∈ us, 1 ≤ u.places ∧ u.places ≤ 8) : 0 ≤ (us.map fun u => if ix p.cells u.cell = k then u.places else 0).sum ∧ (us.map fun u => if ix p.cells u.cell = k then u.places else 0).sum ≤ 8 * (us.length : Int) := by
  induction us with
  | nil => simp
  | cons u us ih =>
    have h1 := ih fun u h => hu u (List.mem_cons_of_mem _ h)
    have h2 := hu u (List.mem_cons_self ..)
    simp only [List.map_cons, List.sum_cons, List.length_cons]
    split <;> omega
theorem takes_bound {p : XProblem} (hk : Prob p) (hs : Small p) {vc : XVariable × XChoice} (h1 : vc.1 ∈ p.variables) (h2 : vc.2 ∈ vc.1.choices) (x : XPlace) : 0 ≤ takes p x vc ∧ takes p x vc ≤ 96 := by
  unfold takes useS
  have h3 := use_bound (p := p) vc.2.uses x.cell fun u hu => (hk.use _ h1 _ h2 u hu).2
  have h4 := (hs.var _ h1).2.2 _ h2
  split <;> omega
theorem dem_bound {p : XProblem} (hk : Prob p) (hs : Small p) (x : XPlace) : ∀ {w : List (XVariable × XChoice)}, (∀ vc ∈ w, vc.1 ∈ p.variables ∧ vc.2 ∈ vc.1.choices) → 0 ≤ dem p w x ∧ dem p w x ≤ 96 * (w.length : Int)
  | [], _ => by simp [dem]
  | vc :: w, h => by
    have h1 := dem_bound hk hs x (w := w) fun vc hvc => h vc (List.mem_cons_of_mem _ hvc)
    obtain ⟨a, b⟩ := h vc (List.mem_cons_self ..)
    have h2 := takes_bound hk hs a b x
    simp only [dem, List.map_cons, List.sum_cons, List.length_cons] at *
    omega
theorem dem_append (p : XProblem) (w w' : List (XVariable × XChoice)) (x : XPlace) : dem p (w ++ w') x = dem p w x + dem p w' x := by simp [dem, List.sum_append]
/-- what is taken of the cells of a leaf -/
def demL (p : XProblem) (w : List (XVariable × XChoice)) (leaf : Int) : List Int := (List.range p.cells.length).map fun k : Nat => dem p w ⟨leaf, (k : Int)⟩
theorem list_ext_getD {l m : List Int} (h1 : l.length = m.length) (h : ∀ k, k < l.length → l.getD k default = m.getD k default) : l = m := by
  refine List.ext_getElem h1 fun k a b => ?_
  have := h k a
  rw [getD_of (List.getElem?_eq_getElem a), getD_of (List.getElem?_eq_getElem b)] at this
  exact this
theorem demL_get {p : XProblem} {w : List (XVariable × XChoice)} {leaf : Int} {k : Nat} (h : k < p.cells.length) : (demL p w leaf).getD k default = dem p w ⟨leaf, (k : Int)⟩ := by
  refine getD_of ?_
  unfold demL
  rw [List.getElem?_map, List.getElem?_range h]; rfl
theorem set_getD {l : List Int} {i j : Nat} {a : Int} (hi : i < l.length) : (l.set i a).getD j default = if i = j then a else l.getD j default := by
  by_cases h : i = j
  · subst h
    rw [if_pos rfl]; exact getD_of (by rw [List.getElem?_set_self hi])
  · rw [if_neg h, List.getD, List.getElem?_set_ne h]; rfl
theorem m81_ix (l : List XCell) (c : XCell) (hl : l.length < 9223372036854775807) : m81_overflightref27_at l c = some (ix l c) := by
  rw [m81_eq l c hl]; unfold ix; cases l.findIdx? (fun x => decide (x = c)) <;> rfl
theorem m80_eq {p : XProblem} (hp : smXProblem p) (hk : Prob p) (hs : Small p) {ch : List Int} (hf : Fit ch (cnV p.variables)) (leaf : Int) : m80_overflightref27_demand p ch leaf = some (demL p (wayOf p ch) leaf) := by
  obtain ⟨l1, l2⟩ := way_len hf
  have hc := hs.cells
  have hvs := hs.vars
  unfold m80_overflightref27_demand
  rw [ck_eq (by omega)]
  have hlen : ((ch.length : Int) - 0).toNat + 1 = (((wayOf p ch).length : Int) - 0).toNat + 1 := by rw [l1]
  rw [hlen]
  refine up_listB (B := m80_overflightref27_demand_B0 p ch leaf) (fun i (s : List Int) => s.length = p.cells.length ∧ ∀ k, k < p.cells.length → s.getD k default = dem p ((wayOf p ch).take i) ⟨leaf, (k : Int)⟩) (fun _ _ _ => some (demL p (wayOf p ch) leaf)) (wayOf p ch) (by omega) ?_ ?_ (by omega) ?_
  · intro sf s ⟨h1, h2⟩
    unfold m80_overflightref27_demand_B0
    rw [l1]; simp only [ltE, cond_false]
    rw [List.take_length] at h2
    congr 1
    exact list_ext_getD (by simp [demL, h1]) fun k hk => by rw [h2 k (by omega), demL_get (by omega)]
  · intro sf i s vc t a1 a2 a3 ⟨h1, h2⟩ ih
    obtain ⟨v1, a, v2, v3, v4, v5, v6⟩ := way_get hf a2
    have hvm := ge0 v1
    have hvl : i < p.variables.length := (List.getElem?_eq_some_iff.1 v1).1
    have hchl : i < ch.length := by omega
    have hsv := hs.var _ hvm
    rw [m80_overflightref27_demand_B0]
    simp only [ltBd hchl, inBd hchl, inBd hvl, ck_True, cond_true, jn_eq, Int.toNat_natCast, getD_of v1, getD_of v2, v5, m89_eq _ _ (sm_len (hp.2.2.2 _ hvm).2.2.1), Option.bind_some, a3]
    have htake : ∀ x, dem p ((wayOf p ch).take (i + 1)) x = dem p ((wayOf p ch).take i) x + takes p x vc := by
      intro x; rw [List.take_add_one, a2, dem_append]; simp [dem]
    have hbd : ∀ x, 0 ≤ dem p ((wayOf p ch).take i) x ∧ dem p ((wayOf p ch).take i) x ≤ 600 := by
      intro x
      have := dem_bound hk hs x (w := (wayOf p ch).take i) fun vc h => way_mem hf (List.mem_of_mem_take h)
      have hl : ((wayOf p ch).take i).length ≤ 6 := by rw [List.length_take]; omega
      omega
    cases hcn : decide (leaf ∈ vc.1.leaves)
    · simp only [Bool.not_false, cond_true]
      refine ih s ⟨h1, fun k hkk => ?_⟩
      rw [h2 k hkk, htake]
      have : leaf ∉ vc.1.leaves := of_decide_eq_false hcn
      simp [takes, this]
    · simp only [Bool.not_true, cond_false]
      have hlf : leaf ∈ vc.1.leaves := of_decide_eq_true hcn
      rw [ck_eq (by omega)]
      refine up_listB (B := m80_overflightref27_demand_B1 p ch (i : Int) fun n_2 => sf n_2 ((i : Int) + 1)) (fun j (s' : List Int) => s'.length = p.cells.length ∧ ∀ k, k < p.cells.length → s'.getD k default = dem p ((wayOf p ch).take i) ⟨leaf, (k : Int)⟩ + ((vc.2.uses.take j).map fun u => if ix p.cells u.cell = (k : Int) then u.places else 0).sum) (fun _ _ _ => some (demL p (wayOf p ch) leaf)) vc.2.uses (by have := hsv.2.2 _ v6; omega) ?_ ?_ (by omega) ⟨h1, fun k hkk => by rw [h2 k hkk]; simp⟩
      · intro sf' s' ⟨g1, g2⟩
        unfold m80_overflightref27_demand_B1
        simp only [Int.toNat_natCast, getD_of v1, getD_of v2, v5, ltE, cond_false]
        rw [List.take_length] at g2
        refine ih s' ⟨g1, fun k hkk => ?_⟩
        rw [g2 k hkk, htake]
        simp [takes, hlf, useS]
      · intro sf' j s' u tu d1 d2 d3 ⟨g1, g2⟩ ih'
        have hu := hk.use _ hvm _ v6 u (ge0 d2)
        obtain ⟨q, q1, q2⟩ := ix_mem hu.1
        have hq : q < p.cells.length := (List.getElem?_eq_some_iff.1 q2).1
        unfold m80_overflightref27_demand_B1
        simp only [Int.toNat_natCast, getD_of v1, getD_of v2, v5, getD_of d2, ltBd d1, inBd d1, ck_True, cond_true, m81_ix _ _ (sm_len hp.1), Option.bind_some, d3, q1]
        rw [ck_eq (by omega), ck_eq (by omega)]
        have hub := use_bound (p := p) (vc.2.uses.take j) (q : Int) fun u hu => (hk.use _ hvm _ v6 u (List.mem_of_mem_take hu)).2
        have hjl : (vc.2.uses.take j).length ≤ 12 := by rw [List.length_take]; have := hsv.2.2 _ v6; omega
        have hb := hbd ⟨leaf, (q : Int)⟩
        have hw : IntKind.wrap .i64 (s'.getD q default + u.places) = s'.getD q default + u.places := by
          rw [g2 q hq]; exact wrap_i64 (by omega) (by omega)
        rw [hw]
        refine ih' _ ⟨by rw [List.length_set]; exact g1, fun k hkk => ?_⟩
        rw [set_getD (by omega), List.take_add_one, d2]
        simp only [Option.toList_some, List.map_append, List.map_cons, List.map_nil, List.sum_append, List.sum_cons, List.sum_nil, q1]
        by_cases hqk : q = k
        · subst hqk
          rw [if_pos rfl, g2 q hq]; simp; omega
        · have : ¬ ((q : Int) = (k : Int)) := by omega
          rw [if_neg hqk, g2 k hkk]; simp [this]
  · exact ⟨by simp, fun k hkk => by
      rw [getD_of (by rw [List.getElem?_replicate, if_pos hkk])]; simp [dem]⟩
end Go.Fx
/- Chapter 32: the reference's Overloads. -/
set_option linter.unusedSimpArgs false
set_option linter.unusedVariables false
set_option maxRecDepth 100000
namespace Go.Fx
open Go Go.RowKit
section
variable {R α σ : Type}
/-- a loop that comes to an end -/
theorem up_some {L : Nat → Int → σ → Option R} (I : Nat → σ → Prop) (N : Nat) (hN : N < 9223372036854775807)
    (hE : ∀ n s, I N s → ∃ v, L (n + 1) (N : Nat) s = some v)
    (hS : ∀ n (i : Nat) s, i < N → IntKind.i64.wrap ((i : Int) + 1) = (i : Int) + 1 → I i s → (∀ s, I (i + 1) s → ∃ v, L n ((i : Int) + 1) s = some v) → ∃ v, L (n + 1) (i : Int) s = some v) :
    ∀ (fuel : Nat) s, N < fuel → I 0 s → ∃ v, L fuel 0 s = some v := by
  have main : ∀ (d i fuel : Nat) s, N - i = d → i ≤ N → d < fuel → I i s → ∃ v, L fuel (i : Int) s = some v := by
    intro d
    induction d with
    | zero =>
      intro i fuel s h1 h2 h3 hI
      obtain ⟨n, rfl⟩ : ∃ n, fuel = n + 1 := ⟨fuel - 1, by omega⟩
      have : i = N := by omega
      subst this; exact hE n s hI
    | succ d ih =>
      intro i fuel s h1 h2 h3 hI
      obtain ⟨n, rfl⟩ : ∃ n, fuel = n + 1 := ⟨fuel - 1, by omega⟩
      exact hS n i s (by omega) (wrapS (by omega)) hI fun s' hs' => ih (i + 1) n s' (by omega) (by omega) (by omega) hs'
  intro fuel s h1 h2
  exact main N 0 fuel s (by omega) (by omega) h1 h2
end
theorem m87_eq {p : XProblem} {ch : List Int} (hs : Small p) (hf : Fit ch (cnV p.variables)) : m87_overflightref27_Branch p ch = some true := by
  obtain ⟨l1, l2⟩ := way_len hf
  have := hs.vars
  unfold m87_overflightref27_Branch
  have c0 : decide ((p.variables.length : Int) < (ch.length : Int)) = false := by simp <;> omega
  rw [c0, cond_false]
  refine loop_true (by omega) ?_ ?_
  · intro sf; unfold m87_overflightref27_Branch_B0; simp only [ltE, cond_false]
  · intro sf i a h1 h2 h3
    have hlt : i < p.variables.length := by omega
    obtain ⟨b, b1, b2, b3⟩ := fit_get hf (List.getElem?_eq_getElem hlt)
    rw [h2] at b1; obtain rfl := Option.some.inj b1
    have hcl := (hs.var _ (List.getElem_mem hlt)).2.1
    unfold m87_overflightref27_Branch_B0
    simp only [ltBd h1, inBd h1, inBd hlt, ck_True, cond_true, Int.toNat_natCast, getD_of h2, getD_of (List.getElem?_eq_getElem hlt), m61_eq, Option.bind_some, h3]
    rw [show IntKind.wrap .i64 ((p.variables[i].choices.length : Int) - 1) = (p.variables[i].choices.length : Int) - 1 from wrap_i64 (by omega) (by omega)]
    have : within a 0 ((p.variables[i].choices.length : Int) - 1) = true := by simp [within]; omega
    rw [this]; rfl
theorem demL_len (p : XProblem) (w : List (XVariable × XChoice)) (leaf : Int) : (demL p w leaf).length = p.cells.length := by simp [demL]
theorem row_get {p : XProblem} (hk : Prob p) {i : Nat} (hi : i < p.capacity.length) : (p.capacity.getD i default).length = p.cells.length := by
  rw [getD_of (List.getElem?_eq_getElem hi)]; exact (hk.row _ (List.getElem_mem hi)).1
theorem m88_some {p : XProblem} (hp : smXProblem p) (hk : Prob p) (hs : Small p) {ch : List Int} (hf : Fit ch (cnV p.variables)) : ∃ v, m88_overflightref27_Overload p ch = some v := by
  unfold m88_overflightref27_Overload
  have hc := hs.cells; have hcap := hs.caps
  refine up_some (L := fun n i s => loop2 (m88_overflightref27_Overload_B0 p ch) n s i) (fun _ _ => True) p.capacity.length (by omega) ?_ ?_ _ 0 (by omega) trivial
  · intro n s _
    show ∃ v, loop2 _ (n + 1) _ _ = _
    rw [loop2_succ]; unfold m88_overflightref27_Overload_B0; simp
  · intro n i s h1 h2 _ ih
    show ∃ v, loop2 _ (n + 1) _ _ = _
    rw [loop2_succ, m88_overflightref27_Overload_B0]
    simp only [ltBd h1, cond_true, m80_eq hp hk hs hf, Option.bind_some]
    rw [demL_len]
    refine up_some (L := fun n k s => loop2 (m88_overflightref27_Overload_B1 p (i : Int) _ _) n s k) (fun _ _ => True) p.cells.length (by omega) ?_ ?_ _ s (by omega) trivial
    · intro n s _
      show ∃ v, loop2 _ (n + 1) _ _ = _
      rw [loop2_succ, m88_overflightref27_Overload_B1, demL_len, ltE, cond_false, h2]
      exact ih s trivial
    · intro n k s g1 g2 _ ih'
      show ∃ v, loop2 _ (n + 1) _ _ = _
      rw [loop2_succ, m88_overflightref27_Overload_B1, demL_len, ltBd g1, cond_true, ck_eq (by omega), ck_eq (by omega), ck_eq (by rw [Int.toNat_natCast, row_get hk h1]; omega), g2]
      exact ih' _ trivial
theorem m79_some {p : XProblem} (hp : smXProblem p) (ho : okProb p = true) (hs : Small p) {ch : List Int} (hf : Fit ch (cnV p.variables)) : ∃ v, m79_overflightref27_Value p ch = some (v, 0) := by
  have hk := Prob.of ho
  obtain ⟨l1, l2⟩ := way_len hf
  have hv := hs.vars
  obtain ⟨ov, hov⟩ := m88_some hp hk hs hf
  unfold m79_overflightref27_Value
  have c0 : decide ((ch.length : Int) ≠ (p.variables.length : Int)) = false := by simp <;> omega
  rw [m31_eq hp, ho, m87_eq hs hf]
  simp only [cond_true, Option.bind_some, ne_eq, not_true_eq_false, decide_false, cond_false, jn_eq, Bool.not_true]
  rw [show decide (¬((ch.length : Int) = (p.variables.length : Int))) = false from c0, cond_false, hov, Option.bind_some]
  have := up_some (R := {q : List Int × Int // q.2 = 0}) (L := fun n i s => (loop2 (m79_overflightref27_Value_B0 p ch) n s i).bind fun q => if h : q.2 = 0 then some ⟨q, h⟩ else none) (fun _ s => s.length = 4) ch.length (by omega) ?_ ?_ (((ch.length : Int) - 0).toNat + 1) [ov, 0, 0, 0] (by omega) rfl
  · obtain ⟨⟨q, hq⟩, h⟩ := this
    cases hl : loop2 (m79_overflightref27_Value_B0 p ch) (((ch.length : Int) - 0).toNat + 1) [ov, 0, 0, 0] 0 with
    | none => simp only [hl] at h; cases h
    | some q' =>
      simp only [hl, Option.bind_some] at h
      split at h
      · rename_i hz; obtain ⟨a, b⟩ := q'; simp only at hz; subst hz; exact ⟨a, rfl⟩
      · cases h
  · intro n s _
    refine ⟨⟨(s, 0), rfl⟩, ?_⟩
    simp only [loop2_succ]; unfold m79_overflightref27_Value_B0; simp only [ltE, cond_false]; rfl
  · intro n i s h1 h2 hI ih
    have hlt : i < p.variables.length := by omega
    obtain ⟨b, b1, b2, b3⟩ := fit_get hf (List.getElem?_eq_getElem hlt)
    simp only [loop2_succ]
    rw [m79_overflightref27_Value_B0]
    simp only [ltBd h1, inBd h1, inBd hlt, ck_True, cond_true, Int.toNat_natCast, getD_of b1, getD_of (List.getElem?_eq_getElem hlt), List.length_set, h2]
    rw [ck_eq ⟨b2, b3⟩, ck_eq (by rw [hI]; decide), ck_eq (by rw [hI]; decide), ck_eq (by rw [hI]; decide), ck_eq (by rw [hI]; decide), ck_eq (by rw [hI]; decide), ck_eq (by rw [hI]; decide)]
    exact ih _ (by simpa using hI)
/-- the places of a leaf where more is taken than there is -/
def overR (p : XProblem) (w : List (XVariable × XChoice)) (leaf : Nat) (ks : List Nat) : List XPlace := (ks.filter fun k : Nat => decide (capP p ⟨(leaf : Int), (k : Int)⟩ < dem p w ⟨(leaf : Int), (k : Int)⟩)).map fun k : Nat => (⟨(leaf : Int), (k : Int)⟩ : XPlace)
def overL (p : XProblem) (w : List (XVariable × XChoice)) : List XPlace := (List.range p.capacity.length).flatMap fun leaf => overR p w leaf (List.range p.cells.length)
theorem m57_eq {p : XProblem} (hp : smXProblem p) (ho : okProb p = true) (hs : Small p) {ch : List Int} (hf : Fit ch (cnV p.variables)) : m57_overflightref27_Overloads p ch = some (overL p (wayOf p ch), 0) := by
  have hk := Prob.of ho
  have hc := hs.cells; have hcap := hs.caps
  obtain ⟨vv, hvv⟩ := m79_some hp ho hs hf
  unfold m57_overflightref27_Overloads
  rw [hvv]
  simp only [Option.bind_some, ne_eq, not_true_eq_false, decide_false, cond_false]
  have hl : (List.range p.capacity.length).length = p.capacity.length := List.length_range
  have hfu : ((p.capacity.length : Int) - 0).toNat + 1 = (((List.range p.capacity.length).length : Int) - 0).toNat + 1 := by rw [hl]
  rw [hfu]
  refine up_listB (B := m57_overflightref27_Overloads_B0 p ch) (fun i (s : List XPlace) => s.length ≤ 12 * i) (fun _ (t : List Nat) s => some (s ++ t.flatMap fun leaf => overR p (wayOf p ch) leaf (List.range p.cells.length), (0 : Int))) (List.range p.capacity.length) (by omega) ?_ ?_ (by omega) (by simp)
  · intro sf s _; unfold m57_overflightref27_Overloads_B0; rw [hl]; simp
  · intro sf i s x t a1 a2 a3 hI ih
    rw [hl] at a1
    have hx : x = i := by rw [List.getElem?_range a1] at a2; exact (Option.some.inj a2).symm
    subst hx
    rw [m57_overflightref27_Overloads_B0]
    simp only [ltBd a1, cond_true, m80_eq hp hk hs hf, Option.bind_some]
    have hl2 : (List.range p.cells.length).length = p.cells.length := List.length_range
    rw [demL_len, show (((p.cells.length : Int) - 0).toNat + 1) = (((List.range p.cells.length).length : Int) - 0).toNat + 1 by rw [hl2]]
    refine (up_listB (B := m57_overflightref27_Overloads_B1 p (x : Int) sf (demL p (wayOf p ch) (x : Int))) (s := s) (fuel := (((List.range p.cells.length).length : Int) - 0).toNat + 1) (fun j (s' : List XPlace) => s'.length ≤ 12 * x + j) (fun _ (tk : List Nat) s' => some (s' ++ overR p (wayOf p ch) x tk ++ t.flatMap fun leaf => overR p (wayOf p ch) leaf (List.range p.cells.length), (0 : Int))) (List.range p.cells.length) (by omega) ?_ ?_ (by omega) (by omega)).trans (by simp)
    · intro sf' s' hJ
      rw [m57_overflightref27_Overloads_B1, demL_len, hl2, ltE, cond_false, a3, ih s' (by rw [hl2] at hJ; omega)]
      simp [overR]
    · intro sf' j s' k tk b1 b2 b3 hJ ih'
      rw [hl2] at b1
      have hkj : k = j := by rw [List.getElem?_range b1] at b2; exact (Option.some.inj b2).symm
      subst hkj
      rw [m57_overflightref27_Overloads_B1, demL_len, ltBd b1, cond_true, ck_eq (by omega), ck_eq (by omega), ck_eq (by rw [Int.toNat_natCast, row_get hk a1]; omega)]
      have hcp : (p.capacity.getD x default).getD k default = capP p ⟨(x : Int), (k : Int)⟩ := by simp [capP]
      simp only [Int.toNat_natCast, demL_get b1, b3, hcp]
      cases hd : decide (capP p ⟨(x : Int), (k : Int)⟩ < dem p (wayOf p ch) ⟨(x : Int), (k : Int)⟩)
      · rw [cond_false, ih' s' (by omega)]
        simp [overR, hd]
      · rw [cond_true, ck_eq (by simp; omega), ih' _ (by simp; omega)]
        simp [overR, hd]
end Go.Fx
namespace Go.Fx
open Go Go.RowKit Go.Proofs
end Go.Fx
/- Chapter 32: the reference's Proves says the same. -/
set_option linter.unusedSimpArgs false
set_option linter.unusedVariables false
set_option maxRecDepth 100000
namespace Go.Fx
open Go Go.RowKit
theorem mem_ways_iff : ∀ {vs : List XVariable} {w : List (XVariable × XChoice)}, w ∈ ways (vs.map fun v => v.choices.map fun c => (v, c)) ↔ ∃ ch, Fit ch (cnV vs) ∧ w = List.zipWith (fun v a => (v, v.choices.getD a.toNat default)) vs ch
  | [], w => by
    simp only [List.map_nil, ways, List.mem_singleton, cnV]
    constructor
    · rintro rfl; exact ⟨[], trivial, rfl⟩
    · rintro ⟨ch, h, rfl⟩; rfl
  | v :: vs, w => by
    simp only [List.map_cons, ways, List.mem_flatMap, List.mem_map, cnV]
    constructor
    · rintro ⟨_, ⟨c, hc, rfl⟩, t, ht, rfl⟩
      obtain ⟨ch, h1, rfl⟩ := mem_ways_iff.1 ht
      obtain ⟨i, hi, e⟩ := List.getElem_of_mem hc
      refine ⟨(i : Int) :: ch, ⟨⟨by omega, by omega⟩, h1⟩, ?_⟩
      rw [List.zipWith_cons_cons, Int.toNat_natCast, getD_of (List.getElem?_eq_getElem hi), e]
    · rintro ⟨ch, h, rfl⟩
      cases ch with
      | nil => exact h.elim
      | cons a ch =>
        refine ⟨(v, v.choices.getD a.toNat default), ⟨v.choices.getD a.toNat default, ?_, rfl⟩, _, mem_ways_iff.2 ⟨ch, h.2, rfl⟩, rfl⟩
        have := h.1
        rw [getD_of (List.getElem?_eq_getElem (show a.toNat < v.choices.length by omega))]
        exact List.getElem_mem _
theorem fit_reverse_app : ∀ {a b c d : List Int}, Fit a b → Fit c d → Fit (a ++ c) (b ++ d)
  | [], [], _, _, _, h => h
  | x :: a, y :: b, _, _, h1, h2 => ⟨h1.1, fit_reverse_app h1.2 h2⟩
  | [], _ :: _, _, _, h, _ => h.elim
  | _ :: _, [], _, _, h, _ => h.elim
theorem fit_reverse : ∀ {a b : List Int}, Fit a b → Fit a.reverse b.reverse
  | [], [], _ => trivial
  | x :: a, y :: b, h => by
    rw [List.reverse_cons, List.reverse_cons]
    exact fit_reverse_app (fit_reverse h.2) ⟨h.1, trivial⟩
  | [], _ :: _, h => h.elim
  | _ :: _, [], h => h.elim
theorem allR_len : ∀ {ns : List Int}, (∀ n ∈ ns, n ≤ 8) → (allR ns).length ≤ 8 ^ ns.length
  | [], _ => by simp [allR]
  | n :: ns, h => by
    have ih := allR_len (ns := ns) fun m hm => h m (List.mem_cons_of_mem _ hm)
    have hn := h n (List.mem_cons_self ..)
    have hu : (upTo n).length ≤ 8 := by unfold upTo; simp; omega
    have : ∀ L : List (List Int), (L.flatMap fun t => (upTo n).map (· :: t)).length ≤ 8 * L.length := by
      intro L
      induction L with
      | nil => simp
      | cons a L ih => simp only [List.flatMap_cons, List.length_append, List.length_map, List.length_cons]; omega
    have := this (allR ns)
    rw [allR, List.length_cons, Nat.pow_succ]
    omega
/-! the part of a problem -/
structure PartOk (p : XProblem) (r : XReason) : Prop where
  sm : smXProblem (partOf p r)
  small : Small (partOf p r)
  ok : okProb (partOf p r) = true
  cap : ∀ x : XPlace, (0 ≤ x.leaf ∧ x.leaf < (p.capacity.length : Int)) → (0 ≤ x.cell ∧ x.cell < (p.cells.length : Int)) → capP (partOf p r) x = if x ∈ r.places then capP p x else 4096
  capl : (partOf p r).capacity.length = p.capacity.length
end Go.Fx
namespace Go.Fx
open Go Go.RowKit Go.Proofs
end Go.Fx
/- Chapter 32: problem.Overloads, said plainly. -/
set_option linter.unusedSimpArgs false
set_option linter.unusedVariables false
set_option maxRecDepth 100000
namespace Go.Fx
open Go Go.RowKit
end Go.Fx
/- Chapter 32: problem.Overloads hands out the same as the reference's. -/
set_option linter.unusedSimpArgs false
set_option linter.unusedVariables false
set_option maxRecDepth 100000
namespace Go.Fx
open Go Go.RowKit
/-- the overloads, with how much -/
def overV (p : XProblem) (w : List (XVariable × XChoice)) (leaf : Nat) (ks : List Nat) : List (XPlace × Int) :=
  (ks.filter fun k : Nat => decide (capP p ⟨(leaf : Int), (k : Int)⟩ < dem p w ⟨(leaf : Int), (k : Int)⟩)).map fun k : Nat => ((⟨(leaf : Int), (k : Int)⟩ : XPlace), dem p w ⟨(leaf : Int), (k : Int)⟩ - capP p ⟨(leaf : Int), (k : Int)⟩)
def overW (p : XProblem) (w : List (XVariable × XChoice)) : List (XPlace × Int) := (List.range p.capacity.length).flatMap fun leaf => overV p w leaf (List.range p.cells.length)
theorem overW_fst (p : XProblem) (w : List (XVariable × XChoice)) : (overW p w).map (·.1) = overL p w := by
  unfold overW overL
  rw [List.map_flatMap]
  congr 1; funext leaf
  unfold overV overR; rw [List.map_map]; rfl
theorem overW_len {p : XProblem} (hs : Small p) (w : List (XVariable × XChoice)) : (overW p w).length ≤ 48 := by
  have h1 := hs.cells; have h2 := hs.caps
  have : ∀ t : List Nat, (t.flatMap fun leaf => overV p w leaf (List.range p.cells.length)).length ≤ 12 * t.length := by
    intro t
    induction t with
    | nil => simp
    | cons a t ih =>
      have : (overV p w a (List.range p.cells.length)).length ≤ 12 := by
        unfold overV; rw [List.length_map]
        have := List.length_filter_le (fun k : Nat => decide (capP p ⟨(a : Int), (k : Int)⟩ < dem p w ⟨(a : Int), (k : Int)⟩)) (List.range p.cells.length)
        rw [List.length_range] at this; omega
      simp only [List.flatMap_cons, List.length_append, List.length_cons]; omega
  have := this (List.range p.capacity.length)
  rw [List.length_range] at this
  unfold overW; omega
end Go.Fx
namespace Go.Fx
open Go Go.RowKit Go.Proofs
end Go.Fx
/- Chapter 32: problem.Value: an answer for choices that fit, an error for others; its first number is the sum of the overloads. -/
set_option linter.unusedSimpArgs false
set_option linter.unusedVariables false
set_option maxRecDepth 100000
namespace Go.Fx
open Go Go.RowKit
end Go.Fx
namespace Go.Fx
open Go Go.RowKit Go.Proofs
end Go.Fx
/- ReasonMore: the inner loops. -/
set_option linter.unusedSimpArgs false
set_option linter.unusedVariables false
set_option maxRecDepth 100000
namespace Go.Fx
open Go Go.RowKit
/-- more variables, more places, less room: what breaks still breaks -/
theorem demF_nonneg {p : XProblem} (hk : Prob p) (hs : Small p) {f : Int → XChoice} {i : Int} (hi : 0 ≤ i ∧ i < (p.variables.length : Int)) (hf : f i ∈ (varOf p i).choices) (x : XPlace) : 0 ≤ takes p x (varOf p i, f i) := by
  have : varOf p i ∈ p.variables := by
    unfold varOf
    rw [getD_of (List.getElem?_eq_getElem (show i.toNat < p.variables.length by omega))]
    exact List.getElem_mem _
  exact (takes_bound hk hs this hf x).1
end Go.Fx
/- ReasonMore: one place with less room. -/
set_option linter.unusedSimpArgs false
set_option linter.unusedVariables false
set_option maxRecDepth 100000
namespace Go.Fx
open Go Go.RowKit
/-- as long, and nowhere more -/
def LeR (a b : List Int) : Prop := a.length = b.length ∧ ∀ k, k < b.length → 0 ≤ a.getD k default ∧ a.getD k default ≤ b.getD k default
end Go.Fx
/- ReasonMore: the problem with less room. -/
set_option linter.unusedSimpArgs false
set_option linter.unusedVariables false
set_option maxRecDepth 100000
namespace Go.Fx
open Go Go.RowKit
def LeRs (rows cap : List (List Int)) : Prop := rows.length = cap.length ∧ ∀ i, i < cap.length → LeR (rows.getD i default) (cap.getD i default)
theorem LeR.mem {a b : List Int} (h : LeR a b) (hb : ∀ k ∈ b, k ≤ 4096) : ∀ k ∈ a, 0 ≤ k ∧ k ≤ 4096 := by
  intro k hk
  obtain ⟨j, hj, rfl⟩ := List.getElem_of_mem hk
  have hj2 : j < b.length := by rw [← h.1]; exact hj
  have := h.2 j hj2
  rw [getD_of (List.getElem?_eq_getElem hj), getD_of (List.getElem?_eq_getElem hj2)] at this
  have := hb _ (List.getElem_mem hj2)
  omega
theorem LeRs.row {rows cap : List (List Int)} (h : LeRs rows cap) : ∀ r ∈ rows, ∃ c ∈ cap, LeR r c := by
  intro r hr
  obtain ⟨j, hj, rfl⟩ := List.getElem_of_mem hr
  have hj2 : j < cap.length := by rw [← h.1]; exact hj
  have := h.2 j hj2
  rw [getD_of (List.getElem?_eq_getElem hj), getD_of (List.getElem?_eq_getElem hj2)] at this
  exact ⟨_, List.getElem_mem hj2, this⟩
end Go.Fx
/- ReasonMore: the loops joined. -/
set_option linter.unusedSimpArgs false
set_option linter.unusedVariables false
set_option maxRecDepth 100000
namespace Go.Fx
open Go Go.RowKit
end Go.Fx
/- ReasonMore: the lists that are made. -/
set_option linter.unusedSimpArgs false
set_option linter.unusedVariables false
set_option maxRecDepth 100000
namespace Go.Fx
open Go Go.RowKit
end Go.Fx
/- ReasonMore: rising lists within rising lists. -/
set_option linter.unusedSimpArgs false
set_option linter.unusedVariables false
set_option maxRecDepth 100000
namespace Go.Fx
open Go Go.RowKit
theorem rising_sub {α : Type} {lt : α → α → Prop} (ht : ∀ a b c, lt a b → lt b c → lt a c) (hi : ∀ a, ¬ lt a a) : ∀ {m l : List α}, m.Pairwise lt → l.Pairwise lt → (∀ x ∈ l, x ∈ m) → l.Sublist m
  | [], l, _, _, h => by
    cases l with
    | nil => exact List.Sublist.slnil
    | cons a l => exact absurd (h a (List.mem_cons_self ..)) (by simp)
  | b :: m, [], _, _, _ => List.nil_sublist _
  | b :: m, a :: l, hm, hl, h => by
    rw [List.pairwise_cons] at hm hl
    rcases List.mem_cons.1 (h a (List.mem_cons_self ..)) with e | e
    · subst e
      refine List.Sublist.cons_cons _ (rising_sub ht hi hm.2 hl.2 fun x hx => ?_)
      rcases List.mem_cons.1 (h x (List.mem_cons_of_mem _ hx)) with e | e
      · exact absurd (hl.1 x hx) (by rw [e]; exact hi a)
      · exact e
    · refine List.Sublist.cons _ (rising_sub ht hi hm.2 (List.pairwise_cons.2 hl) fun x hx => ?_)
      rcases List.mem_cons.1 (h x hx) with e2 | e2
      · subst e2
        have h1 := hm.1 a e
        rcases List.mem_cons.1 hx with e3 | e3
        · subst e3; exact absurd h1 (hi _)
        · exact absurd (ht _ _ _ h1 (hl.1 _ e3)) (hi _)
      · exact e2
end Go.Fx
/- Chapter 32: the reference's Relevant places: those that some choices break, in order. -/
set_option linter.unusedSimpArgs false
set_option linter.unusedVariables false
set_option maxRecDepth 100000
namespace Go.Fx
open Go Go.RowKit
theorem pb_iff (a b : XPlace) : pb a b = true ↔ a.leaf < b.leaf ∨ (a.leaf = b.leaf ∧ a.cell < b.cell) := by
  unfold pb; simp
theorem pb_trans (a b c : XPlace) (h1 : pb a b = true) (h2 : pb b c = true) : pb a c = true := by
  rw [pb_iff] at *; omega
theorem pb_irrefl (a : XPlace) : ¬ pb a a = true := by rw [pb_iff]; omega
theorem pb_tri {a b : XPlace} (h1 : ¬ pb a b = true) (h2 : a ≠ b) : pb b a = true := by
  rw [pb_iff] at *
  obtain ⟨a1, a2⟩ := a; obtain ⟨b1, b2⟩ := b
  simp only at *
  by_cases e : a1 = b1
  · by_cases e2 : a2 = b2
    · subst e; subst e2; exact absurd rfl h2
    · omega
  · omega
/-- rising lists with the same members are the same -/
theorem sub_eq {α : Type} {l m : List α} (h1 : l.Sublist m) (h2 : m.Sublist l) : l = m := h1.eq_of_length (Nat.le_antisymm h1.length_le h2.length_le)
theorem rise_eq {l m : List XPlace} (hl : l.Pairwise fun a b => pb a b = true) (hm : m.Pairwise fun a b => pb a b = true) (h : ∀ x, x ∈ l ↔ x ∈ m) : l = m :=
  sub_eq (rising_sub (lt := fun a b => pb a b = true) pb_trans pb_irrefl hm hl fun x hx => (h x).1 hx) (rising_sub (lt := fun a b => pb a b = true) pb_trans pb_irrefl hl hm fun x hx => (h x).2 hx)
/-- all places -/
def allPl (p : XProblem) : List XPlace := (List.range p.capacity.length).flatMap fun leaf : Nat => (List.range p.cells.length).map fun k : Nat => (⟨(leaf : Int), (k : Int)⟩ : XPlace)
theorem mem_allPl {p : XProblem} {x : XPlace} : x ∈ allPl p ↔ (0 ≤ x.leaf ∧ x.leaf < (p.capacity.length : Int)) ∧ 0 ≤ x.cell ∧ x.cell < (p.cells.length : Int) := by
  unfold allPl
  simp only [List.mem_flatMap, List.mem_map, List.mem_range]
  constructor
  · rintro ⟨i, hi, k, hk, rfl⟩; simp only; omega
  · rintro ⟨h1, h2⟩
    refine ⟨x.leaf.toNat, by omega, x.cell.toNat, by omega, ?_⟩
    obtain ⟨a, b⟩ := x
    simp only at h1 h2 ⊢
    rw [Int.toNat_of_nonneg h1.1, Int.toNat_of_nonneg h2.1]
theorem allPl_rise (p : XProblem) : (allPl p).Pairwise fun a b => pb a b = true := by
  unfold allPl
  rw [List.pairwise_flatMap]
  refine ⟨fun i _ => ?_, ?_⟩
  · rw [List.pairwise_map]
    refine List.Pairwise.imp (R := fun a b : Nat => a < b) ?_ List.pairwise_lt_range
    intro a b h
    exact (pb_iff _ _).2 (.inr ⟨rfl, (by show (a : Int) < (b : Int); omega)⟩)
  · refine List.Pairwise.imp (R := fun a b : Nat => a < b) ?_ List.pairwise_lt_range
    intro a b h x hx y hy
    obtain ⟨k, _, rfl⟩ := List.mem_map.1 hx
    obtain ⟨j, _, rfl⟩ := List.mem_map.1 hy
    exact (pb_iff _ _).2 (.inl (by show (a : Int) < (b : Int); omega))
theorem allPl_len {p : XProblem} (hs : Small p) : (allPl p).length ≤ 48 := by
  have h1 := hs.cells; have h2 := hs.caps
  unfold allPl
  rw [List.length_flatMap]
  have : ∀ t : List Nat, (t.map fun leaf : Nat => ((List.range p.cells.length).map fun k : Nat => (⟨(leaf : Int), (k : Int)⟩ : XPlace)).length).sum ≤ 12 * t.length := by
    intro t
    induction t with
    | nil => simp
    | cons a t ih => simp only [List.map_cons, List.sum_cons, List.length_map, List.length_range, List.length_cons] at ih ⊢; omega
  have := this (List.range p.capacity.length)
  rw [List.length_range] at this; omega
theorem overL_filter (p : XProblem) (w : List (XVariable × XChoice)) : overL p w = (allPl p).filter fun x => decide (capP p x < dem p w x) := by
  unfold overL allPl overR
  rw [List.filter_flatMap]
  congr 1; funext leaf
  rw [List.filter_map]; rfl
theorem overL_mem {p : XProblem} {w : List (XVariable × XChoice)} {x : XPlace} : x ∈ overL p w ↔ x ∈ allPl p ∧ capP p x < dem p w x := by
  rw [overL_filter, List.mem_filter, decide_eq_true_eq]
/-- the places that some choices of some variables break, in order -/
def relV (p : XProblem) (V : List Int) : List XPlace := (allPl p).filter fun x => (ways (pairsOf p V)).any fun w => decide (capP p x < dem p w x)
theorem relV_mem {p : XProblem} {V : List Int} {x : XPlace} : x ∈ relV p V ↔ x ∈ allPl p ∧ ∃ w ∈ ways (pairsOf p V), capP p x < dem p w x := by
  unfold relV; rw [List.mem_filter, List.any_eq_true]; simp only [decide_eq_true_eq]
theorem relV_rise (p : XProblem) (V : List Int) : (relV p V).Pairwise fun a b => pb a b = true := (allPl_rise p).filter _
abbrev rel (p : XProblem) : List XPlace := relV p (rng 0 p.variables.length)
theorem rng_range : ∀ (a : Int) (n : Nat), rng a n = (List.range n).map fun k : Nat => a + (k : Int)
  | a, 0 => rfl
  | a, n + 1 => by
    rw [rng, rng_range (a + 1) n, List.range_succ_eq_map, List.map_cons, List.map_map]
    simp only [Int.natCast_zero, Int.add_zero]
    congr 1
    refine List.map_congr_left fun k _ => ?_
    simp only [Function.comp]; omega
theorem pairs_all (p : XProblem) : pairsOf p (rng 0 p.variables.length) = p.variables.map fun v => v.choices.map fun c => (v, c) := by
  unfold pairsOf
  rw [rng_range, List.map_map]
  refine List.ext_getElem (by simp) fun i h1 h2 => ?_
  have hi : i < p.variables.length := by simpa using h2
  simp only [List.getElem_map, List.getElem_range, Function.comp, Int.zero_add, Int.toNat_natCast, getD_of (List.getElem?_eq_getElem hi)]
/-- x is put into a rising list, once -/
def insR (x : XPlace) : List XPlace → List XPlace
  | [] => [x]
  | y :: t => if pb y x then y :: insR x t else if y = x then y :: t else x :: y :: t
theorem insR_mem {x y : XPlace} : ∀ {l : List XPlace}, y ∈ insR x l ↔ y = x ∨ y ∈ l
  | [] => by simp [insR]
  | z :: t => by
    unfold insR
    split
    · rw [List.mem_cons, insR_mem, List.mem_cons]
      constructor
      · rintro (h | h | h)
        · exact .inr (.inl h)
        · exact .inl h
        · exact .inr (.inr h)
      · rintro (h | h | h)
        · exact .inr (.inl h)
        · exact .inl h
        · exact .inr (.inr h)
    · split
      · rename_i h; subst h; simp
      · simp
theorem insR_rise {x : XPlace} : ∀ {l : List XPlace}, l.Pairwise (fun a b => pb a b = true) → (insR x l).Pairwise fun a b => pb a b = true
  | [], _ => List.pairwise_singleton ..
  | y :: t, h => by
    have hc := List.pairwise_cons.1 h
    unfold insR
    split
    · rename_i hp
      refine List.pairwise_cons.2 ⟨fun z hz => ?_, insR_rise hc.2⟩
      rcases insR_mem.1 hz with rfl | hz
      · exact hp
      · exact hc.1 z hz
    · rename_i hp
      split
      · exact h
      · rename_i hne
        have hxy := pb_tri hp hne
        refine List.pairwise_cons.2 ⟨fun z hz => ?_, h⟩
        rcases List.mem_cons.1 hz with rfl | hz
        · exact hxy
        · exact pb_trans _ _ _ hxy (hc.1 z hz)
/-- the same, by the place where it goes -/
def posR (x : XPlace) (l : List XPlace) : Nat := (l.takeWhile fun y => pb y x).length
theorem posR_le (x : XPlace) (l : List XPlace) : posR x l ≤ l.length := (List.takeWhile_sublist _).length_le
theorem insR_pos (x : XPlace) : ∀ l : List XPlace, insR x l = if posR x l = l.length ∨ l.getD (posR x l) default ≠ x then l.take (posR x l) ++ [x] ++ l.drop (posR x l) else l
  | [] => by simp [insR, posR]
  | y :: t => by
    have ih := insR_pos x t
    unfold insR
    by_cases h : pb y x = true
    · have e : posR x (y :: t) = posR x t + 1 := by unfold posR; rw [List.takeWhile_cons, if_pos h]; rfl
      rw [if_pos h, ih, e]
      simp only [List.length_cons, Nat.add_right_cancel_iff, List.getD_cons_succ, List.take_succ_cons, List.drop_succ_cons, List.cons_append]
      split <;> rfl
    · have e : posR x (y :: t) = 0 := by unfold posR; rw [List.takeWhile_cons, if_neg h]; rfl
      rw [if_neg h, e]
      simp only [List.length_cons, List.getD_cons_zero, List.take_zero, List.drop_zero, List.nil_append]
      by_cases hy : y = x
      · rw [if_pos hy, if_neg (by simp [hy])]
      · rw [if_neg hy, if_pos (.inr hy)]; rfl
end Go.Fx
/- Chapter 32: the reference's Relevant: all places that some solution breaks. -/
set_option linter.unusedSimpArgs false
set_option linter.unusedVariables false
set_option maxRecDepth 100000
namespace Go.Fx
open Go Go.RowKit
theorem m32_B2_eq {ov l0 : List XPlace} {E : Int} {i : Nat} {x : XPlace} (hi : ov[i]? = some x) (k : Int → Option (List XPlace)) :
    ∀ (t pre : List XPlace) (fu : Nat), l0 = pre ++ t → l0.length ≤ 1000 → t.length < fu →
      loop1 (m32_overflightref32_Relevant_B2 (ov, E) l0 (i : Int) k) fu (pre.length : Int) = k ((pre.length + posR x t : Nat) : Int) := by
  intro t
  have hlt : i < ov.length := (List.getElem?_eq_some_iff.1 hi).1
  induction t with
  | nil =>
    intro pre fu h1 h2 h3
    obtain ⟨n, rfl⟩ : ∃ n, fu = n + 1 := ⟨fu - 1, by omega⟩
    rw [List.append_nil] at h1; subst h1
    rw [loop1_succ, m32_overflightref32_Relevant_B2]
    simp only [ltE, cond_false, jn_eq]; rfl
  | cons y t ih =>
    intro pre fu h1 h2 h3
    obtain ⟨n, rfl⟩ : ∃ n, fu = n + 1 := ⟨fu - 1, by omega⟩
    have hpl : pre.length < l0.length := by rw [h1]; simp
    have hy : l0[pre.length]? = some y := by rw [h1]; simp
    rw [loop1_succ, m32_overflightref32_Relevant_B2]
    simp only [ltBd hpl, inBd hpl, inBd hlt, ck_True, cond_true, jn_eq, Int.toNat_natCast, getD_of hy, getD_of hi, m63_eq, Option.bind_some]
    by_cases h : pb y x = true
    · rw [h, cond_true, wrapS (by omega)]
      have := ih (pre ++ [y]) n (by rw [h1]; simp) h2 (by simp at h3; omega)
      rw [List.length_append, List.length_singleton] at this
      rw [show (pre.length : Int) + 1 = ((pre.length + 1 : Nat) : Int) by omega, this]
      have e : posR x (y :: t) = posR x t + 1 := by unfold posR; rw [List.takeWhile_cons, if_pos h]; rfl
      rw [e]; congr 1; omega
    · have e : posR x (y :: t) = 0 := by unfold posR; rw [List.takeWhile_cons, if_neg h]; rfl
      have h' : pb y x = false := by simpa using h
      rw [h', cond_false, e, Nat.add_zero]
theorem m32_B1_eq {p : XProblem} {ch : List Int} {sf20 : List XPlace → List Int → Bool → Option (List XPlace)} {ov l : List XPlace} {E : Int} {i : Nat} {x : XPlace} (hi : ov[i]? = some x) (hl : l.length ≤ 100) (hw : IntKind.i64.wrap ((i : Int) + 1) = (i : Int) + 1) (sf : List XPlace → Int → Option (List XPlace)) :
    m32_overflightref32_Relevant_B1 p ch sf20 (ov, E) sf l (i : Int) = sf (insR x l) ((i : Int) + 1) := by
  have hlt : i < ov.length := (List.getElem?_eq_some_iff.1 hi).1
  have hle := posR_le x l
  obtain ⟨fu, hfu⟩ : ∃ n : Nat, n = 1000000 := ⟨_, rfl⟩
  rw [m32_overflightref32_Relevant_B1, ← hfu]
  simp only [ltBd hlt, cond_true, jn_eq, hw]
  refine (m32_B2_eq (l0 := l) (E := E) hi _ l [] fu rfl (by omega) (by omega)).trans ?_
  · simp only [List.length_nil, Nat.zero_add, cond_true, Int.toNat_natCast, getD_of hi, List.nil_append, List.drop_zero, Nat.sub_zero]
    have e1 : (l.drop (posR x l)).take (l.length - posR x l) = l.drop (posR x l) := List.take_of_length_le (by simp)
    have ins : (if posR x l = l.length ∨ l.getD (posR x l) default ≠ x then l.take (posR x l) ++ [x] ++ l.drop (posR x l) else l) = insR x l := (insR_pos x l).symm
    have hcks : ∀ R : Option (List XPlace), (ck ((0 : Int) ≤ (posR x l : Int) ∧ (posR x l : Int) ≤ (l.length : Int)) <| ck (((l.take (posR x l)).length) * 16 ≤ 140737488355328) <| ck ((0 : Int) ≤ (i : Int) ∧ (i : Int) < (ov.length : Int)) <| ck (((l.take (posR x l)).length + [x].length) * 16 ≤ 140737488355328) <| ck ((0 : Int) ≤ (posR x l : Int) ∧ (posR x l : Int) ≤ (l.length : Int)) <| ck (((l.take (posR x l) ++ [x]).length + ((l.drop (posR x l)).take (l.length - posR x l)).length) * 16 ≤ 140737488355328) R) = R := by
      intro R
      have t1 : (l.take (posR x l)).length ≤ 100 := by rw [List.length_take]; omega
      have t2 : ((l.drop (posR x l)).take (l.length - posR x l)).length ≤ 100 := by rw [e1, List.length_drop]; omega
      rw [ck_eq (by omega), ck_eq (by omega), ck_eq (by omega), ck_eq (by simp only [List.length_singleton]; omega), ck_eq (by omega), ck_eq (by simp only [List.length_append, List.length_singleton]; omega)]
    rw [hcks, e1]
    by_cases hp : posR x l = l.length
    · rw [if_pos (.inl hp)] at ins
      rw [decide_eq_true (by omega), cond_true, ins]
    · rw [decide_eq_false (by omega), cond_false, ck_eq (by omega), ck_eq (by omega)]
      by_cases hx : l.getD (posR x l) default = x
      · rw [if_neg (fun h => h.elim hp fun h => h hx)] at ins
        rw [decide_eq_true hx, Bool.not_true, cond_false]; rw [← ins]
      · rw [if_pos (.inr hx)] at ins
        rw [decide_eq_false hx, Bool.not_false, cond_true, ins]
end Go.Fx
/- Chapter 32: the reference's Relevant is the list of all places that some solution breaks; the guard Light. -/
set_option linter.unusedSimpArgs false
set_option linter.unusedVariables false
set_option maxRecDepth 100000
namespace Go.Fx
open Go Go.RowKit
def insAll (l ov : List XPlace) : List XPlace := ov.foldl (fun l x => insR x l) l
theorem insAll_mem {x : XPlace} : ∀ {ov l : List XPlace}, x ∈ insAll l ov ↔ x ∈ l ∨ x ∈ ov
  | [], l => by simp [insAll]
  | y :: ov, l => by
    show x ∈ insAll (insR y l) ov ↔ _
    rw [insAll_mem, insR_mem, List.mem_cons]
    constructor
    · rintro ((h | h) | h)
      · exact .inr (.inl h)
      · exact .inl h
      · exact .inr (.inr h)
    · rintro (h | h | h)
      · exact .inl (.inr h)
      · exact .inl (.inl h)
      · exact .inr h
theorem insAll_rise : ∀ {ov l : List XPlace}, l.Pairwise (fun a b => pb a b = true) → (insAll l ov).Pairwise fun a b => pb a b = true
  | [], l, h => h
  | y :: ov, l, h => insAll_rise (ov := ov) (insR_rise h)
/-- a rising list of places that are there -/
def OkPl (p : XProblem) (l : List XPlace) : Prop := l.Pairwise (fun a b => pb a b = true) ∧ ∀ x ∈ l, x ∈ allPl p
theorem OkPl.len {p : XProblem} {l : List XPlace} (hs : Small p) (h : OkPl p l) : l.length ≤ 48 :=
  Nat.le_trans (rising_sub (lt := fun a b => pb a b = true) pb_trans pb_irrefl (allPl_rise p) h.1 h.2).length_le (allPl_len hs)
theorem OkPl.ins {p : XProblem} {l ov : List XPlace} (h : OkPl p l) (ho : ∀ x ∈ ov, x ∈ allPl p) : OkPl p (insAll l ov) :=
  ⟨insAll_rise h.1, fun x hx => (insAll_mem.1 hx).elim (h.2 x) (ho x)⟩
theorem m32_inner {p : XProblem} (hs : Small p) {ch : List Int} {sf20 : List XPlace → List Int → Bool → Option (List XPlace)} {ov : List XPlace} {E : Int} (hov : ∀ x ∈ ov, x ∈ allPl p) (hol : ov.length ≤ 1000) {l : List XPlace} (hl : OkPl p l) :
    loop2 (m32_overflightref32_Relevant_B1 p ch sf20 (ov, E)) (((ov.length : Int) - 0).toNat + 1) l 0 = (m58_overflightref32_Next p ch).bind fun nx => sf20 (insAll l ov) nx.1 nx.2 := by
  refine up_listB (B := m32_overflightref32_Relevant_B1 p ch sf20 (ov, E)) (fun _ l => OkPl p l) (fun _ t l => (m58_overflightref32_Next p ch).bind fun nx => sf20 (insAll l t) nx.1 nx.2) ov (by omega) ?_ ?_ (by omega) hl
  · intro sf s hI
    rw [m32_overflightref32_Relevant_B1, ltE, cond_false]; rfl
  · intro sf i s x t a1 a2 a3 hI ih
    have := hI.len hs
    rw [m32_B1_eq a2 (by omega) a3]
    exact ih _ (hI.ins (ov := [x]) fun y hy => by rw [List.mem_singleton] at hy; subst hy; exact hov _ (ge0 a2))
def relF (p : XProblem) (l : List XPlace) (L : List (List Int)) : List XPlace := L.foldl (fun l c => insAll l (overL p (wayOf p c.reverse))) l
theorem relF_mem {p : XProblem} {x : XPlace} : ∀ {L : List (List Int)} {l : List XPlace}, x ∈ relF p l L ↔ x ∈ l ∨ ∃ c ∈ L, x ∈ overL p (wayOf p c.reverse)
  | [], l => by simp [relF]
  | c :: L, l => by
    show x ∈ relF p (insAll l (overL p (wayOf p c.reverse))) L ↔ _
    rw [relF_mem, insAll_mem]
    constructor
    · rintro ((h | h) | ⟨d, hd, h⟩)
      · exact .inl h
      · exact .inr ⟨c, List.mem_cons_self .., h⟩
      · exact .inr ⟨d, List.mem_cons_of_mem _ hd, h⟩
    · rintro (h | ⟨d, hd, h⟩)
      · exact .inl (.inl h)
      · rcases List.mem_cons.1 hd with rfl | hd
        · exact .inl (.inr h)
        · exact .inr ⟨d, hd, h⟩
theorem relF_rise {p : XProblem} : ∀ {L : List (List Int)} {l : List XPlace}, l.Pairwise (fun a b => pb a b = true) → (relF p l L).Pairwise fun a b => pb a b = true
  | [], l, h => h
  | c :: L, l, h => relF_rise (L := L) (insAll_rise h)
theorem way_mem_all {p : XProblem} {w : List (XVariable × XChoice)} : w ∈ ways (pairsOf p (rng 0 p.variables.length)) ↔ ∃ ch, Fit ch (cnV p.variables) ∧ w = wayOf p ch := by
  rw [pairs_all]; exact mem_ways_iff
theorem fit_choice {p : XProblem} (hs : Small p) {ch : List Int} (hf : Fit ch (cnV p.variables)) : ∀ a ∈ ch, 0 ≤ a ∧ a < 8 := by
  intro a ha
  obtain ⟨l1, l2⟩ := way_len hf
  obtain ⟨i, hi, e⟩ := List.getElem_of_mem ha
  obtain ⟨b, b1, b2, b3⟩ := fit_get hf (List.getElem?_eq_getElem (show i < p.variables.length by omega))
  rw [List.getElem?_eq_getElem hi, e] at b1; obtain rfl := Option.some.inj b1
  have := (hs.var _ (List.getElem_mem (show i < p.variables.length by omega))).2.1
  omega
theorem m32_eq {p : XProblem} (hp : smXProblem p) (ho : okProb p = true) (hs : Small p) : m32_overflightref32_Relevant p = some (rel p) := by
  obtain ⟨fu, hfu⟩ : ∃ n : Nat, n = 1000000 := ⟨_, rfl⟩
  have hk := Prob.of ho
  have hv6 := hs.vars
  unfold m32_overflightref32_Relevant
  rw [← hfu, ck_eq (by omega)]
  have hov : ∀ w, ∀ x ∈ overL p w, x ∈ allPl p := fun w x hx => (overL_mem.1 hx).1
  have hol : ∀ w, (overL p w).length ≤ 1000 := fun w => by rw [← overW_fst, List.length_map]; have := overW_len hs w; omega
  have key : ∀ (L : List (List Int)) (c : List Int) (l : List XPlace) (fuel : Nat), Enum (nr (cnV p.variables).reverse) (c :: L) → (∀ c' ∈ c :: L, Fit c' (cnV p.variables).reverse) → OkPl p l → L.length + 2 < fuel →
      loop3 (m32_overflightref32_Relevant_B0 p) fuel l c.reverse true = some (relF p l (c :: L)) := by
    intro L
    induction L with
    | nil =>
      intro c l fuel he hc hl hfl
      obtain ⟨n, rfl⟩ : ∃ n, fuel = n + 1 + 1 := ⟨fuel - 2, by omega⟩
      have hfc : Fit c.reverse (cnV p.variables) := by have := fit_reverse (hc c (List.mem_cons_self ..)); rwa [List.reverse_reverse] at this
      rw [loop3_succ, m32_overflightref32_Relevant_B0, cond_true, m57_eq hp ho hs hfc, Option.bind_some, m32_inner hs (hov _) (hol _) hl]
      rw [m58_eq c.reverse (way_len hfc).2 (by omega) (fun a ha => by have := fit_choice hs hfc a ha; omega)]
      unfold nextOf
      rw [List.reverse_reverse, show nr (cnV p.variables).reverse c = none from he]
      simp only [Option.map_none, Option.bind_some]
      rw [loop3_succ, m32_overflightref32_Relevant_B0]; rfl
    | cons d L ih =>
      intro c l fuel he hc hl hfl
      obtain ⟨n, rfl⟩ : ∃ n, fuel = n + 1 := ⟨fuel - 1, by omega⟩
      have hfc : Fit c.reverse (cnV p.variables) := by have := fit_reverse (hc c (List.mem_cons_self ..)); rwa [List.reverse_reverse] at this
      rw [loop3_succ, m32_overflightref32_Relevant_B0, cond_true, m57_eq hp ho hs hfc, Option.bind_some, m32_inner hs (hov _) (hol _) hl]
      rw [m58_eq c.reverse (way_len hfc).2 (by omega) (fun a ha => by have := fit_choice hs hfc a ha; omega)]
      unfold nextOf
      rw [List.reverse_reverse, show nr (cnV p.variables).reverse c = some d from he.1]
      simp only [Option.map_some, Option.bind_some]
      exact ih d _ n he.2 (fun c' h => hc c' (List.mem_cons_of_mem _ h)) (hl.ins (hov _)) (by simp at hfl; omega)
  have hn1 : ∀ n ∈ (cnV p.variables).reverse, 1 ≤ n ∧ n ≤ 8 := by
    intro n hn
    rw [List.mem_reverse] at hn
    obtain ⟨v, hv, rfl⟩ := List.mem_map.1 hn
    have := hk.ch v hv; have := (hs.var v hv).2.1
    omega
  obtain ⟨en, t, ht⟩ := allR_enum (ns := (cnV p.variables).reverse) fun n hn => (hn1 n hn).1
  have hlen := allR_len (ns := (cnV p.variables).reverse) fun n hn => (hn1 n hn).2
  have hz : (List.replicate p.variables.length (0 : Int)) = (((cnV p.variables).reverse.map fun _ => (0 : Int)).reverse) := by
    rw [← List.map_reverse, List.reverse_reverse, cnV, List.map_map]
    exact (List.map_const' ..).symm
  rw [hz, key t _ [] fu (by rw [← ht]; exact en) (fun c' h => mem_allR.1 (by rw [ht]; exact h)) ⟨List.Pairwise.nil, by simp⟩ (by
    rw [ht] at hlen
    have h8 : 8 ^ ((cnV p.variables).reverse).length ≤ 8 ^ 6 := Nat.pow_le_pow_right (by omega) (by simp [cnV]; omega)
    simp only [List.length_cons] at hlen
    have : (8 : Nat) ^ 6 = 262144 := by decide
    omega), ← ht]
  congr 1
  refine rise_eq (relF_rise List.Pairwise.nil) (relV_rise _ _) fun x => ?_
  rw [relF_mem, relV_mem]
  constructor
  · rintro (h | ⟨c, hc, hx⟩)
    · cases h
    · obtain ⟨h1, h2⟩ := overL_mem.1 hx
      have hf := fit_reverse (mem_allR.1 hc)
      rw [List.reverse_reverse] at hf
      exact ⟨h1, _, way_mem_all.2 ⟨_, hf, rfl⟩, h2⟩
  · rintro ⟨h1, w, hw, h2⟩
    obtain ⟨ch, hf, rfl⟩ := way_mem_all.1 hw
    refine .inr ⟨ch.reverse, mem_allR.2 (fit_reverse hf), ?_⟩
    rw [List.reverse_reverse]; exact overL_mem.2 ⟨h1, h2⟩
/-- a light problem is small; a valid one has few places that matter -/
theorem m11_eq {p : XProblem} (hp : smXProblem p) : ∃ b, m11_overflightref32_Light p = some b ∧ (b = true → Small p ∧ (okProb p = true → (rel p).length ≤ 6)) := by
  unfold m11_overflightref32_Light
  obtain ⟨b, hb, hS⟩ := m18_eq hp
  rw [hb]
  simp only [Option.bind_some, jn_eq]
  cases b
  · exact ⟨false, rfl, by simp⟩
  have hs := hS rfl
  obtain ⟨mn, hmn⟩ := m30_some p 150 (by have := hs.vars; omega)
  simp only [Bool.not_true, cond_false, hmn, Option.bind_some]
  cases decide (150 ≤ mn)
  rotate_left
  · exact ⟨false, rfl, by simp⟩
  simp only [cond_false]
  rw [m31_eq hp]
  cases ho : okProb p
  · exact ⟨true, rfl, fun _ => ⟨hs, by simp⟩⟩
  simp only [cond_true, Option.bind_some, ne_eq, not_true_eq_false, decide_false, cond_false]
  rw [m32_eq hp ho hs, Option.bind_some]
  refine ⟨_, rfl, fun h => ⟨hs, fun _ => ?_⟩⟩
  have := of_decide_eq_true h; omega
end Go.Fx
/- Chapter 32: the places that a way breaks, as maps; proofs: which variables cannot keep all capacities. -/
set_option linter.unusedSimpArgs false
set_option linter.unusedVariables false
set_option maxRecDepth 100000
namespace Go.Fx
open Go Go.RowKit
theorem klt_pb (a b : XPlace) : klt a b = pb a b := by
  show lexLt [a.leaf, a.cell] [b.leaf, b.cell] = _
  unfold pb
  simp [lexLt]
abbrev PB := List (XPlace × Bool)
/-- the places that a way breaks, as a map -/
def badW (p : XProblem) (w : List (XVariable × XChoice)) : PB := (overL p w).map fun x => (x, true)
theorem badW_key {p : XProblem} {w : List (XVariable × XChoice)} : (badW p w).map (·.1) = overL p w := by
  unfold badW; rw [List.map_map]; exact List.map_id' _
theorem badW_ris (p : XProblem) (w : List (XVariable × XChoice)) : Ris (badW p w) := by
  unfold badW Ris
  rw [List.pairwise_map, overL_filter]
  exact ((allPl_rise p).filter _).imp fun h => by rw [klt_pb]; exact h
theorem badW_get (p : XProblem) (w : List (XVariable × XChoice)) (x : XPlace) : mget (badW p w) x = if x ∈ overL p w then some true else none := by
  by_cases h : x ∈ overL p w
  · rw [if_pos h]; exact mget_of (badW_ris p w) (List.mem_map.2 ⟨x, h, rfl⟩)
  · rw [if_neg h]
    cases hg : mget (badW p w) x with
    | none => rfl
    | some b =>
      obtain ⟨y, hy, e⟩ := List.mem_map.1 (mget_some hg)
      obtain ⟨rfl, _⟩ := Prod.mk.inj e
      exact absurd hy h
/-- what is taken is taken of places that are there -/
theorem dem_place {p : XProblem} (hk : Prob p) {x : XPlace} (hx : x ∉ allPl p) : ∀ {w : List (XVariable × XChoice)}, (∀ vc ∈ w, vc.1 ∈ p.variables ∧ vc.2 ∈ vc.1.choices) → dem p w x = 0
  | [], _ => rfl
  | vc :: w, h => by
    have ih := dem_place hk hx (w := w) fun vc hvc => h vc (List.mem_cons_of_mem _ hvc)
    obtain ⟨h1, h2⟩ := h vc (List.mem_cons_self ..)
    have : takes p x vc = 0 := by
      unfold takes
      by_cases hl : x.leaf ∈ vc.1.leaves
      · rw [if_pos hl]
        have hlf := hk.leaf _ h1 _ hl
        unfold useS
        have : ∀ us : List XUse, (∀ u ∈ us, u.cell ∈ p.cells) → (us.map fun u => if ix p.cells u.cell = x.cell then u.places else 0).sum = 0 := by
          intro us
          induction us with
          | nil => intro _; rfl
          | cons u us ihu =>
            intro hu
            rw [List.map_cons, List.sum_cons, ihu fun u' h' => hu u' (List.mem_cons_of_mem _ h')]
            obtain ⟨k, e1, e2⟩ := ix_mem (hu u (List.mem_cons_self ..))
            have hkl : k < p.cells.length := (List.getElem?_eq_some_iff.1 e2).1
            have : ¬ ix p.cells u.cell = x.cell := fun e => hx (mem_allPl.2 ⟨hlf, by omega, by omega⟩)
            rw [if_neg this]; rfl
        exact this _ fun u hu => (hk.use _ h1 _ h2 u hu).1
      · rw [if_neg hl]
    simp only [dem, List.map_cons, List.sum_cons] at ih ⊢
    omega
theorem over_iff {p : XProblem} (hk : Prob p) {w : List (XVariable × XChoice)} (hw : ∀ vc ∈ w, vc.1 ∈ p.variables ∧ vc.2 ∈ vc.1.choices) (x : XPlace) : x ∈ overL p w ↔ capP p x < dem p w x := by
  rw [overL_mem]
  refine ⟨fun h => h.2, fun h => ⟨?_, h⟩⟩
  by_cases hx : x ∈ allPl p
  · exact hx
  · have := dem_place hk hx hw; have := cap_nonneg hk x; omega
theorem badW_eq {p : XProblem} (hk : Prob p) {V : List Int} (hV : ∀ i ∈ V, 0 ≤ i ∧ i < (p.variables.length : Int)) : ∀ w ∈ ways (pairsOf p V), ∀ e, Ris e → (∀ x, vl e x = dem p w x) → badW p w = badL (capP p) e := by
  intro w hw e he hx
  refine mget_ext (badW_ris p w) (badL_ris _ he) fun x => ?_
  rw [badW_get, badL_get _ (cap_nonneg hk) he, hx]
  have := over_iff hk (mem_pairs hV hw) x
  by_cases h : x ∈ overL p w
  · rw [if_pos h, if_pos (this.1 h)]
  · rw [if_neg h, if_neg fun h' => h (this.2 h')]
section
variable {R : Type} [DecidableEq R]
/-- all keys of a map are put into another one, in whatever order -/
theorem put_all {b : (PB → Option R) → XPlace × Bool → PB → Option R} {K : PB → Option R} (hb : ∀ sf q m, b sf q m = sf (mput m q.1 true)) {bad m : PB} (hm : Ris m) {R0 : Option R}
    (hK : ∀ m', Ris m' → (∀ x, mget m' x = if x ∈ bad.map (·.1) then some true else mget m x) → K m' = R0) : mrng1 b K bad m = R0 := by
  unfold mrng1
  refine mrng_inv (fun rest m' => Ris m' ∧ (∀ q ∈ rest, q ∈ bad) ∧ ∀ x, (x ∈ bad.map (·.1) → x ∈ rest.map (·.1) ∨ mget m' x = some true) ∧ (x ∉ bad.map (·.1) → mget m' x = mget m x)) R0 ?_ ?_ bad m ⟨hm, fun q h => h, fun x => ⟨.inl, fun _ => rfl⟩⟩
  · rintro m' ⟨h1, _, h3⟩
    refine hK m' h1 fun x => ?_
    by_cases hx : x ∈ bad.map (·.1)
    · rw [if_pos hx]; exact ((h3 x).1 hx).resolve_left (by simp)
    · rw [if_neg hx]; exact (h3 x).2 hx
  · rintro r1 r2 q m' sf ⟨h1, h2, h3⟩ ih
    rw [hb]
    refine ih _ ⟨mput_ris h1 _ _, fun q' hq => h2 q' ?_, fun x => ⟨fun hx => ?_, fun hx => ?_⟩⟩
    · rcases List.mem_append.1 hq with h | h
      · exact List.mem_append.2 (.inl h)
      · exact List.mem_append.2 (.inr (List.mem_cons_of_mem _ h))
    · rw [mget_put]
      by_cases e : q.1 = x
      · right; rw [if_pos e]
      · rw [if_neg e]
        rcases (h3 x).1 hx with h | h
        · left
          simp only [List.map_append, List.map_cons, List.mem_append, List.mem_cons] at h ⊢
          rcases h with h | h | h
          · exact .inl h
          · exact absurd h.symm e
          · exact .inr h
        · exact .inr h
    · rw [mget_put]
      have : q.1 ≠ x := fun e => hx (by rw [← e]; exact List.mem_map.2 ⟨q, h2 q (by simp), rfl⟩)
      rw [if_neg this]; exact (h3 x).2 hx
end
theorem m67_eq {p : XProblem} (hs : Small p) (w : List (XVariable × XChoice)) (b : Bool) (V : List Int) (bs : List PB) (hb : bs.length ≤ 1000000) :
    m67_reason_table__proofs_1 (badW p w) b ⟨V, bs⟩ = some (if overL p w ≠ [] then (true, true, ⟨V, bs ++ [badW p w]⟩) else (false, false, ⟨V, bs⟩)) := by
  have hl : (badW p w).length = (overL p w).length := by unfold badW; rw [List.length_map]
  have hl2 : (overL p w).length ≤ 48 := by rw [← overW_fst, List.length_map]; exact overW_len hs w
  unfold m67_reason_table__proofs_1
  rw [ck_eq (by omega)]
  by_cases h : overL p w = []
  · have h0 : (badW p w).length = 0 := by rw [hl, h]; rfl
    rw [if_neg (by simp [h]), h0]; rfl
  · have h0 : 0 < (badW p w).length := by rw [hl]; exact List.length_pos_iff.2 h
    rw [if_pos h, decide_eq_true (show (0 : Int) < ((badW p w).length : Int) by omega), cond_true]
    refine put_all (fun sf q m => rfl) List.Pairwise.nil fun m' h1 h2 => ?_
    have e : m' = badW p w := mget_ext h1 (badW_ris p w) fun x => by
      rw [h2, badW_get, badW_key]; rfl
    rw [m67_reason_table__proofs_1_K0, ck_eq (by simp only [List.length_singleton]; omega), decide_eq_true (show (0 : Int) < ((badW p w).length : Int) by omega), e]
/-- all ways break some place -/
def okV (p : XProblem) (V : List Int) : Bool := (ways (pairsOf p V)).all fun w => decide (overL p w ≠ [])
def proofOf (p : XProblem) (V : List Int) : XProof := ⟨V, (ways (pairsOf p V)).map (badW p)⟩
theorem run_all {p : XProblem} (hs : Small p) (V : List Int) : ∀ (L : List (List (XVariable × XChoice))) (bs : List PB), bs.length + L.length ≤ 1000000 → (L.all fun w => decide (overL p w ≠ [])) = true →
    runB (fun xs s => m67_reason_table__proofs_1 xs s.1 s.2) (L.map (badW p)) (true, (⟨V, bs⟩ : XProof)) = some (true, (true, ⟨V, bs ++ L.map (badW p)⟩))
  | [], bs, _, _ => by simp [runB]
  | w :: L, bs, hl, h => by
    rw [List.all_cons, Bool.and_eq_true] at h
    simp only [List.length_cons] at hl
    rw [List.map_cons, runB]
    simp only
    rw [m67_eq hs w true V bs (by omega), if_pos (of_decide_eq_true h.1)]
    simp only [Option.bind_some, cond_true]
    rw [run_all hs V L _ (by simp; omega) h.2]; simp
theorem run_not {p : XProblem} (hs : Small p) (V : List Int) : ∀ (L : List (List (XVariable × XChoice))) (b : Bool) (bs : List PB), bs.length + L.length ≤ 1000000 → (L.all fun w => decide (overL p w ≠ [])) = false →
    ∃ bs', runB (fun xs s => m67_reason_table__proofs_1 xs s.1 s.2) (L.map (badW p)) (b, (⟨V, bs⟩ : XProof)) = some (false, (false, ⟨V, bs'⟩))
  | [], b, bs, _, h => by cases h
  | w :: L, b, bs, hl, h => by
    rw [List.all_cons] at h
    simp only [List.length_cons] at hl
    rw [List.map_cons, runB]
    simp only
    rw [m67_eq hs w b V bs (by omega)]
    by_cases ho : overL p w ≠ []
    · rw [if_pos ho, Option.bind_some]
      simp only [cond_true]
      rw [decide_eq_true ho, Bool.true_and] at h
      exact run_not hs V L _ _ (by simp; omega) h
    · rw [if_neg ho, Option.bind_some]
      exact ⟨bs, rfl⟩
theorem ways_len {p : XProblem} (hs : Small p) : ∀ (V : List Int), (∀ i ∈ V, 0 ≤ i ∧ i < (p.variables.length : Int)) → (ways (pairsOf p V)).length ≤ 8 ^ V.length
  | [], _ => by simp [pairsOf, ways]
  | i :: V, h => by
    have ih := ways_len hs V fun j hj => h j (List.mem_cons_of_mem _ hj)
    have hi := h i (List.mem_cons_self ..)
    have hm : p.variables.getD i.toNat default ∈ p.variables := by
      rw [getD_of (List.getElem?_eq_getElem (show i.toNat < p.variables.length by omega))]; exact List.getElem_mem _
    have hc := (hs.var _ hm).2.1
    simp only [pairsOf, List.map_cons, ways, List.length_flatMap, List.length_map, List.map_map] at ih ⊢
    have : ∀ t : List XChoice, (t.map fun _ => (ways (V.map fun i => (p.variables.getD i.toNat default).choices.map fun c => (p.variables.getD i.toNat default, c))).length).sum ≤ t.length * 8 ^ V.length := by
      intro t
      induction t with
      | nil => simp
      | cons c t iht => simp only [List.map_cons, List.sum_cons, List.length_cons, Nat.add_mul, Nat.one_mul]; omega
    have h8 := this (p.variables.getD i.toNat default).choices
    have h9 : (p.variables.getD i.toNat default).choices.length * 8 ^ V.length ≤ 8 * 8 ^ V.length := Nat.mul_le_mul_right _ hc
    rw [List.length_cons, Nat.pow_succ, Nat.mul_comm (8 ^ V.length) 8]
    exact Nat.le_trans h8 h9
theorem m43_eq {p : XProblem} (hp : smXProblem p) (hk : Prob p) (hs : Small p) (k : Nat) (hk1 : k ≤ 16) :
    m43_reason_table__proofs ⟨p, tabU p⟩ (k : Int) = some (((combs k (rng 0 p.variables.length)).filter (okV p)).map (proofOf p)) := by
  have hv := hs.vars
  unfold m43_reason_table__proofs
  simp only
  rw [m45_eq p.variables.length k (by omega) (by omega), Option.bind_some]
  simp only [jn_eq]
  have hcl := combs_len k (rng 0 p.variables.length)
  rw [rng_len] at hcl
  have h6 : 2 ^ p.variables.length ≤ 2 ^ 6 := Nat.pow_le_pow_right (by omega) hv
  have main : ∀ (L : List (List Int)) (s : List XProof), (∀ V ∈ L, V ∈ combs k (rng 0 p.variables.length)) → s.length + L.length ≤ 1000 →
      rng1 (m43_reason_table__proofs_B0 ⟨p, tabU p⟩) (fun v_1 => some v_1) L s = some (s ++ (L.filter (okV p)).map (proofOf p)) := by
    intro L
    induction L with
    | nil => intro s _ _; rw [rng1_nil]; simp
    | cons V L ih =>
      intro s hL hsl
      simp only [List.length_cons] at hsl
      obtain ⟨q1, q2⟩ := comb_idx (hL V (List.mem_cons_self ..))
      have hVi : ∀ i ∈ V, 0 ≤ i ∧ i < (p.variables.length : Int) := fun i hi => by have := q2 i hi; omega
      have hVl : V.length ≤ 6 := by
        have := (mem_combs.1 (hL V (List.mem_cons_self ..))).1.length_le
        rw [rng_len] at this; omega
      have hwl : (ways (pairsOf p V)).length ≤ 262144 := by
        have h1 := ways_len hs V hVi
        have h2 : 8 ^ V.length ≤ 8 ^ 6 := Nat.pow_le_pow_right (by omega) hVl
        have : (8 : Nat) ^ 6 = 262144 := by decide
        omega
      rw [rng1_cons, m43_reason_table__proofs_B0, List.filter_cons]
      cases ho : okV p V
      · obtain ⟨bs', hr⟩ := run_not hs V (ways (pairsOf p V)) true [] (by simp; omega) ho
        rw [broken_eq hk hs (by omega) hVi _ (badW_eq hk hVi) hr, Option.bind_some]
        simp only [cond_false, Bool.false_eq_true, if_false]
        exact ih s (fun V h => hL V (List.mem_cons_of_mem _ h)) (by omega)
      · have hr := run_all hs V (ways (pairsOf p V)) [] (by simp; omega) ho
        rw [broken_eq hk hs (by omega) hVi _ (badW_eq hk hVi) hr, Option.bind_some]
        simp only [cond_true, if_true]
        rw [ck_eq (by simp only [List.length_singleton]; omega), ih _ (fun V h => hL V (List.mem_cons_of_mem _ h)) (by simp; omega)]
        simp [proofOf]
  rw [main _ [] (fun V h => h) (by simp; omega)]; simp
end Go.Fx
/- Chapter 32: what a proof breaks, and what hits it. -/
set_option linter.unusedSimpArgs false
set_option linter.unusedVariables false
set_option maxRecDepth 100000
namespace Go.Fx
open Go Go.RowKit
theorem ltM_pb : ltM (fun x y => m55_reason_order x y) = pb := by
  funext a b
  unfold ltM
  simp only [m55_eq]
  have := cmpP_pb a b
  by_cases h : 0 ≤ cmpP a b
  · rw [decide_eq_true h] at this
    rw [decide_eq_false (by omega)]
    cases hb : pb a b
    · rfl
    · rw [hb] at this; cases this
  · rw [decide_eq_false h] at this
    rw [decide_eq_true (by omega)]
    cases hb : pb a b
    · rw [hb] at this; cases this
    · rfl
theorem pb_total (l : List XPlace) : TotalOn pb l where
  irr := fun x _ => by simpa using pb_irrefl x
  tot := fun x _ y _ h1 h2 => by
    by_cases e : x = y
    · exact e
    · have := pb_tri (by simp [h1]) e; rw [h2] at this; cases this
  tr := fun x _ y _ z _ h1 h2 => pb_trans _ _ _ h1 h2
theorem sort_pb {l R : List XPlace} (hp : l.Perm R) (hR : R.Pairwise fun a b => pb a b = true) : sortM (fun x y => m55_reason_order x y) l = some R := by
  unfold sortM
  have ho : okSort (fun x y => m55_reason_order x y) l = true := by
    rw [okSort_iff, ltM_pb]; exact ⟨pb_total l, fun x _ y _ => ⟨_, m55_eq x y⟩⟩
  rw [ho, cond_true, ltM_pb, ← isortM_unique (pb_total l) hp.symm]
  refine hR.imp fun {a b} h => ?_
  cases hb : pb b a
  · rfl
  · exact absurd (pb_trans _ _ _ h hb) (pb_irrefl a)
theorem relV_len {p : XProblem} (hs : Small p) (V : List Int) : (relV p V).length ≤ 48 := by
  have := List.length_filter_le (fun x => (ways (pairsOf p V)).any fun w => decide (capP p x < dem p w x)) (allPl p)
  have h2 := allPl_len hs
  unfold relV; omega
theorem m44_eq {p : XProblem} (hk : Prob p) (hs : Small p) {V : List Int} (hV : ∀ i ∈ V, 0 ≤ i ∧ i < (p.variables.length : Int)) (hVl : V.length ≤ 6) : m44_reason_proof__places (proofOf p V) = some (relV p V) := by
  unfold m44_reason_proof__places
  have hwl : ((proofOf p V).bad).length ≤ 262144 := by
    show ((ways (pairsOf p V)).map (badW p)).length ≤ _
    rw [List.length_map]
    have h1 := ways_len hs V hV
    have h2 : 8 ^ V.length ≤ 8 ^ 6 := Nat.pow_le_pow_right (by omega) hVl
    have : (8 : Nat) ^ 6 = 262144 := by decide
    omega
  refine up_listA (B := m44_reason_proof__places_B0 (proofOf p V)) (fun i (m : PB) => Ris m ∧ ∀ x, mget m x = if (((proofOf p V).bad.take i).any fun B => decide (x ∈ B.map (·.1))) = true then some true else none) (fun _ _ _ => some (relV p V)) (proofOf p V).bad (by omega) ?_ ?_ (by omega) ⟨List.Pairwise.nil, fun x => by simp [mget]⟩
  · rintro sf m ⟨h1, h2⟩
    rw [List.take_length] at h2
    have hkey : m.map (·.1) = relV p V := by
      refine rise_eq ?_ (relV_rise p V) fun x => ?_
      · rw [List.pairwise_map]; exact h1.imp fun h => by rw [← klt_pb]; exact h
      · have hx := h2 x
        rw [relV_mem]
        constructor
        · intro h
          obtain ⟨q, hq, rfl⟩ := List.mem_map.1 h
          rw [mget_of h1 (show (q.1, q.2) ∈ m from hq)] at hx
          split at hx
          · rename_i ha
            obtain ⟨B, hB, hx2⟩ := List.any_eq_true.1 ha
            obtain ⟨w, hw, rfl⟩ := List.mem_map.1 hB
            have := of_decide_eq_true hx2
            rw [badW_key] at this
            have := overL_mem.1 this
            exact ⟨this.1, w, hw, this.2⟩
          · cases hx
        · rintro ⟨h3, w, hw, h4⟩
          rw [if_pos] at hx
          · exact List.mem_map.2 ⟨_, mget_some hx, rfl⟩
          · refine List.any_eq_true.2 ⟨badW p w, List.mem_map.2 ⟨w, hw, rfl⟩, decide_eq_true ?_⟩
            rw [badW_key]; exact overL_mem.2 ⟨h3, h4⟩
    rw [m44_reason_proof__places_B0, ltE, cond_false]
    unfold mrng1
    refine mrng_inv (fun rest l => (l ++ rest.map (·.1)).Perm (relV p V)) _ ?_ ?_ m [] (by rw [← hkey]; exact List.Perm.refl _)
    · intro l hl
      rw [List.map_nil, List.append_nil] at hl
      have := hl.length_eq; have := relV_len hs V
      rw [m44_reason_proof__places_K2, sort_pb hl (relV_rise p V), Option.bind_some, ck_eq (by omega)]
    · intro r1 r2 q l sf' hl ih
      have hll := hl.length_eq; have := relV_len hs V
      rw [List.length_append] at hll
      rw [m44_reason_proof__places_B2, ck_eq (by simp only [List.length_singleton]; omega)]
      refine ih _ (List.Perm.trans ?_ hl)
      rw [List.append_assoc, List.map_append, List.map_append, List.map_cons]
      refine List.Perm.append_left l ?_
      exact (List.perm_middle (a := q.1) (l₁ := r1.map (·.1)) (l₂ := r2.map (·.1))).symm
  · rintro sf i m B t a1 a2 a3 ⟨h1, h2⟩ ih
    rw [m44_reason_proof__places_B0, ltBd a1, cond_true, ck_eq (by omega), Int.toNat_natCast, getD_of a2]
    refine put_all (fun sf q m => rfl) h1 fun m' g1 g2 => ?_
    rw [m44_reason_proof__places_K1, a3]
    refine ih m' ⟨g1, fun x => ?_⟩
    rw [g2, h2, List.take_add_one, a2, List.any_append]
    by_cases hB : x ∈ B.map (·.1)
    · rw [if_pos hB, if_pos (by simp only [Option.toList_some, List.any_cons, decide_eq_true hB, Bool.true_or, Bool.or_true])]
    · rw [if_neg hB]; simp only [Option.toList_some, List.any_cons, List.any_nil, decide_eq_false hB, Bool.or_false]
theorem m46_eq {p : XProblem} (hk : Prob p) (hs : Small p) {V : List Int} (hV : ∀ i ∈ V, 0 ≤ i ∧ i < (p.variables.length : Int)) (hVl : V.length ≤ 6) {P : List XPlace} (hP : P.length < 9223372036854775807) : m46_reason_proof__hits (proofOf p V) P = some (provesB p ⟨V, P⟩) := by
  unfold m46_reason_proof__hits
  have hwl : ((proofOf p V).bad).length ≤ 262144 := by
    show ((ways (pairsOf p V)).map (badW p)).length ≤ _
    rw [List.length_map]
    have h1 := ways_len hs V hV
    have h2 : 8 ^ V.length ≤ 8 ^ 6 := Nat.pow_le_pow_right (by omega) hVl
    have : (8 : Nat) ^ 6 = 262144 := by decide
    omega
  refine (up_list0 (B := m46_reason_proof__hits_B0 (proofOf p V) P) (fun t => some (t.all fun B => P.any fun y => (mget B y).getD false)) (proofOf p V).bad (by omega) ?_ ?_ (by omega)).trans ?_
  · intro sf; rw [m46_reason_proof__hits_B0, ltE, cond_false]; rfl
  · intro sf i B t a1 a2 a3 ih
    rw [m46_reason_proof__hits_B0, ltBd a1, cond_true, ck_eq (by omega), Int.toNat_natCast, getD_of a2, m77_any P hP (fun x37 => m72_reason_proof__hits_1 x37 B) (fun y => (mget B y).getD false) (fun x _ => rfl), Option.bind_some, a3, ih, List.all_cons]
    cases P.any fun y => (mget B y).getD false <;> rfl
  · congr 1
    show (((ways (pairsOf p V)).map (badW p)).all fun B => P.any fun y => (mget B y).getD false) = (ways (pairsOf p V)).all fun w => P.any fun x => decide (capP p x < dem p w x)
    rw [List.all_map, Bool.eq_iff_iff, List.all_eq_true, List.all_eq_true]
    have key : ∀ w ∈ ways (pairsOf p V), (P.any fun y => (mget (badW p w) y).getD false) = P.any fun x => decide (capP p x < dem p w x) := by
      intro w hw
      congr 1; funext y
      rw [badW_get]
      have := over_iff hk (mem_pairs hV hw) y
      by_cases h : y ∈ overL p w
      · rw [if_pos h, decide_eq_true (this.1 h)]; rfl
      · rw [if_neg h, decide_eq_false fun h' => h (this.2 h')]; rfl
    constructor
    · intro h w hw; rw [← key w hw]; exact h w hw
    · intro h w hw; simp only [Function.comp]; rw [key w hw]; exact h w hw
/-- what some choices of some variables break, some solution breaks -/
theorem way_rel {p : XProblem} (hk : Prob p) (hs : Small p) {V : List Int} (hV : V.Sublist (rng 0 p.variables.length)) {w : List (XVariable × XChoice)} (hw : w ∈ ways (pairsOf p V)) {x : XPlace} (hx : capP p x < dem p w x) : x ∈ rel p := by
  have hn : (rng 0 p.variables.length).Nodup := (rng_rise 0 p.variables.length).imp fun h => by omega
  have hin : ∀ i ∈ rng 0 p.variables.length, 0 ≤ i ∧ i < (p.variables.length : Int) := fun i hi => by have := rng_mem.1 hi; omega
  have hVi : ∀ i ∈ V, 0 ≤ i ∧ i < (p.variables.length : Int) := fun i hi => hin i (hV.subset hi)
  have hpl : x ∈ allPl p := (overL_mem.1 ((over_iff hk (mem_pairs hVi hw) x).2 hx)).1
  obtain ⟨f, h1, rfl⟩ := (ways_fun (hn.sublist hV)).1 hw
  let g : Int → XChoice := fun i => if i ∈ V then f i else (varOf p i).choices.getD 0 default
  have hg : ∀ i ∈ rng 0 p.variables.length, g i ∈ (varOf p i).choices := by
    intro i hi
    show (if i ∈ V then f i else (varOf p i).choices.getD 0 default) ∈ _
    by_cases h : i ∈ V
    · rw [if_pos h]; exact h1 i h
    · rw [if_neg h]
      have := hin i hi
      have hm : varOf p i ∈ p.variables := by
        unfold varOf; rw [getD_of (List.getElem?_eq_getElem (show i.toNat < p.variables.length by omega))]; exact List.getElem_mem _
      have := hk.ch _ hm
      rw [getD_of (List.getElem?_eq_getElem (show 0 < (varOf p i).choices.length by omega))]; exact List.getElem_mem _
  have hd := demF_sub (p := p) (f := g) (x := x) hV fun i hi => demF_nonneg hk hs (hin i hi) (hg i hi) x
  have he : demF p g V x = dem p (V.map fun i => (varOf p i, f i)) x := by
    rw [dem_demF]; unfold demF
    congr 1
    refine List.map_congr_left fun i hi => ?_
    show takes p x (varOf p i, if i ∈ V then f i else _) = _
    rw [if_pos hi]
  refine relV_mem.2 ⟨hpl, _, (ways_fun hn).2 ⟨g, hg, rfl⟩, ?_⟩
  rw [dem_demF]; omega
theorem okV_eq {p : XProblem} (hk : Prob p) (hs : Small p) {V : List Int} (hV : V.Sublist (rng 0 p.variables.length)) : okV p V = provesB p ⟨V, rel p⟩ := by
  have hVi : ∀ i ∈ V, 0 ≤ i ∧ i < (p.variables.length : Int) := fun i hi => by have := rng_mem.1 (hV.subset hi); omega
  unfold okV provesB
  rw [Bool.eq_iff_iff, List.all_eq_true, List.all_eq_true]
  have key : ∀ w ∈ ways (pairsOf p V), (overL p w ≠ [] ↔ ∃ x ∈ rel p, capP p x < dem p w x) := by
    intro w hw
    constructor
    · intro h
      obtain ⟨x, hx⟩ := List.exists_mem_of_ne_nil _ h
      have := (overL_mem.1 hx).2
      exact ⟨x, way_rel hk hs hV hw this, this⟩
    · rintro ⟨x, _, hx⟩ h
      have := (over_iff hk (mem_pairs hVi hw) x).2 hx
      rw [h] at this; cases this
  constructor
  · intro h w hw
    obtain ⟨x, h1, h2⟩ := (key w hw).1 (of_decide_eq_true (h w hw))
    exact List.any_eq_true.2 ⟨x, h1, decide_eq_true h2⟩
  · intro h w hw
    obtain ⟨x, h1, h2⟩ := List.any_eq_true.1 (h w hw)
    exact decide_eq_true ((key w hw).2 ⟨x, h1, of_decide_eq_true h2⟩)
theorem relV_filter {p : XProblem} (hk : Prob p) (hs : Small p) {V : List Int} (hV : V.Sublist (rng 0 p.variables.length)) : relV p V = (rel p).filter fun x => (ways (pairsOf p V)).any fun w => decide (capP p x < dem p w x) := by
  refine rise_eq (relV_rise p V) ((relV_rise p _).filter _) fun x => ?_
  rw [relV_mem, List.mem_filter, List.any_eq_true]
  constructor
  · rintro ⟨h1, w, hw, h2⟩
    exact ⟨way_rel hk hs hV hw h2, w, hw, decide_eq_true h2⟩
  · rintro ⟨h1, w, hw, h2⟩
    exact ⟨(relV_mem.1 h1).1, w, hw, of_decide_eq_true h2⟩
end Go.Fx
namespace Go.Fx
open Go Go.RowKit Go.Proofs
end Go.Fx
/- Chapter 32: the smallest reason, said plainly; the reference's Smallest finds it. -/
set_option linter.unusedSimpArgs false
set_option linter.unusedVariables false
set_option maxRecDepth 100000
namespace Go.Fx
open Go Go.RowKit
/-- with variables V: the first m places that do -/
def hitV (p : XProblem) (m : Nat) (V : List Int) : Option XReason := ((combs m (rel p)).find? fun P => provesB p ⟨V, P⟩).map fun P => ⟨V, P⟩
/-- the lists of k variables that prove it with all places -/
def foundK (p : XProblem) (k : Nat) : List (List Int) := (combs k (rng 0 p.variables.length)).filter fun V => provesB p ⟨V, rel p⟩
def hitM (p : XProblem) (k m : Nat) : Option XReason := (foundK p k).findSome? (hitV p m)
def hitK (p : XProblem) (k : Nat) : Option XReason := (List.range' 1 (rel p).length).findSome? (hitM p k)
def smallP (p : XProblem) : Option XReason := (List.range' 1 p.variables.length).findSome? (hitK p)
def outR : Option XReason → XReason × Bool × Int
  | some r => (r, true, 0)
  | none => (⟨[], []⟩, false, 0)
section
variable {R β : Type}
/-- a loop from 1 to N that stops at what it finds -/
theorem up_find {B : (Int → Option R) → Int → Option R} (f : Nat → Option β) (g : β → R) (fin : Option R) (N : Nat) (hN : N < 1000000000)
    (hE : ∀ sf, B sf ((N : Int) + 1) = fin)
    (hS : ∀ sf (k : Nat), 1 ≤ k → k ≤ N → IntKind.i64.wrap ((k : Int) + 1) = (k : Int) + 1 → B sf (k : Int) = match f k with | some b => some (g b) | none => sf ((k : Int) + 1)) :
    ∀ fuel, N < fuel → loop1 B fuel 1 = match (List.range' 1 N).findSome? f with | some b => some (g b) | none => fin := by
  have main : ∀ (d k fuel : Nat), k + d = N + 1 → 1 ≤ k → d < fuel → loop1 B fuel (k : Int) = match (List.range' k d).findSome? f with | some b => some (g b) | none => fin := by
    intro d
    induction d with
    | zero =>
      intro k fuel h1 h2 h3
      obtain ⟨n, rfl⟩ : ∃ n, fuel = n + 1 := ⟨fuel - 1, by omega⟩
      rw [loop1_succ, show (k : Int) = (N : Int) + 1 by omega, hE]; rfl
    | succ d ih =>
      intro k fuel h1 h2 h3
      obtain ⟨n, rfl⟩ : ∃ n, fuel = n + 1 := ⟨fuel - 1, by omega⟩
      rw [loop1_succ, hS _ k h2 (by omega) (wrapS (by omega)), List.range'_succ, List.findSome?_cons]
      cases f k with
      | some b => rfl
      | none =>
        simp only
        have := ih (k + 1) n (by omega) (by omega) (by omega)
        rw [show ((k + 1 : Nat) : Int) = (k : Int) + 1 by omega] at this
        exact this
  intro fuel hf
  exact main N 1 fuel (by omega) (by omega) hf
end
theorem list_map_getD {α : Type} [Inhabited α] (l : List α) : (rng 0 l.length).map (fun i => l.getD i.toNat default) = l := by
  rw [rng_range, List.map_map]
  refine List.ext_getElem (by simp) fun i h1 h2 => ?_
  simp only [List.getElem_map, List.getElem_range, Function.comp, Int.zero_add, Int.toNat_natCast, getD_of (List.getElem?_eq_getElem h2)]
theorem combs_idx {α : Type} [Inhabited α] (m : Nat) (l : List α) : combs m l = (combs m (rng 0 l.length)).map (List.map fun i => l.getD i.toNat default) := by
  rw [← combs_map, list_map_getD]
end Go.Fx
/- Chapter 32: Smallest finds the same. -/
set_option linter.unusedSimpArgs false
set_option linter.unusedVariables false
set_option maxRecDepth 100000
namespace Go.Fx
open Go Go.RowKit
theorem find_congr {α : Type} {f g : α → Bool} : ∀ {l : List α}, (∀ x ∈ l, f x = g x) → l.find? f = l.find? g
  | [], _ => rfl
  | a :: l, h => by
    rw [List.find?_cons, List.find?_cons, h a (List.mem_cons_self ..), find_congr fun x hx => h x (List.mem_cons_of_mem _ hx)]
theorem ways_ne {p : XProblem} (hk : Prob p) : ∀ {V : List Int}, (∀ i ∈ V, 0 ≤ i ∧ i < (p.variables.length : Int)) → ∃ w, w ∈ ways (pairsOf p V)
  | [], _ => ⟨[], by simp [pairsOf, ways]⟩
  | i :: V, h => by
    obtain ⟨w, hw⟩ := ways_ne hk (V := V) fun j hj => h j (List.mem_cons_of_mem _ hj)
    have hi := h i (List.mem_cons_self ..)
    have hm : p.variables.getD i.toNat default ∈ p.variables := by
      rw [getD_of (List.getElem?_eq_getElem (show i.toNat < p.variables.length by omega))]; exact List.getElem_mem _
    have hc := hk.ch _ hm
    have h0 : (p.variables.getD i.toNat default).choices[0] ∈ (p.variables.getD i.toNat default).choices := List.getElem_mem (by omega)
    exact ⟨_ :: w, List.mem_flatMap.2 ⟨_, List.mem_map.2 ⟨_, h0, rfl⟩, List.mem_map.2 ⟨w, hw, rfl⟩⟩⟩
theorem sub_idx {p : XProblem} {V : List Int} (hV : V.Sublist (rng 0 p.variables.length)) : ∀ i ∈ V, 0 ≤ i ∧ i < (p.variables.length : Int) := fun i hi => by have := rng_mem.1 (hV.subset hi); omega
/-- places that are hit: some of them, of those that V breaks -/
theorem proves_few {p : XProblem} (hk : Prob p) (hs : Small p) {V : List Int} (hV : V.Sublist (rng 0 p.variables.length)) {P : List XPlace} (h : provesB p ⟨V, P⟩ = true) (q : XPlace → Bool) (hq : ∀ w ∈ ways (pairsOf p V), ∀ x, capP p x < dem p w x → q x = true) :
    provesB p ⟨V, P.filter q⟩ = true ∧ P.filter q ≠ [] := by
  unfold provesB at h ⊢
  rw [List.all_eq_true] at h
  have key : ∀ w ∈ ways (pairsOf p V), ∃ x ∈ P.filter q, capP p x < dem p w x := by
    intro w hw
    obtain ⟨x, h1, h2⟩ := List.any_eq_true.1 (h w hw)
    have h2 := of_decide_eq_true h2
    exact ⟨x, List.mem_filter.2 ⟨h1, hq w hw x h2⟩, h2⟩
  refine ⟨List.all_eq_true.2 fun w hw => ?_, fun e => ?_⟩
  · obtain ⟨x, h1, h2⟩ := key w hw
    exact List.any_eq_true.2 ⟨x, h1, decide_eq_true h2⟩
  · obtain ⟨w, hw⟩ := ways_ne hk (sub_idx hV)
    obtain ⟨x, h1, _⟩ := key w hw
    rw [e] at h1; cases h1
theorem hitV_some {p : XProblem} {V : List Int} {P : List XPlace} (hP : P.Sublist (rel p)) (h : provesB p ⟨V, P⟩ = true) : hitV p P.length V ≠ none := by
  unfold hitV
  intro e
  rw [Option.map_eq_none_iff, List.find?_eq_none] at e
  exact e P (mem_combs.2 ⟨hP, rfl⟩) h
theorem hit_rel {p : XProblem} (hk : Prob p) (hs : Small p) {V : List Int} (hV : V.Sublist (rng 0 p.variables.length)) {m : Nat} (h : ∀ m', 1 ≤ m' → m' < m → hitV p m' V = none) :
    (combs m (relV p V)).find? (fun P => provesB p ⟨V, P⟩) = (combs m (rel p)).find? fun P => provesB p ⟨V, P⟩ := by
  rw [relV_filter hk hs hV, combs_filter, List.find?_filter]
  refine find_congr fun P hP => ?_
  obtain ⟨p1, p2⟩ := mem_combs.1 hP
  cases hf : provesB p ⟨V, P⟩
  · simp
  · have hall : (P.all fun x => (ways (pairsOf p V)).any fun w => decide (capP p x < dem p w x)) = true := by
      obtain ⟨g1, g2⟩ := proves_few hk hs hV hf (fun x => (ways (pairsOf p V)).any fun w => decide (capP p x < dem p w x)) fun w hw x hx => List.any_eq_true.2 ⟨w, hw, decide_eq_true hx⟩
      have hsub := (List.filter_sublist (p := fun x => (ways (pairsOf p V)).any fun w => decide (capP p x < dem p w x)) (l := P))
      have hlen := hsub.length_le
      have hpos := List.length_pos_iff.2 g2
      rcases Nat.lt_or_ge (P.filter fun x => (ways (pairsOf p V)).any fun w => decide (capP p x < dem p w x)).length m with hlt | hge
      · exact absurd (h _ hpos hlt) (hitV_some (hsub.trans p1) g1)
      · have e := hsub.eq_of_length (by omega)
        rw [List.all_eq_true]
        intro x hx
        rw [← e] at hx
        exact (List.mem_filter.1 hx).2
    rw [hall]; rfl
theorem rel_proves {p : XProblem} (hk : Prob p) {V : List Int} (hV : V.Sublist (rng 0 p.variables.length)) (h : provesB p ⟨V, rel p⟩ = true) : 1 ≤ (rel p).length := by
  obtain ⟨w, hw⟩ := ways_ne hk (sub_idx hV)
  unfold provesB at h
  obtain ⟨x, h1, _⟩ := List.any_eq_true.1 (List.all_eq_true.1 h w hw)
  exact List.length_pos_of_mem h1
theorem found_mem {p : XProblem} {k : Nat} {V : List Int} : V ∈ foundK p k ↔ V.Sublist (rng 0 p.variables.length) ∧ V.length = k ∧ provesB p ⟨V, rel p⟩ = true := by
  unfold foundK; rw [List.mem_filter, mem_combs]
  exact ⟨fun h => ⟨h.1.1, h.1.2, h.2⟩, fun h => ⟨⟨h.1, h.2.1⟩, h.2.2⟩⟩
theorem hitK_some {p : XProblem} (hk : Prob p) {k : Nat} (h : foundK p k ≠ []) : ∃ r, hitK p k = some r := by
  obtain ⟨V, hV⟩ := List.exists_mem_of_ne_nil _ h
  obtain ⟨h1, h2, h3⟩ := found_mem.1 hV
  have hl := rel_proves hk h1 h3
  cases hh : hitK p k with
  | some r => exact ⟨r, rfl⟩
  | none =>
    unfold hitK hitM at hh
    rw [List.findSome?_eq_none_iff] at hh
    have := hh (rel p).length (by rw [List.mem_range'_1]; omega)
    rw [List.findSome?_eq_none_iff] at this
    exact absurd (this V hV) (hitV_some (List.Sublist.refl _) h3)
/-- what k262 and k260 stand for -/
abbrev kHit : List XPlace → Int → Bool → List Int → List XPlace → Option (XReason × Bool × Int) := fun (v_10 : List XPlace) (v_11 : Int) (v_12 : Bool) (v_13 : List Int) (v_14 : List XPlace) => some ((⟨v_13, v_14⟩ : XReason), v_12, v_11)
theorem m13_B4_eq {p : XProblem} (hk : Prob p) (hs : Small p) {pr : List XProof} {i : Nat} {V : List Int} (hi : pr[i]? = some (proofOf p V)) (hV : V.Sublist (rng 0 p.variables.length)) {Q : List XPlace} (hQ : Q.length ≤ 48) {t : List Int} (ht : ∀ x ∈ t, 0 ≤ x ∧ x < (Q.length : Int)) (htl : t.length ≤ 48) (sf : List XPlace → Int → Bool → List Int → List XPlace → Option (XReason × Bool × Int)) :
    loop3 (m13_reason_Smallest_B4 pr (i : Int) kHit 0 false [] [] sf t) (((t.length : Int) - 0).toNat + 1) ([] : List XPlace) 0 Q = bif provesB p ⟨V, t.map fun i => Q.getD i.toNat default⟩ then some (outR (some ⟨V, t.map fun i => Q.getD i.toNat default⟩)) else sf Q 0 false [] [] := by
  have hVl : V.length ≤ 6 := by have := hV.length_le; rw [rng_len] at this; have := hs.vars; omega
  refine up_list (L := fun n i' s => loop3 (m13_reason_Smallest_B4 pr (i : Int) kHit 0 false [] [] sf t) n s i' Q) (fun n (s : List XPlace) => s = (t.take n).map fun i => Q.getD i.toNat default) (fun _ _ _ => bif provesB p ⟨V, t.map fun i => Q.getD i.toNat default⟩ then some (outR (some ⟨V, t.map fun i => Q.getD i.toNat default⟩)) else sf Q 0 false [] []) t (by omega) ?_ ?_ (((t.length : Int) - 0).toNat + 1) [] (by omega) rfl
  · intro n s hI
    rw [List.take_length] at hI
    show loop3 _ (n + 1) _ _ _ = _
    rw [loop3_succ, m13_reason_Smallest_B4, ltE, cond_false, Int.toNat_natCast, getD_of hi, hI, m46_eq hk hs (sub_idx hV) hVl (by rw [List.length_map]; omega), Option.bind_some]
    rfl
  · intro n j s x t' b1 b2 b3 hI ih
    have hx := ht x (ge0 b2)
    have hsl : s.length ≤ 48 := by rw [hI, List.length_map, List.length_take]; omega
    show loop3 _ (n + 1) _ _ _ = _
    rw [loop3_succ, m13_reason_Smallest_B4]
    simp only [Int.toNat_natCast, getD_of b2, inBd b1, ltBd b1, ck_True, cond_true, b3]
    rw [ck_eq (by omega), ck_eq (by simp only [List.length_singleton]; omega)]
    exact ih _ (by rw [hI, List.take_add_one, b2]; simp)
theorem m13_rng {p : XProblem} (hk : Prob p) (hs : Small p) {pr : List XProof} {i : Nat} {V : List Int} (hi : pr[i]? = some (proofOf p V)) (hV : V.Sublist (rng 0 p.variables.length)) {Q : List XPlace} (hQ : Q.length ≤ 48) (kE : List XPlace → Int → Bool → List Int → List XPlace → Option (XReason × Bool × Int)) :
    ∀ (T : List (List Int)), (∀ t ∈ T, t.length ≤ 48 ∧ ∀ x ∈ t, 0 ≤ x ∧ x < (Q.length : Int)) →
    rng5 (m13_reason_Smallest_B3 pr (i : Int) kHit) kE T Q 0 false [] [] = match (T.map (List.map fun i => Q.getD i.toNat default)).find? (fun P => provesB p ⟨V, P⟩) with | some P => some (outR (some ⟨V, P⟩)) | none => kE Q 0 false [] []
  | [], _ => by rw [rng5_nil]; rfl
  | t :: T, h => by
    obtain ⟨h1, h2⟩ := h t (List.mem_cons_self ..)
    rw [rng5_cons, m13_reason_Smallest_B3, m13_B4_eq hk hs hi hV hQ h2 h1, m13_rng hk hs hi hV hQ kE T fun t' h' => h t' (List.mem_cons_of_mem _ h'), List.map_cons, List.find?_cons]
    cases provesB p ⟨V, t.map fun i => Q.getD i.toNat default⟩ <;> rfl
theorem m13_B1_eq {p : XProblem} (hk : Prob p) (hs : Small p) {k m : Nat} (hm1 : 1 ≤ m) (hm : m ≤ 48) (hno : ∀ m', 1 ≤ m' → m' < m → hitM p k m' = none) (sf : Int → Int → Bool → List Int → List XPlace → Option (XReason × Bool × Int)) :
    m13_reason_Smallest_B1 ((foundK p k).map (proofOf p)) sf (m : Int) 0 false [] [] = match hitM p k m with | some r => some (outR (some r)) | none => sf ((m : Int) + 1) 0 false [] [] := by
  have hv := hs.vars
  have hFl : (foundK p k).length ≤ 64 := by
    have hcl := combs_len k (rng 0 p.variables.length)
    rw [rng_len] at hcl
    have h6 : 2 ^ p.variables.length ≤ 2 ^ 6 := Nat.pow_le_pow_right (by omega) hv
    unfold foundK; have := List.length_filter_le (fun V => provesB p ⟨V, rel p⟩) (combs k (rng 0 p.variables.length)); omega
  rw [m13_reason_Smallest_B1]
  have hlen : ((foundK p k).map (proofOf p)).length = (foundK p k).length := List.length_map ..
  rw [hlen]
  refine Eq.trans (up_list (L := fun n i (_ : Unit) => loop5 (m13_reason_Smallest_B2 ((foundK p k).map (proofOf p)) (m : Int) sf) n i 0 false [] []) (fun _ _ => True) (fun _ t _ => match t.findSome? (hitV p m) with | some r => some (outR (some r)) | none => sf ((m : Int) + 1) 0 false [] []) (foundK p k) (by omega) ?_ ?_ (((foundK p k).length : Int) - 0).toNat.succ () (by omega) trivial) ?_
  · intro n _ _
    show loop5 _ (n + 1) _ _ _ _ _ = _
    rw [loop5_succ, m13_reason_Smallest_B2, hlen, ltE, cond_false, wrapS (by omega)]; rfl
  · intro n i _ V t a1 a2 a3 _ ih
    obtain ⟨hV, hVk, hVp⟩ := found_mem.1 (ge0 a2)
    have hVl : V.length ≤ 6 := by have := hV.length_le; rw [rng_len] at this; omega
    have hpi : ((foundK p k).map (proofOf p))[i]? = some (proofOf p V) := by rw [List.getElem?_map, a2]; rfl
    have hrl := relV_len hs V
    show loop5 _ (n + 1) _ _ _ _ _ = _
    rw [loop5_succ, m13_reason_Smallest_B2, hlen, ltBd a1, cond_true, ck_eq (by omega), Int.toNat_natCast, getD_of hpi, m44_eq hk hs (sub_idx hV) hVl, Option.bind_some, m45_eq _ _ (by omega) (by omega), Option.bind_some]
    simp only [jn_eq]
    have hT : ∀ t ∈ combs m (rng 0 (relV p V).length), t.length ≤ 48 ∧ ∀ x ∈ t, 0 ≤ x ∧ x < ((relV p V).length : Int) := by
      intro t ht
      obtain ⟨q1, q2⟩ := comb_idx ht
      exact ⟨by omega, fun x hx => by have := q2 x hx; omega⟩
    refine Eq.trans (m13_rng hk hs hpi hV hrl _ _ hT) ?_
    rw [← combs_idx, hit_rel hk hs hV (fun m' h1 h2 => by
      have := hno m' h1 h2
      unfold hitM at this
      rw [List.findSome?_eq_none_iff] at this
      exact this V (ge0 a2)), List.findSome?_cons]
    unfold hitV
    cases (combs m (rel p)).find? (fun P => provesB p ⟨V, P⟩) with
    | some P => rfl
    | none =>
      simp only [Option.map_none, a3]
      exact ih () trivial
  · unfold hitM
    cases (foundK p k).findSome? (hitV p m) <;> rfl
theorem m13_eq {p : XProblem} (hp : smXProblem p) (hs : Small p) (hL : okProb p = true → (rel p).length ≤ 6) : m13_reason_Smallest p = some (bif okProb p then outR (smallP p) else (⟨[], []⟩, false, 270)) := by
  obtain ⟨fu, hfu⟩ : ∃ n : Nat, n = 1000000 := ⟨_, rfl⟩
  have hv := hs.vars
  unfold m13_reason_Smallest
  rw [m12_eq hp]
  cases ho : okProb p
  · rfl
  have hL := hL ho
  have hk := Prob.of ho
  simp only [cond_true, Option.bind_some, ne_eq, not_true_eq_false, decide_false, cond_false]
  rw [decide_eq_false (by omega), cond_false, m42_eq hp hs hk, Option.bind_some, ← hfu]
  refine (up_find (hitK p) (fun r => outR (some r)) (some (outR none)) p.variables.length (by omega) ?_ ?_ fu (by omega)).trans ?_
  · intro sf; rw [m13_reason_Smallest_B0, decide_eq_false (by omega), cond_false]; rfl
  · intro sf k k1 k2 hw
    have hf : (combs k (rng 0 p.variables.length)).filter (okV p) = foundK p k := by
      unfold foundK
      refine List.filter_congr fun V hV => ?_
      exact okV_eq hk hs (mem_combs.1 hV).1
    rw [m13_reason_Smallest_B0, decide_eq_true (by omega), cond_true, hw, m43_eq hp hk hs k (by omega), Option.bind_some, hf, List.length_map]
    by_cases h0 : foundK p k = []
    · have hn : hitK p k = none := by
        unfold hitK
        rw [List.findSome?_eq_none_iff]
        intro m _
        unfold hitM; rw [h0]; rfl
      rw [hn, h0]; rfl
    · have hpos := List.length_pos_iff.2 h0
      rw [decide_eq_false (by omega), cond_false, ← hfu]
      obtain ⟨r, hr⟩ := hitK_some hk h0
      rw [hr]
      have main : ∀ (d m fuel : Nat), m + d = (rel p).length + 1 → 1 ≤ m → d < fuel → (∀ m', 1 ≤ m' → m' < m → hitM p k m' = none) → (List.range' m d).findSome? (hitM p k) = some r →
          loop5 (m13_reason_Smallest_B1 ((foundK p k).map (proofOf p))) fuel (m : Int) 0 false [] [] = some (outR (some r)) := by
        intro d
        induction d with
        | zero => intro m fuel _ _ _ _ h; cases h
        | succ d ih =>
          intro m fuel h1 h2 h3 h4 h5
          obtain ⟨n, rfl⟩ : ∃ n, fuel = n + 1 := ⟨fuel - 1, by omega⟩
          rw [loop5_succ, m13_B1_eq hk hs h2 (by omega) h4]
          rw [List.range'_succ, List.findSome?_cons] at h5
          cases hm : hitM p k m with
          | some r' => rw [hm] at h5; simp only [Option.some.injEq] at h5; subst h5; rfl
          | none =>
            rw [hm] at h5
            simp only at h5 ⊢
            have := ih (m + 1) n (by omega) (by omega) (by omega) (fun m' g1 g2 => by
              rcases Nat.lt_or_ge m' m with g | g
              · exact h4 m' g1 g
              · have : m' = m := by omega
                rw [this]; exact hm) h5
            rw [show ((m + 1 : Nat) : Int) = (m : Int) + 1 by omega] at this
            exact this
      exact main (rel p).length 1 fu (by omega) (by omega) (by omega) (fun m' h1 h2 => by omega) hr
  · unfold smallP
    cases (List.range' 1 p.variables.length).findSome? (hitK p) <;> rfl
end Go.Fx
/- Chapter 32: what is found first has no fewer before it. -/
set_option linter.unusedSimpArgs false
set_option linter.unusedVariables false
set_option maxRecDepth 100000
namespace Go.Fx
open Go Go.RowKit
theorem range_first {β : Type} {f : Nat → Option β} {b : β} : ∀ {d s : Nat}, (List.range' s d).findSome? f = some b → ∃ k, (s ≤ k ∧ k < s + d) ∧ f k = some b ∧ ∀ k', s ≤ k' → k' < k → f k' = none
  | 0, s, h => by cases h
  | d + 1, s, h => by
    rw [List.range'_succ, List.findSome?_cons] at h
    cases hf : f s with
    | some c =>
      rw [hf] at h
      exact ⟨s, by omega, by rw [hf]; exact h, fun k' h1 h2 => by omega⟩
    | none =>
      rw [hf] at h
      obtain ⟨k, h1, h2, h3⟩ := range_first h
      refine ⟨k, by omega, h2, fun k' g1 g2 => ?_⟩
      rcases Nat.lt_or_ge s k' with g | g
      · exact h3 k' (by omega) g2
      · have : k' = s := by omega
        rw [this]; exact hf
theorem find_some_mem {α β : Type} {f : α → Option β} : ∀ {l : List α} {b : β}, l.findSome? f = some b → ∃ a ∈ l, f a = some b
  | [], b, h => by cases h
  | a :: l, b, h => by
    rw [List.findSome?_cons] at h
    cases hf : f a with
    | some c => rw [hf] at h; exact ⟨a, List.mem_cons_self .., by rw [hf]; exact h⟩
    | none =>
      rw [hf] at h
      obtain ⟨x, h1, h2⟩ := find_some_mem (l := l) h
      exact ⟨x, List.mem_cons_of_mem _ h1, h2⟩
theorem small_min {p : XProblem} (hk : Prob p) {s : XReason} (h : smallP p = some s) : ∃ k m, (1 ≤ k ∧ k ≤ p.variables.length) ∧ (1 ≤ m ∧ m ≤ (rel p).length) ∧ s.variables ∈ foundK p k ∧ s.places ∈ combs m (rel p) ∧ provesB p s = true ∧
    (∀ k', 1 ≤ k' → k' < k → foundK p k' = []) ∧ ∀ m', 1 ≤ m' → m' < m → ∀ V ∈ foundK p k, hitV p m' V = none := by
  obtain ⟨k, hk1, h1, h2⟩ := range_first h
  unfold hitK at h1
  obtain ⟨m, hm1, h3, h4⟩ := range_first h1
  unfold hitM at h3
  obtain ⟨V, hV, h5⟩ := find_some_mem h3
  unfold hitV at h5
  cases hf : (combs m (rel p)).find? fun P => provesB p ⟨V, P⟩ with
  | none => rw [hf] at h5; cases h5
  | some P =>
    rw [hf] at h5
    simp only [Option.map_some, Option.some.injEq] at h5
    subst h5
    refine ⟨k, m, by omega, by omega, hV, List.mem_of_find?_eq_some hf, (by have := List.find?_some hf; simpa using this), fun k' g1 g2 => ?_, fun m' g1 g2 V' hV' => ?_⟩
    · cases hc : foundK p k' with
      | nil => rfl
      | cons a t =>
        obtain ⟨r, hr⟩ := hitK_some (p := p) hk (k := k') (by rw [hc]; simp)
        rw [h2 k' g1 g2] at hr; cases hr
    · have := h4 m' g1 g2
      unfold hitM at this
      rw [List.findSome?_eq_none_iff] at this
      exact this V' hV'
theorem small_none {p : XProblem} (hk : Prob p) (h : smallP p = none) {k : Nat} (h1 : 1 ≤ k) (h2 : k ≤ p.variables.length) : foundK p k = [] := by
  cases hc : foundK p k with
  | nil => rfl
  | cons a t =>
    obtain ⟨r, hr⟩ := hitK_some (p := p) hk (k := k) (by rw [hc]; simp)
    unfold smallP at h
    rw [List.findSome?_eq_none_iff] at h
    have := h k (by rw [List.mem_range'_1]; omega)
    rw [hr] at this; cases this
/-- no variables prove nothing -/
theorem none_proves {p : XProblem} (hk : Prob p) (P : List XPlace) : provesB p ⟨[], P⟩ = false := by
  unfold provesB
  simp only [pairsOf, List.map_nil, ways, List.all_cons, List.all_nil, Bool.and_true]
  rw [List.any_eq_false]
  intro x _
  have := cap_nonneg hk x
  simp [dem]; omega
/-- a reason that proves: its variables do with all places that matter -/
theorem proves_found {p : XProblem} (hk : Prob p) (hs : Small p) {V : List Int} {P : List XPlace} (hV : V.Sublist (rng 0 p.variables.length)) (h : provesB p ⟨V, P⟩ = true) : V ∈ foundK p V.length ∧ 1 ≤ V.length ∧ V.length ≤ p.variables.length := by
  have hl := hV.length_le
  rw [rng_len] at hl
  refine ⟨found_mem.2 ⟨hV, rfl, ?_⟩, ?_, hl⟩
  · unfold provesB at h ⊢
    rw [List.all_eq_true] at h ⊢
    intro w hw
    obtain ⟨x, h1, h2⟩ := List.any_eq_true.1 (h w hw)
    have h2' := of_decide_eq_true h2
    exact List.any_eq_true.2 ⟨x, way_rel hk hs hV hw h2', h2⟩
  · cases V with
    | nil => rw [none_proves hk] at h; cases h
    | cons a t => simp
/-- .. and some of its places that matter do -/
theorem proves_hit {p : XProblem} (hk : Prob p) (hs : Small p) {V : List Int} {P : List XPlace} (hV : V.Sublist (rng 0 p.variables.length)) (hP : P.Pairwise fun a b => pb a b = true) (h : provesB p ⟨V, P⟩ = true) : ∃ m, 1 ≤ m ∧ m ≤ P.length ∧ hitV p m V ≠ none := by
  obtain ⟨g1, g2⟩ := proves_few hk hs hV h (fun x => decide (x ∈ rel p)) fun w hw x hx => decide_eq_true (way_rel hk hs hV hw hx)
  have hsub : (P.filter fun x => decide (x ∈ rel p)).Sublist (rel p) :=
    rising_sub (lt := fun a b => pb a b = true) pb_trans pb_irrefl (relV_rise p _) (hP.filter _) fun x hx => of_decide_eq_true (List.mem_filter.1 hx).2
  exact ⟨_, List.length_pos_iff.2 g2, List.length_filter_le _ _, hitV_some hsub g1⟩
theorem reason_sub {p : XProblem} {r : XReason} (h : okReason p r = true) : r.variables.Sublist (rng 0 p.variables.length) ∧ r.places.Pairwise fun a b => pb a b = true := by
  obtain ⟨i1, i2, i3, i4⟩ := reason_idx h
  have hr := (adj_pairwise (lt := fun x y : Int => decide (x < y)) (by intro a b c; simp; omega) i2).imp fun {a b} h => (of_decide_eq_true h : a < b)
  exact ⟨rising_sub (lt := fun a b : Int => a < b) (fun a b c => by omega) (fun a => by omega) (rng_rise 0 _) hr fun x hx => rng_mem.2 (by have := i1 x hx; omega), adj_pairwise pb_trans i4⟩
end Go.Fx
/- ReasonFewest. -/
set_option linter.unusedSimpArgs false
set_option linter.unusedVariables false
set_option maxRecDepth 100000
namespace Go.Fx
open Go Go.RowKit
theorem fewest {p : XProblem} (hk : Prob p) (hs : Small p) {r : XReason} (h2 : okReason p r = true) (h3 : provesB p r = true) : ∃ s, smallP p = some s ∧ s.variables.length ≤ r.variables.length ∧ (s.variables.length = r.variables.length → s.places.length ≤ r.places.length) := by
  obtain ⟨hV, hP⟩ := reason_sub h2
  obtain ⟨f1, f2, f3⟩ := proves_found hk hs hV h3
  cases hc : smallP p with
  | none => rw [small_none hk hc f2 f3] at f1; cases f1
  | some s =>
    obtain ⟨k, m, hk1, hm1, g1, g2, g3, g4, g5⟩ := small_min hk hc
    have e1 := (found_mem.1 g1).2.1
    have e2 := (mem_combs.1 g2).2
    refine ⟨s, rfl, ?_, fun e => ?_⟩
    · rcases Nat.lt_or_ge r.variables.length k with g | g
      · rw [g4 _ f2 g] at f1; cases f1
      · omega
    · obtain ⟨m', q1, q2, q3⟩ := proves_hit hk hs hV hP h3
      rcases Nat.lt_or_ge m' m with g | g
      · refine absurd (g5 m' q1 g r.variables ?_) q3
        rw [show k = r.variables.length by omega]; exact f1
      · omega
theorem ReasonFewest_law (p : XProblem) (r : XReason) (hp : smXProblem p) (hr : smXReason r) : m8_overflightlaw32_ReasonFewest p r = some true := by
  unfold m8_overflightlaw32_ReasonFewest
  obtain ⟨b, hb, hS⟩ := m11_eq hp
  obtain ⟨b2, hb2, hS2⟩ := m19_eq r
  rw [sane32, hb, hb2]
  simp only [Option.bind_some, Bool.not_true, cond_false, jn_eq]
  cases b
  · rfl
  cases b2
  · rfl
  obtain ⟨hs, hL⟩ := hS rfl
  have hv := (hS2 rfl).1
  simp only [Bool.not_true, cond_false]
  rw [m17_eq hp hr hs hv]
  cases h1 : okProb p
  · rfl
  cases h2 : okReason p r
  · rfl
  cases h3 : provesB p r
  · rfl
  have hk := Prob.of h1
  simp only [cond_true, Option.bind_some, ne_eq, not_true_eq_false, decide_false, cond_false, Bool.not_true]
  obtain ⟨s, e1, e2, e3⟩ := fewest hk hs h2 h3
  rw [m13_eq hp hs hL, h1, e1]
  simp only [cond_true, outR, Option.bind_some, not_true_eq_false, decide_false, cond_false, Bool.not_true]
  rw [decide_eq_false (by omega), cond_false]
  by_cases hlt : s.variables.length < r.variables.length
  · rw [decide_eq_true (by omega)]; rfl
  · rw [decide_eq_false (by omega), cond_false, decide_eq_true]
    have := e3 (by omega); omega
end Go.Fx
namespace Go.Proofs.Ytijekcoafilmeaa.lawReasonFewest
open Go Go.Proofs Go.ChangeShapes Go.WideShapes Go.ChangeAt Go.RowKit Go.Fx
open Go.ChangeMaps (open_string shut_string)
set_option linter.unusedVariables false
set_option maxRecDepth 100000
theorem own : ownKnob Try.prog.godebug = none := by kernel_rfl
theorem laidOut : laidOutB Try.prog = true := by kernel_rfl
set_option maxRecDepth 100000 in
set_option maxHeartbeats 1000000 in
theorem lifted (os : Os) (started : os.Started) (H : Type) (enc : TypeId × Value → H) :
    ReturnsInHanded {} Try.checked os 8 .any (Rows.reasonFewestSpec.pre6 enc Try.prog Try.f8 Rows.reasonFewestRow.domain false) (Rows.reasonFewestSpec.post enc Try.prog Try.f8 false true false false) := by
  refine returnsInHanded_of_change_sized (C := Try.checked) own started (by kernel_rfl) Try.func8
    (ChangeSpec.witness6 (enc := enc) (C := Try.checked) false ⟨#[], #[.agg #[(.slice none 0 0), (.slice none 0 0), (.slice none 0 0)], .agg #[(.slice none 0 0), (.slice none 0 0)]], []⟩ 8 (by kernel_rfl) (by kernel_rfl) (by kernel_rfl) (by kernel_rfl)) ?_
  intro W base args ds gs before hval0 hW hcnd hsz _
  have hval : ∀ (j : Nat) t v, Try.f8.params[j]? = some t → args[j]? = some v → Value.okWide Try.prog W .any base t v := hval0
  have hW' := hW
  obtain ⟨p, q, hA0, hV, rfl, hfz, hnd⟩ := hW
  have hA : DataW.TrodAll enc Try.prog W 0 (fun _ => true) true Try.f8.params.toList args.toList ds p := hA0
  rw [Try.params8] at hA hval
  obtain ⟨v0, vs0, d0, ds0, p0, q0, hargs, rfl, rfl, h0, r0⟩ := trodAll_cons hA
  obtain ⟨v1, vs1, d1, ds1, p1, q1, rfl, rfl, rfl, h1, r1⟩ := trodAll_cons r0
  obtain ⟨rfl, rfl, rfl⟩ := trodAll_nil r1
  obtain rfl : args = #[v0, v1] := by cases args; simp_all
  obtain ⟨rfl, rfl⟩ := trodVars_none hV
  have k0 := h0
  have lt0 : ∀ x ∈ p0, x.block < W.heap.size := by obtain ⟨m, hm⟩ := k0; exact DataW.trod_lt m _ _ _ hm
  obtain ⟨fu0, hf0⟩ := h0
  obtain ⟨p, rr0, sm0⟩ := rd26.2 _ _ _ hf0
  replace sm0 := sm0 (fun n hn => by have := List.all_eq_true.1 hsz n (DataW.weights_mem_each (j := 0) (t := 26) rfl rfl n hn); simpa using this)
  obtain ⟨⟨cs0⟩, rfl, _⟩ := okWide_struct Try.underlying26 (hval 0 26 v0 rfl rfl)
  replace rr0 : rXProblem.rd W [] cs0 p := rr0
  obtain ⟨_, _, rfl, ⟨a_p_cells, c_p_cells, rfl, f_p_cells⟩, ⟨_, _, rfl, ⟨a_p_capacity, c_p_capacity, rfl, f_p_capacity⟩, ⟨a_p_variables, c_p_variables, rfl, f_p_variables⟩⟩⟩ := rr0
  have k1 := h1
  have lt1 : ∀ x ∈ p1, x.block < W.heap.size := by obtain ⟨m, hm⟩ := k1; exact DataW.trod_lt m _ _ _ hm
  obtain ⟨fu1, hf1⟩ := h1
  obtain ⟨r_, rr1, sm1⟩ := rd34.2 _ _ _ hf1
  replace sm1 := sm1 (fun n hn => by have := List.all_eq_true.1 hsz n (DataW.weights_mem_each (j := 1) (t := 34) rfl rfl n hn); simpa using this)
  obtain ⟨⟨cs1⟩, rfl, _⟩ := okWide_struct Try.underlying34 (hval 1 34 v1 rfl rfl)
  replace rr1 : rXReason.rd W [] cs1 r_ := rr1
  obtain ⟨_, _, rfl, ⟨a_r__variables, c_r__variables, rfl, f_r__variables⟩, ⟨a_r__places, c_r__places, rfl, f_r__places⟩⟩ := rr1
  have hm : m8_overflightlaw32_ReasonFewest p r_ = some true := ReasonFewest_law _ _ sm0 sm1
  have hc := Fn.calls (c8_overflightlaw32_ReasonFewest (p := p) (r_ := r_) (w := W) (O := []) (by simp) f_p_cells f_p_capacity f_p_variables f_r__variables f_r__places hm)
  clear hA0 hval0
  refine Calls.mono hc ?_
  rintro e W' ⟨v, rfl, bel, hv⟩
  replace bel := bel.below; obtain rfl : v = .bool true := hv
  exact ⟨_, rfl, _, _, _, [], _, [], hW', trodAll_mk1 (shut_bool Try.underlying4 _), (trodAll_cons_mk (Below.trod laidOut (by kernel_rfl) (of_decide_eq_true (by kernel_rfl)) k0 bel lt0) (trodAll_cons_mk (Below.trod laidOut (by kernel_rfl) (of_decide_eq_true (by kernel_rfl)) k1 bel lt1) trodAll_mk0)), rfl, bel.frame _, fun h => by cases h⟩
theorem over : Rows.reasonFewestRow.holds Try.pinned (OpenSpec.ofChange Rows.reasonFewestSpec) :=
  OpenClaim.holds_of_wide 8 Try.f8 rfl rfl rfl rfl rfl rfl rfl ⟨rfl, rfl, rfl, rfl, rfl⟩ rfl rfl rfl rfl rfl (by kernel_rfl) Try.func8 (by kernel_rfl)
    (of_decide_eq_true (by kernel_rfl)) (by unfold Func.isWrapper; first | (rw [if_pos (by decide +kernel)]; kernel_rfl) | (rw [if_neg (by decide +kernel)]; exact ⟨rfl, rfl⟩))
    (fun os started H enc _ => lifted os started H enc)
theorem proved : Rows.ReasonFewestSaid := over
end Go.Proofs.Ytijekcoafilmeaa.lawReasonFewest
