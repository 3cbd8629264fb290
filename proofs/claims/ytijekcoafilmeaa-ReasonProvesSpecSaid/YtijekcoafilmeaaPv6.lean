/- Proves agrees with the reference. -/
import Derived.Test.YtijekcoafilmeaaPv5
import Derived.Test.YtijekcoafilmeaaRows
import Derived.WalkKit
import Derived.ShutString
/- Chapter 32: small problems; a problem is the same as itself; Part. -/
set_option linter.unusedSimpArgs false
set_option linter.unusedVariables false
set_option maxRecDepth 100000
namespace Go.Fx
open Go Go.RowKit
theorem sane32 : m10_overflightlaw32_sane = some true := by decide +kernel
theorem m30_some (p : XProblem) (lim : Int) (h : p.variables.length ≤ 999) : ∃ v, m30_overflightref27_Many p lim = some v := by
  unfold m30_overflightref27_Many
  obtain ⟨fu, hfu⟩ : ∃ n : Nat, n = 1000000 := ⟨_, rfl⟩
  rw [← hfu]
  have main : ∀ (fuel i : Nat) (n : Int), i ≤ p.variables.length → p.variables.length - i < fuel → ∃ v, loop2 (m30_overflightref27_Many_B0 p lim) fuel n (i : Int) = some v := by
    intro fuel
    induction fuel with
    | zero => intro i n _ h; omega
    | succ m ih =>
      intro i n h1 h2
      rw [loop2_succ]
      unfold m30_overflightref27_Many_B0
      by_cases h3 : i < p.variables.length
      · simp only [ltBd h3, inBd h3, cond_true, jn_eq, ck_True]
        cases decide (n < lim)
        · exact ⟨_, rfl⟩
        · simp only [cond_true]
          rw [wrapS (i := i) (by omega)]
          exact ih (i + 1) _ (by omega) (by omega)
      · have : decide ((i : Int) < (p.variables.length : Int)) = false := by simpa using h3
        simp only [this, cond_false, jn_eq]; exact ⟨_, rfl⟩
  exact main fu 0 1 (by omega) (by omega)
/-- what is known of a small problem -/
structure Small (p : XProblem) : Prop where
  cells : p.cells.length ≤ 12
  caps : p.capacity.length ≤ 4
  vars : p.variables.length ≤ 6
  row : ∀ r ∈ p.capacity, r.length ≤ 16
  var : ∀ v ∈ p.variables, v.leaves.length ≤ 8 ∧ v.choices.length ≤ 8 ∧ ∀ c ∈ v.choices, c.uses.length ≤ 12
theorem m18_eq {p : XProblem} (hp : smXProblem p) : ∃ b, m18_overflightref27_Few p = some b ∧ (b = true → Small p) := by
  obtain ⟨s1, s2, s3⟩ := hp
  unfold m18_overflightref27_Few
  simp only [jn_eq]
  by_cases a1 : (12 : Int) < (p.cells.length : Int)
  · exact ⟨false, by simp [a1], by simp⟩
  by_cases a2 : (4 : Int) < (p.capacity.length : Int)
  · exact ⟨false, by simp [a1, a2], by simp⟩
  by_cases a3 : (6 : Int) < (p.variables.length : Int)
  · exact ⟨false, by simp [a1, a2, a3], by simp⟩
  simp only [a1, a2, a3, decide_false, cond_false]
  obtain ⟨mn, hmn⟩ := m30_some p 2000 (by omega)
  have ok : ∀ v : XVariable, Bool := fun v => !(decide ((8 : Int) < (v.leaves.length : Int))) && (!(decide ((8 : Int) < (v.choices.length : Int))) && v.choices.all fun c => !(decide ((12 : Int) < (c.uses.length : Int))))
  have vars : loop1 (m18_overflightref27_Few_B1 p) (((p.variables.length : Int) - 0).toNat + 1) 0 = bif (p.variables.all fun v => !(decide ((8 : Int) < (v.leaves.length : Int))) && (!(decide ((8 : Int) < (v.choices.length : Int))) && v.choices.all fun c => !(decide ((12 : Int) < (c.uses.length : Int))))) then some (decide (mn < 2000)) else some false := by
    refine all_up _ (some false) _ (sm_len s3) ?_ ?_ (by omega)
    · intro sf; unfold m18_overflightref27_Few_B1; simp only [ltE, cond_false, hmn, Option.bind_some]
    · intro sf i v h1 h2 h3
      unfold m18_overflightref27_Few_B1
      have hv := s3.2 v (ge0 h2)
      simp only [Int.toNat_natCast, getD_of h2, ltBd h1, inBd h1, ck_True, cond_true, jn_eq]
      rw [all_up (B := m18_overflightref27_Few_B2 p (i : Int) sf) (l := v.choices) (fun c => !(decide ((12 : Int) < (c.uses.length : Int)))) (some false) (sf ((i : Int) + 1)) (sm_len hv.2.2.2) ?_ ?_ (by omega)]
      · cases decide ((8 : Int) < (v.leaves.length : Int)) <;> cases decide ((8 : Int) < (v.choices.length : Int)) <;> rfl
      · intro sf'; unfold m18_overflightref27_Few_B2; simp only [Int.toNat_natCast, getD_of h2, ltE, cond_false, h3]
      · intro sf' j c h4 h5 h6
        unfold m18_overflightref27_Few_B2
        simp only [Int.toNat_natCast, getD_of h2, getD_of h5, ltBd h4, inBd h4, ck_True, cond_true, h6]
        cases decide ((12 : Int) < (c.uses.length : Int)) <;> rfl
  rw [all_up (B := m18_overflightref27_Few_B0 p) (l := p.capacity) (fun r => !(decide ((16 : Int) < (r.length : Int)))) (some false) (bif (p.variables.all fun v => !(decide ((8 : Int) < (v.leaves.length : Int))) && (!(decide ((8 : Int) < (v.choices.length : Int))) && v.choices.all fun c => !(decide ((12 : Int) < (c.uses.length : Int))))) then some (decide (mn < 2000)) else some false) (sm_len s2) ?_ ?_ (by omega)]
  · cases hc : (p.capacity.all fun r => !(decide ((16 : Int) < (r.length : Int))))
    · exact ⟨false, rfl, by simp⟩
    cases hv : (p.variables.all fun v => !(decide ((8 : Int) < (v.leaves.length : Int))) && (!(decide ((8 : Int) < (v.choices.length : Int))) && v.choices.all fun c => !(decide ((12 : Int) < (c.uses.length : Int)))))
    · exact ⟨false, rfl, by simp⟩
    refine ⟨_, rfl, fun _ => ⟨by omega, by omega, by omega, fun r hr => ?_, fun v hw => ?_⟩⟩
    · have := List.all_eq_true.1 hc r hr
      simp at this; omega
    · have := List.all_eq_true.1 hv v hw
      simp only [Bool.and_eq_true, Bool.not_eq_true', decide_eq_false_iff_not, List.all_eq_true] at this
      exact ⟨by omega, by omega, fun c hc => by have := this.2.2 c hc; omega⟩
  · intro sf; unfold m18_overflightref27_Few_B0; rw [vars]; simp only [ltE, cond_false]
  · intro sf i r h1 h2 h3
    unfold m18_overflightref27_Few_B0
    simp only [Int.toNat_natCast, getD_of h2, ltBd h1, inBd h1, ck_True, cond_true, h3]
    cases decide ((16 : Int) < (r.length : Int)) <;> rfl
theorem m19_eq (r : XReason) : ∃ b, m19_overflightref32_Few r = some b ∧ (b = true → r.variables.length ≤ 20 ∧ r.places.length ≤ 60) := by
  unfold m19_overflightref32_Few
  by_cases h : (r.variables.length : Int) ≤ 20
  · refine ⟨decide ((r.places.length : Int) ≤ 60), by simp [h], fun h2 => ?_⟩
    simp at h2; omega
  · exact ⟨false, by simp [h], by simp⟩
/-! Part -/
/-- a place's capacity is set -/
def put1 (p : XProblem) (rows : List (List Int)) (y : XPlace) : List (List Int) :=
  rows.set y.leaf.toNat ((rows.getD y.leaf.toNat default).set y.cell.toNat ((p.capacity.getD y.leaf.toNat default).getD y.cell.toNat default))
def blank (p : XProblem) : List (List Int) := List.replicate p.capacity.length (List.replicate p.cells.length 4096)
def partOf (p : XProblem) (r : XReason) : XProblem := ⟨p.cells, r.places.foldl (put1 p) (blank p), r.variables.map fun i => p.variables.getD i.toNat default⟩
def Rect (n m : Nat) (rows : List (List Int)) : Prop := rows.length = n ∧ ∀ r ∈ rows, r.length = m
theorem Rect.put {p : XProblem} {n m : Nat} {rows : List (List Int)} (h : Rect n m rows) (y : XPlace) : Rect n m (put1 p rows y) := by
  unfold put1
  refine ⟨by rw [List.length_set]; exact h.1, fun r hr => ?_⟩
  by_cases hl : y.leaf.toNat < rows.length
  · rcases List.mem_or_eq_of_mem_set hr with h1 | h1
    · exact h.2 r h1
    · rw [h1, List.length_set, getD_of (List.getElem?_eq_getElem hl)]; exact h.2 _ (List.getElem_mem hl)
  · rw [List.set_eq_of_length_le (by omega)] at hr; exact h.2 r hr
theorem Rect.blank (p : XProblem) : Rect p.capacity.length p.cells.length (blank p) := by
  refine ⟨by simp [Fx.blank], fun r hr => ?_⟩
  rw [Fx.blank] at hr; rw [List.eq_of_mem_replicate hr]; simp
/-- what is known of a valid problem -/
theorem prob_rows {p : XProblem} (h : okProb p = true) : ∀ r ∈ p.capacity, r.length = p.cells.length := by
  unfold okProb at h
  simp only [Bool.and_eq_true, List.all_eq_true] at h
  intro r hr
  have := h.2.2.2.2.1 r hr
  simp only [okRow, Bool.and_eq_true, decide_eq_true_eq] at this
  exact this.1
theorem okIdx_iff {n : Nat} {k : Int} : okIdx n k = true ↔ 0 ≤ k ∧ k < (n : Int) := by simp [okIdx]
theorem reason_idx {p : XProblem} {r : XReason} (h : okReason p r = true) : (∀ i ∈ r.variables, 0 ≤ i ∧ i < (p.variables.length : Int)) ∧ adj (fun x y => decide (x < y)) r.variables = true ∧
    (∀ x ∈ r.places, (0 ≤ x.leaf ∧ x.leaf < (p.capacity.length : Int)) ∧ 0 ≤ x.cell ∧ x.cell < (p.cells.length : Int)) ∧ adj pb r.places = true := by
  unfold okReason at h
  simp only [Bool.and_eq_true, List.all_eq_true, okPlace, okIdx_iff] at h
  exact ⟨h.1.1, h.1.2, h.2.1, h.2.2⟩
/-- one place's checks hold -/
theorem placeB {p : XProblem} {rows : List (List Int)} {x : XPlace} (hc : ∀ r ∈ p.capacity, r.length = p.cells.length) (hR : Rect p.capacity.length p.cells.length rows)
    (hx : (0 ≤ x.leaf ∧ x.leaf < (p.capacity.length : Int)) ∧ 0 ≤ x.cell ∧ x.cell < (p.cells.length : Int)) :
    ((0 : Int) ≤ x.leaf ∧ x.leaf < (rows.length : Int)) ∧ ((0 : Int) ≤ x.leaf ∧ x.leaf < (p.capacity.length : Int)) ∧
    ((0 : Int) ≤ x.cell ∧ x.cell < ((p.capacity.getD x.leaf.toNat default).length : Int)) ∧ ((0 : Int) ≤ x.cell ∧ x.cell < ((rows.getD x.leaf.toNat default).length : Int)) := by
  have h1 : x.leaf.toNat < p.capacity.length := by omega
  have h2 : x.leaf.toNat < rows.length := by rw [hR.1]; exact h1
  rw [hR.1, getD_of (List.getElem?_eq_getElem h1), getD_of (List.getElem?_eq_getElem h2), hc _ (List.getElem_mem h1), hR.2 _ (List.getElem_mem h2)]
  exact ⟨hx.1, hx.1, hx.2, hx.2⟩
theorem m21_eq {p : XProblem} {r : XReason} (hp : smXProblem p) (hr : smXReason r) (hs : Small p) (hv : r.variables.length ≤ 20) :
    m21_overflightref32_Part p r = some (bif okProb p then (bif okReason p r then (partOf p r, 0) else (⟨[], [], []⟩, 320)) else (⟨[], [], []⟩, 270)) := by
  unfold m21_overflightref32_Part
  rw [m24_eq hp hr]
  cases h1 : okProb p
  · rfl
  cases h2 : okReason p r
  · rfl
  simp only [cond_true, Option.bind_some, ne_eq, not_true_eq_false, decide_false, cond_false]
  obtain ⟨i1, i2, i3, i4⟩ := reason_idx h2
  have hc := prob_rows h1
  have vs : ∀ rows, loop2 (m21_overflightref32_Part_B3 p r rows) (((r.variables.length : Int) - 0).toNat + 1) 0 ([] : List XVariable) = some (⟨p.cells, rows, r.variables.map fun i => p.variables.getD i.toNat default⟩, 0) := by
    intro rows
    refine (up_listA (B := m21_overflightref32_Part_B3 p r rows) (s := ([] : List XVariable)) (fuel := ((r.variables.length : Int) - 0).toNat + 1) (fun i (s : List XVariable) => s.length = i) (fun _ t s => some ((⟨p.cells, rows, s ++ t.map fun i => p.variables.getD i.toNat default⟩ : XProblem), (0 : Int))) r.variables (sm_len hr.1) ?_ ?_ (by omega) rfl).trans (by simp)
    · intro sf s _; unfold m21_overflightref32_Part_B3; simp
    · intro sf i s x t e1 e2 e3 e4 ih
      unfold m21_overflightref32_Part_B3
      have b1 := i1 x (ge0 e2)
      simp only [Int.toNat_natCast, getD_of e2, ltBd e1, inBd e1, ck_True, cond_true, e3]
      rw [ck_eq b1, ck_eq (by simp only [List.length_singleton]; omega), ih _ (by simp [e4])]
      simp
  have ps : loop2 (m21_overflightref32_Part_B2 p r) (((r.places.length : Int) - 0).toNat + 1) 0 (blank p) = some (partOf p r, 0) := by
    refine up_listA (fuel := ((r.places.length : Int) - 0).toNat + 1) (s := blank p) (fun i s => Rect p.capacity.length p.cells.length s) (fun _ t s => some ((⟨p.cells, t.foldl (put1 p) s, r.variables.map fun i => p.variables.getD i.toNat default⟩ : XProblem), (0 : Int))) r.places (sm_len hr.2) ?_ ?_ (by omega) (Rect.blank p)
    · intro sf s _; unfold m21_overflightref32_Part_B2; rw [vs]; simp
    · intro sf i s x t e1 e2 e3 e4 ih
      unfold m21_overflightref32_Part_B2
      obtain ⟨b1, b2, b3, b4⟩ := placeB hc e4 (i3 x (ge0 e2))
      simp only [Int.toNat_natCast, getD_of e2, ltBd e1, inBd e1, ck_True, cond_true, e3]
      rw [ck_eq b1, ck_eq b2, ck_eq b3, ck_eq b4]
      exact ih _ (e4.put x)
  refine up_listA (fun i (s : List (List Int)) => s = List.replicate i (List.replicate p.cells.length 4096)) (fun _ _ _ => some (partOf p r, 0)) p.capacity (sm_len hp.2.1) ?_ ?_ (by omega) rfl
  · intro sf s e; unfold m21_overflightref32_Part_B0; subst e; rw [show List.replicate p.capacity.length (List.replicate p.cells.length 4096) = blank p from rfl, ps]; simp
  · intro sf i s x t e1 e2 e3 e4 ih
    unfold m21_overflightref32_Part_B0
    subst e4
    simp only [ltBd e1, cond_true]
    refine up_listB (fun j (l : List Int) => l = List.replicate j 4096) (fun _ _ _ => some (partOf p r, 0)) p.cells (sm_len hp.1) ?_ ?_ (by omega) rfl
    · intro sf' l e; unfold m21_overflightref32_Part_B1
      simp only [ltE, cond_false, e3]
      rw [ck_eq (by have := hs.caps; simp; omega)]
      subst e
      exact ih _ (by rw [List.replicate_succ'])
    · intro sf' j l c t2 f1 f2 f4 f5 ih'
      unfold m21_overflightref32_Part_B1
      subst f5
      simp only [ltBd f1, cond_true, f4]
      rw [ck_eq (by have := hs.cells; simp; omega)]
      exact ih' _ (by rw [List.replicate_succ'])
end Go.Fx
/- Chapter 32: what broken does: all ways through the choices of some variables, until it is told to stop. -/
set_option linter.unusedSimpArgs false
set_option linter.unusedVariables false
set_option maxRecDepth 100000
namespace Go.Fx
open Go Go.RowKit
section
variable {R α σ : Type}
/-- a loop in whatever order: what holds with the rest still to come leads to one answer -/
theorem mrng_inv [DecidableEq R] {b : (σ → Option R) → α → σ → Option R} {k : σ → Option R} (J : List α → σ → Prop) (R0 : Option R) (hz : ∀ s, J [] s → k s = R0)
    (hs : ∀ r1 r2 p s sf, J (r1 ++ p :: r2) s → (∀ s', J (r1 ++ r2) s' → sf s' = R0) → b sf p s = R0) : ∀ xs s, J xs s → mrng b k xs s = R0 := by
  intro xs
  generalize hn : xs.length = n
  induction n generalizing xs with
  | zero => intro s h; obtain rfl := List.length_eq_zero_iff.1 hn; exact hz s h
  | succ n ih =>
    intro s h
    have key : ∀ u ∈ (picks xs).map (fun p => b (mrngN b k n p.2) p.1 s), u = R0 := by
      intro u hu
      obtain ⟨p, hp, rfl⟩ := List.mem_map.1 hu
      obtain ⟨r1, r2, e1, e2⟩ := mem_picks.1 hp
      have hl : p.2.length = n := by have := mem_picks_length hp; omega
      rw [e1] at h
      refine hs r1 r2 p.1 s _ h fun s' h' => ?_
      rw [← e2] at h'
      have := ih p.2 hl s' h'
      unfold mrng at this; rw [hl] at this; exact this
    have hne : (picks xs).map (fun p => b (mrngN b k n p.2) p.1 s) ≠ [] := by
      intro e2
      have e2 : picks xs = [] := List.map_eq_nil_iff.1 e2
      cases xs with
      | nil => cases hn
      | cons x t => simp [picks] at e2
    unfold mrng
    rw [hn]
    show allSame ((picks xs).map fun p => b (mrngN b k n p.2) p.1 s) = _
    cases e : R0 with
    | some a => rw [e] at key; exact allSame_iff.2 ⟨hne, key⟩
    | none =>
      rw [e] at key
      cases e2 : allSame ((picks xs).map fun p => b (mrngN b k n p.2) p.1 s) with
      | none => rfl
      | some a =>
        have := allSame_iff.1 e2
        cases hL : (picks xs).map fun p => b (mrngN b k n p.2) p.1 s with
        | nil => exact absurd hL this.1
        | cons u t =>
          have h1 := this.2 u (by rw [hL]; simp)
          have h2 := key u (by rw [hL]; simp)
          rw [h1] at h2; cases h2
end
abbrev PM := List (XPlace × Int)
/-- the value at a place -/
def vl (d : PM) (x : XPlace) : Int := (mget d x).getD 0
theorem vl_put (d : PM) (x y : XPlace) (n : Int) : vl (mput d x n) y = if x = y then n else vl d y := by
  unfold vl; rw [mget_put]; split <;> rfl
section
variable (cap : XPlace → Int)
/-- the places where more stands than there is room for -/
def badL (d : PM) : List (XPlace × Bool) := (d.filter fun q => decide (cap q.1 < q.2)).map fun q => (q.1, true)
theorem badL_ris {d : PM} (h : Ris d) : Ris (badL cap d) := by
  unfold badL Ris
  rw [List.pairwise_map]
  exact List.Pairwise.filter _ h
theorem badL_get (hc : ∀ x, 0 ≤ cap x) {d : PM} (h : Ris d) (x : XPlace) : mget (badL cap d) x = if cap x < vl d x then some true else none := by
  have hr := badL_ris cap h
  by_cases hx : cap x < vl d x
  · rw [if_pos hx]
    cases hg : mget d x with
    | none => have h0 := hc x; unfold vl at hx; rw [hg] at hx; simp at hx; omega
    | some n =>
      have hm := mget_some hg
      have hv : vl d x = n := by unfold vl; rw [hg]; rfl
      refine mget_of hr (List.mem_map.2 ⟨(x, n), List.mem_filter.2 ⟨hm, ?_⟩, rfl⟩)
      rw [hv] at hx; simpa using hx
  · rw [if_neg hx]
    cases hg : mget (badL cap d) x with
    | none => rfl
    | some b =>
      obtain ⟨q, hq, he⟩ := List.mem_map.1 (mget_some hg)
      obtain ⟨hq1, hq2⟩ := List.mem_filter.1 hq
      obtain ⟨e1, e2⟩ := Prod.mk.inj he
      have : mget d x = some q.2 := by rw [← e1]; exact mget_of h (by simpa using hq1)
      have hv : vl d x = q.2 := by unfold vl; rw [this]; rfl
      rw [← e1] at hx hv
      have := of_decide_eq_true hq2
      omega
theorem badL_ext (hc : ∀ x, 0 ≤ cap x) {d e : PM} (hd : Ris d) (he : Ris e) (h : ∀ x, vl d x = vl e x) : badL cap d = badL cap e :=
  mget_ext (badL_ris cap hd) (badL_ris cap he) fun x => by rw [badL_get cap hc hd, badL_get cap hc he, h x]
end
/-- m is added at its places, in some order -/
def addD (m : PM) (d : PM) : PM := m.foldl (fun e q => mput e q.1 (vl d q.1 + q.2)) d
def subD (m : PM) (d : PM) : PM := m.foldl (fun e q => mput e q.1 (vl d q.1 - q.2)) d
theorem fold_put (f : XPlace → Int → Int) : ∀ (m : PM) (e : PM), Ris e → (m.Pairwise fun a b => a.1 ≠ b.1) →
    Ris (m.foldl (fun e q => mput e q.1 (f q.1 q.2)) e) ∧ ∀ x, mget (m.foldl (fun e q => mput e q.1 (f q.1 q.2)) e) x = match mget m x with | some n => some (f x n) | none => mget e x := by
  intro m
  induction m with
  | nil => intro e he _; exact ⟨he, fun x => rfl⟩
  | cons q t ih =>
    intro e he hp
    rw [List.pairwise_cons] at hp
    obtain ⟨h1, h2⟩ := ih (mput e q.1 (f q.1 q.2)) (mput_ris he _ _) hp.2
    refine ⟨h1, fun x => ?_⟩
    rw [List.foldl_cons, h2 x]
    obtain ⟨k, n⟩ := q
    simp only [mget]
    by_cases hk : k = x
    · subst hk
      have : mget t k = none := by
        cases hg : mget t k with
        | none => rfl
        | some v => exact absurd rfl (hp.1 (k, v) (mget_some hg))
      rw [this, if_pos rfl, mget_put, if_pos rfl]
    · rw [if_neg hk]
      cases mget t x with
      | some v => rfl
      | none => simp only [mget_put, if_neg hk]
theorem ris_ne {V : Type} {m : List (XPlace × V)} (h : Ris m) : m.Pairwise fun a b => a.1 ≠ b.1 :=
  h.imp fun {a b} hab e => by rw [e] at hab; have := klt_asym hab; rw [hab] at this; cases this
theorem addD_ris {m d : PM} (hm : Ris m) (hd : Ris d) : Ris (addD m d) := (fold_put (fun x n => vl d x + n) m d hd (ris_ne hm)).1
theorem subD_ris {m d : PM} (hm : Ris m) (hd : Ris d) : Ris (subD m d) := (fold_put (fun x n => vl d x - n) m d hd (ris_ne hm)).1
theorem addD_get {m d : PM} (hm : Ris m) (hd : Ris d) (x : XPlace) : mget (addD m d) x = match mget m x with | some n => some (vl d x + n) | none => mget d x := (fold_put (fun x n => vl d x + n) m d hd (ris_ne hm)).2 x
theorem subD_get {m d : PM} (hm : Ris m) (hd : Ris d) (x : XPlace) : mget (subD m d) x = match mget m x with | some n => some (vl d x - n) | none => mget d x := (fold_put (fun x n => vl d x - n) m d hd (ris_ne hm)).2 x
theorem addD_vl {m d : PM} (hm : Ris m) (hd : Ris d) (x : XPlace) : vl (addD m d) x = vl d x + vl m x := by
  unfold vl; rw [addD_get hm hd]; cases mget m x <;> simp [vl]
theorem subD_vl {m d : PM} (hm : Ris m) (hd : Ris d) (x : XPlace) : vl (subD m d) x = vl d x - vl m x := by
  unfold vl; rw [subD_get hm hd]; cases mget m x <;> simp [vl]
/-- all ways to take one of each -/
def ways {α : Type} : List (List α) → List (List α)
  | [] => [[]]
  | ms :: t => ms.flatMap fun m => (ways t).map (m :: ·)
/-- what is called takes what it is handed, until it says false -/
def runB {β σ : Type} (D : β → σ → Option (Bool × σ)) : List β → σ → Option (Bool × σ)
  | [], s => some (true, s)
  | b :: t, s => (D b s).bind fun r => bif r.1 then runB D t r.2 else some (false, r.2)
theorem runB_append {β σ : Type} (D : β → σ → Option (Bool × σ)) : ∀ (l m : List β) (s : σ), runB D (l ++ m) s = (runB D l s).bind fun r => bif r.1 then runB D m r.2 else some (false, r.2)
  | [], m, s => rfl
  | b :: t, m, s => by
    simp only [List.cons_append, runB]
    cases D b s with
    | none => rfl
    | some r =>
      simp only [Option.bind_some]
      cases h : r.1
      · simp
      · simp only [cond_true]; exact runB_append D t m r.2
end Go.Fx
/- Chapter 32: broken, said plainly. -/
set_option linter.unusedSimpArgs false
set_option linter.unusedVariables false
set_option maxRecDepth 100000
namespace Go.Fx
open Go Go.RowKit
def capT (t : XTable) (x : XPlace) : Int := (t.p.capacity.getD x.leaf.toNat default).getD x.cell.toNat default
/-- a map of a table: places that are there, numbers that are small -/
structure GoodM (t : XTable) (m : PM) : Prop where
  ris : Ris m
  pl : ∀ q ∈ m, ((0 : Int) ≤ q.1.leaf ∧ q.1.leaf < (t.p.capacity.length : Int)) ∧ ((0 : Int) ≤ q.1.cell ∧ q.1.cell < ((t.p.capacity.getD q.1.leaf.toNat default).length : Int))
  sm : ∀ q ∈ m, 0 ≤ q.2 ∧ q.2 ≤ 8
theorem GoodM.vl {t : XTable} {m : PM} (h : GoodM t m) (x : XPlace) : 0 ≤ vl m x ∧ vl m x ≤ 8 := by
  unfold Fx.vl
  cases hg : mget m x with
  | none => simp
  | some n => exact h.sm _ (mget_some hg)
def J1 (f : XPlace → Int → Int) (cap : XPlace → Int) (m d : PM) (rest : PM) (s : List (XPlace × Bool) × PM) : Prop :=
  Ris s.2 ∧ s.1 = badL cap s.2 ∧ (rest.Pairwise fun a b => a.1 ≠ b.1) ∧ (∀ q ∈ rest, q ∈ m) ∧
  ∀ x, mget s.2 x = match mget m x with | some n => if x ∈ rest.map (·.1) then mget d x else some (f x n) | none => mget d x
theorem J1.next {f : XPlace → Int → Int} {cap : XPlace → Int} {m d r1 r2 : PM} {p : XPlace × Int} {s : List (XPlace × Bool) × PM} (hm : Ris m) (h : J1 f cap m d (r1 ++ p :: r2) s) {e : PM} {b : List (XPlace × Bool)}
    (he : Ris e) (hb : b = badL cap e) (hg : ∀ y, mget e y = if p.1 = y then some (f p.1 p.2) else mget s.2 y) : J1 f cap m d (r1 ++ r2) (b, e) := by
  obtain ⟨h1, h2, h3, h4, h5⟩ := h
  have hsub : (r1 ++ r2).Sublist (r1 ++ p :: r2) := List.Sublist.append (List.Sublist.refl _) (List.sublist_cons_self _ _)
  refine ⟨he, hb, h3.sublist hsub, fun q hq => h4 q (hsub.subset hq), fun x => ?_⟩
  have hp : mget m p.1 = some p.2 := mget_of hm (h4 p (by simp))
  have hnot : p.1 ∉ (r1 ++ r2).map (·.1) := by
    intro hc
    obtain ⟨q, hq, e⟩ := List.mem_map.1 hc
    rw [List.pairwise_append] at h3
    rcases List.mem_append.1 hq with hq | hq
    · exact h3.2.2 q hq p (List.mem_cons_self ..) e
    · exact (List.pairwise_cons.1 h3.2.1).1 q hq e.symm
  show mget e x = _
  rw [hg x]
  by_cases hx : p.1 = x
  · subst hx
    rw [if_pos rfl, hp]; simp only [hnot, if_false]
  · rw [if_neg hx, h5 x]
    have : x ∈ (r1 ++ p :: r2).map (·.1) ↔ x ∈ (r1 ++ r2).map (·.1) := by
      simp only [List.map_append, List.map_cons, List.mem_append, List.mem_cons]
      constructor
      · rintro (h | h | h)
        · exact .inl h
        · exact absurd h.symm hx
        · exact .inr h
      · rintro (h | h)
        · exact .inl h
        · exact .inr (.inr h)
    simp only [this]
theorem J1.at {f : XPlace → Int → Int} {cap : XPlace → Int} {m d r1 r2 : PM} {p : XPlace × Int} {s : List (XPlace × Bool) × PM} (hm : Ris m) (h : J1 f cap m d (r1 ++ p :: r2) s) : vl s.2 p.1 = vl d p.1 := by
  obtain ⟨h1, h2, h3, h4, h5⟩ := h
  have hp : mget m p.1 = some p.2 := mget_of hm (h4 p (by simp))
  have hmem : p.1 ∈ (r1 ++ p :: r2).map (·.1) := by simp
  unfold vl
  rw [h5 p.1, hp]; simp only [hmem, if_true]
section
variable {σ : Type} [DecidableEq σ] {t : XTable} (hc : ∀ x, 0 ≤ capT t x)
include hc
theorem addAll {K : List (XPlace × Bool) → PM → Option (Bool × List (XPlace × Bool) × PM × σ)} {m d : PM} (hm : GoodM t m) (hd : Ris d) (hb : ∀ x, 0 ≤ vl d x ∧ vl d x ≤ 1000000) :
    mrng2 (m76_reason_table__broken_1_B1 t) K m (badL (capT t) d) d = K (badL (capT t) (addD m d)) (addD m d) := by
  unfold mrng2
  refine mrng_inv (J1 (fun x n => vl d x + n) (capT t) m d) _ ?_ ?_ m (badL (capT t) d, d) ⟨hd, rfl, ris_ne hm.ris, fun q hq => hq, fun x => ?_⟩
  · rintro ⟨b, e⟩ ⟨h1, h2, _, _, h5⟩
    have : e = addD m d := mget_ext h1 (addD_ris hm.ris hd) fun x => by
      rw [addD_get hm.ris hd]; have h := h5 x; cases hg : mget m x with
      | none => rw [hg] at h; exact h
      | some n => rw [hg] at h; simpa using h
    simp only at h2
    rw [h2, this]
  · rintro r1 r2 ⟨x0, n0⟩ ⟨b, e⟩ sf h ih
    have hv : vl e x0 = vl d x0 := h.at hm.ris
    have hmem : (x0, n0) ∈ m := h.2.2.2.1 _ (by simp)
    have hpl := hm.pl _ hmem
    have hsm := hm.sm _ hmem
    have hbd := hb x0
    unfold m76_reason_table__broken_1_B1
    have hv' : (mget e x0).getD 0 = vl d x0 := hv
    have hw : IntKind.wrap .i64 (vl d x0 + n0) = vl d x0 + n0 := wrap_i64 (by simp only at hsm; omega) (by simp only at hsm; omega)
    simp only [hv', hw]
    rw [ck_eq hpl.1, ck_eq hpl.2]
    generalize hE : mput (mput e x0 (vl d x0)) x0 (vl d x0 + n0) = E
    have hER : Ris E := by rw [← hE]; exact mput_ris (mput_ris h.1 _ _) _ _
    have hEg : ∀ y, mget E y = if x0 = y then some (vl d x0 + n0) else mget e y := by
      intro y; rw [← hE, mget_put]; split
      · rfl
      · rw [mget_put, if_neg ‹_›]
    have hEv : (mget E x0).getD 0 = vl d x0 + n0 := by rw [hEg, if_pos rfl]; rfl
    have hEv2 : vl E x0 = vl d x0 + n0 := hEv
    rw [hEv]
    have hb0 : b = badL (capT t) e := h.2.1
    cases hcp : decide ((t.p.capacity.getD x0.leaf.toNat default).getD x0.cell.toNat default < vl d x0 + n0)
    · rw [cond_false]
      have hcp : ¬ (capT t x0 < vl d x0 + n0) := of_decide_eq_false hcp
      refine ih (b, E) (h.next hm.ris hER ?_ hEg)
      rw [hb0]
      refine mget_ext (badL_ris _ h.1) (badL_ris _ hER) fun y => ?_
      rw [badL_get _ hc h.1, badL_get _ hc hER]
      by_cases hy : x0 = y
      · subst hy
        simp only at hsm
        rw [hEv2, if_neg hcp, if_neg (by rw [hv]; omega)]
      · have : vl E y = vl e y := by unfold vl; rw [hEg, if_neg hy]
        rw [this]
    · rw [cond_true]
      have hcp : capT t x0 < vl d x0 + n0 := of_decide_eq_true hcp
      refine ih (mput b x0 true, E) (h.next hm.ris hER ?_ hEg)
      rw [hb0]
      refine mget_ext (mput_ris (badL_ris _ h.1) _ _) (badL_ris _ hER) fun y => ?_
      rw [mget_put, badL_get _ hc h.1, badL_get _ hc hER]
      by_cases hy : x0 = y
      · subst hy
        rw [hEv2, if_pos rfl, if_pos hcp]
      · have : vl E y = vl e y := by unfold vl; rw [hEg, if_neg hy]
        rw [this, if_neg hy]
  · show mget d x = _
    cases hg : mget m x with
    | none => rfl
    | some n =>
      have : x ∈ m.map (·.1) := List.mem_map.2 ⟨(x, n), mget_some hg, rfl⟩
      simp only [this, if_true]
theorem subAll {K : List (XPlace × Bool) → PM → Option (Bool × List (XPlace × Bool) × PM × σ)} {m d : PM} (hm : GoodM t m) (hd : Ris d) (hb : ∀ x, 0 ≤ vl d x ∧ vl d x ≤ 1000008) :
    mrng2 (m76_reason_table__broken_1_B2 t) K m (badL (capT t) d) d = K (badL (capT t) (subD m d)) (subD m d) := by
  unfold mrng2
  refine mrng_inv (J1 (fun x n => vl d x - n) (capT t) m d) _ ?_ ?_ m (badL (capT t) d, d) ⟨hd, rfl, ris_ne hm.ris, fun q hq => hq, fun x => ?_⟩
  · rintro ⟨b, e⟩ ⟨h1, h2, _, _, h5⟩
    have : e = subD m d := mget_ext h1 (subD_ris hm.ris hd) fun x => by
      rw [subD_get hm.ris hd]; have h := h5 x; cases hg : mget m x with
      | none => rw [hg] at h; exact h
      | some n => rw [hg] at h; simpa using h
    simp only at h2
    rw [h2, this]
  · rintro r1 r2 ⟨x0, n0⟩ ⟨b, e⟩ sf h ih
    have hv : vl e x0 = vl d x0 := h.at hm.ris
    have hmem : (x0, n0) ∈ m := h.2.2.2.1 _ (by simp)
    have hpl := hm.pl _ hmem
    have hsm := hm.sm _ hmem
    have hbd := hb x0
    unfold m76_reason_table__broken_1_B2
    have hv' : (mget e x0).getD 0 = vl d x0 := hv
    have hw : IntKind.wrap .i64 (vl d x0 - n0) = vl d x0 - n0 := wrap_i64 (by simp only at hsm; omega) (by simp only at hsm; omega)
    simp only [hv', hw]
    rw [ck_eq hpl.1, ck_eq hpl.2]
    generalize hE : mput (mput e x0 (vl d x0)) x0 (vl d x0 - n0) = E
    have hER : Ris E := by rw [← hE]; exact mput_ris (mput_ris h.1 _ _) _ _
    have hEg : ∀ y, mget E y = if x0 = y then some (vl d x0 - n0) else mget e y := by
      intro y; rw [← hE, mget_put]; split
      · rfl
      · rw [mget_put, if_neg ‹_›]
    have hEv : (mget E x0).getD 0 = vl d x0 - n0 := by rw [hEg, if_pos rfl]; rfl
    have hEv2 : vl E x0 = vl d x0 - n0 := hEv
    rw [hEv]
    have hb0 : b = badL (capT t) e := h.2.1
    cases hcp : decide (vl d x0 - n0 ≤ (t.p.capacity.getD x0.leaf.toNat default).getD x0.cell.toNat default)
    · rw [cond_false]
      have hcp : ¬ (vl d x0 - n0 ≤ capT t x0) := of_decide_eq_false hcp
      refine ih (b, E) (h.next hm.ris hER ?_ hEg)
      rw [hb0]
      refine mget_ext (badL_ris _ h.1) (badL_ris _ hER) fun y => ?_
      rw [badL_get _ hc h.1, badL_get _ hc hER]
      by_cases hy : x0 = y
      · subst hy
        simp only at hsm
        rw [hEv2, hv, if_pos (show capT t x0 < vl d x0 by omega), if_pos (show capT t x0 < vl d x0 - n0 by omega)]
      · have : vl E y = vl e y := by unfold vl; rw [hEg, if_neg hy]
        rw [this]
    · rw [cond_true]
      have hcp : vl d x0 - n0 ≤ capT t x0 := of_decide_eq_true hcp
      refine ih (mdel b x0, E) (h.next hm.ris hER ?_ hEg)
      rw [hb0]
      refine mget_ext (mdel_ris (badL_ris _ h.1) _) (badL_ris _ hER) fun y => ?_
      rw [mget_del, badL_get _ hc h.1, badL_get _ hc hER]
      by_cases hy : x0 = y
      · subst hy
        rw [hEv2, if_pos rfl, if_neg (by omega)]
      · have : vl E y = vl e y := by unfold vl; rw [hEg, if_neg hy]
        rw [this, if_neg hy]
  · show mget d x = _
    cases hg : mget m x with
    | none => rfl
    | some n =>
      have : x ∈ m.map (·.1) := List.mem_map.2 ⟨(x, n), mget_some hg, rfl⟩
      simp only [this, if_true]
end
end Go.Fx
/- Chapter 32: broken hands out the places that are not kept, for all ways. -/
set_option linter.unusedSimpArgs false
set_option linter.unusedVariables false
set_option maxRecDepth 100000
namespace Go.Fx
open Go Go.RowKit
/-- the sum of what stands at x -/
def sumW (w : List PM) (x : XPlace) : Int := (w.map fun m => vl m x).sum
theorem sumW_cons (m : PM) (w : List PM) (x : XPlace) : sumW (m :: w) x = vl m x + sumW w x := by simp [sumW]
section
variable {σ : Type} [DecidableEq σ] {t : XTable} (hc : ∀ x, 0 ≤ capT t x)
abbrev PhiB (t : XTable) (D : List (XPlace × Bool) → σ → Option (Bool × σ)) : (List Int → List (XPlace × Bool) → PM → σ → Option (Bool × List (XPlace × Bool) × PM × σ)) → List Int → List (XPlace × Bool) → PM → σ → Option (Bool × List (XPlace × Bool) × PM × σ) :=
  fun fx63 x64 d65 d66 s67 => m76_reason_table__broken_1 x64 D d65 t d66 fx63 s67
include hc
theorem brk (D : List (XPlace × Bool) → σ → Option (Bool × σ)) (hu : ∀ ms ∈ t.uses, ms.length < 9223372036854775807 ∧ ∀ m ∈ ms, GoodM t m) :
    ∀ (l : List Int) (fuel : Nat) (M : Int) (d : PM) (s0 : σ) (g : List PM → List (XPlace × Bool)), l.length < fuel → l.length < 9223372036854775807 → (∀ v ∈ l, 0 ≤ v ∧ v < (t.uses.length : Int)) → Ris d → (∀ x, 0 ≤ vl d x ∧ vl d x ≤ M) → M + 8 * (l.length : Int) ≤ 1000000 →
      (∀ w ∈ ways (l.map fun v => t.uses.getD v.toNat default), ∀ e, Ris e → (∀ x, vl e x = vl d x + sumW w x) → g w = badL (capT t) e) →
      ∀ r s', runB D ((ways (l.map fun v => t.uses.getD v.toNat default)).map g) s0 = some (r, s') →
        ∃ d', fix4 (PhiB t D) fuel l (badL (capT t) d) d s0 = some (r, badL (capT t) d', d', s') ∧ Ris d' ∧ ∀ x, vl d' x = vl d x := by
  intro l
  induction l with
  | nil =>
    intro fuel M d s0 g hf _ _ hd _ _ hg r s' hr
    obtain ⟨n, rfl⟩ : ∃ n, fuel = n + 1 := ⟨fuel - 1, by simp at hf; omega⟩
    refine ⟨d, ?_, hd, fun x => rfl⟩
    have e : g [] = badL (capT t) d := hg [] (by simp [ways]) d hd (fun x => by simp [sumW])
    simp only [List.map_nil, ways, List.map_cons, runB, e] at hr
    show m76_reason_table__broken_1 [] D (badL (capT t) d) t d _ s0 = _
    unfold m76_reason_table__broken_1
    simp only [List.length_nil, Int.natCast_zero, decide_true, cond_true]
    cases hD : D (badL (capT t) d) s0 with
    | none => rw [hD] at hr; cases hr
    | some q =>
      rw [hD] at hr
      simp only [Option.bind_some] at hr ⊢
      obtain ⟨a, b⟩ := q
      cases a
      · simp only [cond_false, Option.some.injEq, Prod.mk.injEq] at hr; obtain ⟨rfl, rfl⟩ := hr; rfl
      · simp only [cond_true, Option.some.injEq, Prod.mk.injEq] at hr; obtain ⟨rfl, rfl⟩ := hr; rfl
  | cons v l ih =>
    intro fuel M d s0 g hf hl64 hv hd hb hM hg r s' hr
    obtain ⟨n, rfl⟩ : ∃ n, fuel = n + 1 := ⟨fuel - 1, by simp at hf; omega⟩
    have hv0 := hv v (List.mem_cons_self ..)
    have hlt : v.toNat < t.uses.length := by omega
    obtain ⟨hmsl, hms⟩ := hu _ (List.getElem_mem hlt)
    have hget : t.uses.getD v.toNat default = t.uses[v.toNat] := getD_of (List.getElem?_eq_getElem hlt)
    show ∃ d', m76_reason_table__broken_1 (v :: l) D (badL (capT t) d) t d (fix4 (PhiB t D) n) s0 = _ ∧ _
    unfold m76_reason_table__broken_1
    have c0 : decide (((v :: l).length : Int) = 0) = false := by simp <;> omega
    rw [c0, cond_false]
    rw [ck_eq (by simp <;> omega), ck_eq (by simpa using hv0)]
    simp only [List.getD_cons_zero, hget]
    generalize hms0 : t.uses[v.toNat] = ms at *
    simp only [List.map_cons, hget, ways] at hr hg
    have hMl : M + 8 + 8 * (l.length : Int) ≤ 1000000 := by simp at hM; omega
    have loop : ∀ (rest : List PM) (i fl : Nat) (e : PM) (s : σ), ms.drop i = rest → i ≤ ms.length → rest.length < fl → Ris e → (∀ x, vl e x = vl d x) →
        runB D ((rest.flatMap fun m => (ways (l.map fun v => t.uses.getD v.toNat default)).map (m :: ·)).map g) s = some (r, s') →
        ∃ d', loop4 (m76_reason_table__broken_1_B0 (v :: l) t (fix4 (PhiB t D) n)) fl (i : Int) (badL (capT t) e) e s = some (r, badL (capT t) d', d', s') ∧ Ris d' ∧ ∀ x, vl d' x = vl d x := by
      intro rest
      induction rest with
      | nil =>
        intro i fl e s hdr hi hfl he hev hrun
        obtain ⟨k, rfl⟩ : ∃ k, fl = k + 1 := ⟨fl - 1, by simp at hfl; omega⟩
        have hil : i = ms.length := by have := congrArg List.length hdr; simp at this; omega
        simp only [List.flatMap_nil, List.map_nil, runB, Option.some.injEq, Prod.mk.injEq] at hrun
        obtain ⟨rfl, rfl⟩ := hrun
        refine ⟨e, ?_, he, hev⟩
        rw [loop4_succ, m76_reason_table__broken_1_B0]
        simp only [List.getD_cons_zero, hget, hms0, hil, ltE, cond_false]
      | cons m rest ihr =>
        intro i fl e s hdr hi hfl he hev hrun
        obtain ⟨k, rfl⟩ : ∃ k, fl = k + 1 := ⟨fl - 1, by simp at hfl; omega⟩
        have hil : i < ms.length := by have := congrArg List.length hdr; simp at this; omega
        have hmi : ms[i]? = some m := by rw [← List.head?_drop, hdr]; rfl
        have hdr2 : ms.drop (i + 1) = rest := by rw [← List.drop_drop, hdr]; rfl
        have hmm : m ∈ ms := ge0 hmi
        have hgm := hms m hmm
        rw [List.flatMap_cons, List.map_append, runB_append] at hrun
        rw [loop4_succ, m76_reason_table__broken_1_B0]
        simp only [List.getD_cons_zero, hget, hms0, ltBd hil, inBd hil, ck_True, cond_true, Int.toNat_natCast, getD_of hmi]
        rw [addAll hc hgm he (fun x => by rw [hev]; have := hb x; omega)]
        rw [m76_reason_table__broken_1_K1, ck_eq (by simp <;> omega)]
        simp only [List.getD_cons_zero, hget, hms0, Int.toNat_natCast, getD_of hmi]
        rw [show ((v :: l).drop 1).take ((v :: l).length - 1) = l by simp]
        cases hq : runB D (((ways (l.map fun v => t.uses.getD v.toNat default)).map (m :: ·)).map g) s with
        | none => rw [hq] at hrun; cases hrun
        | some q =>
          obtain ⟨r1, s1⟩ := q
          rw [hq] at hrun
          have hadd := fun x => addD_vl hgm.ris he x
          obtain ⟨d2, e1, e2, e3⟩ := ih n (M + 8) (addD m e) s (fun w => g (m :: w)) (by simp at hf; omega) (by simp at hl64; omega) (fun u hu => hv u (List.mem_cons_of_mem _ hu)) (addD_ris hgm.ris he)
            (fun x => by rw [hadd, hev]; have := hb x; have := hgm.vl x; omega) (by omega)
            (fun w hw f hf1 hf2 => hg (m :: w) (List.mem_flatMap.2 ⟨m, hmm, List.mem_map.2 ⟨w, hw, rfl⟩⟩) f hf1 fun x => by rw [hf2, hadd, hev, sumW_cons]; omega) r1 s1 (by rw [← hq, List.map_map]; rfl)
          rw [e1, Option.bind_some]
          simp only
          rw [subAll hc hgm e2 (fun x => by rw [e3, hadd, hev]; have := hb x; have := hgm.vl x; omega)]
          have hsub : ∀ x, vl (subD m d2) x = vl d x := fun x => by rw [subD_vl hgm.ris e2, e3, hadd, hev]; omega
          rw [m76_reason_table__broken_1_K2]
          simp only [Option.bind_some] at hrun
          cases r1
          · simp only [cond_false, Option.some.injEq, Prod.mk.injEq] at hrun
            obtain ⟨rfl, rfl⟩ := hrun
            exact ⟨subD m d2, rfl, subD_ris hgm.ris e2, hsub⟩
          · simp only [cond_true] at hrun
            simp only [Bool.not_true, cond_false]
            rw [wrapS (by omega)]
            exact ihr (i + 1) k (subD m d2) s1 hdr2 (by omega) (by simp at hfl; omega) (subD_ris hgm.ris e2) hsub hrun
    have hfin := loop ms 0 (((ms.length : Int) - 0).toNat + 1) d s0 rfl (by omega) (by omega) hd (fun x => rfl) hr
    exact hfin
/-- broken hands out, for each way, the places where more stands than there is room for -/
theorem m49_eq (D : List (XPlace × Bool) → σ → Option (Bool × σ)) (hu : ∀ ms ∈ t.uses, ms.length < 9223372036854775807 ∧ ∀ m ∈ ms, GoodM t m) {l : List Int} (hl : l.length ≤ 20) (hv : ∀ v ∈ l, 0 ≤ v ∧ v < (t.uses.length : Int)) {g : List PM → List (XPlace × Bool)}
    (hg : ∀ w ∈ ways (l.map fun v => t.uses.getD v.toNat default), ∀ e, Ris e → (∀ x, vl e x = sumW w x) → g w = badL (capT t) e) {s0 s' : σ} {r : Bool}
    (hr : runB D ((ways (l.map fun v => t.uses.getD v.toNat default)).map g) s0 = some (r, s')) : m49_reason_table__broken t l D s0 = some s' := by
  obtain ⟨fu, hfu⟩ : ∃ n : Nat, n = 1000000 := ⟨_, rfl⟩
  unfold m49_reason_table__broken
  rw [← hfu]
  obtain ⟨d', h1, h2, h3⟩ := brk hc D hu l fu 0 [] s0 g (by omega) (by omega) hv List.Pairwise.nil (fun x => by simp [vl, mget]) (by omega) (fun w hw e he hx => hg w hw e he fun x => by rw [hx]; simp [vl, mget]) r s' hr
  have e : badL (capT t) [] = [] := rfl
  rw [e] at h1
  show (fix4 (PhiB t D) fu l [] [] s0).bind _ = _
  rw [h1]; rfl
end
end Go.Fx
/- Chapter 32: the table of a problem. -/
set_option linter.unusedSimpArgs false
set_option linter.unusedVariables false
set_option maxRecDepth 100000
namespace Go.Fx
open Go Go.RowKit
theorem adj_pairwise {α : Type} {lt : α → α → Bool} (ht : ∀ a b c, lt a b = true → lt b c = true → lt a c = true) : ∀ {l : List α}, adj lt l = true → l.Pairwise fun a b => lt a b = true
  | [], _ => List.Pairwise.nil
  | [a], _ => List.pairwise_singleton ..
  | a :: b :: l, h => by
    simp only [adj, Bool.and_eq_true] at h
    have ih := adj_pairwise ht h.2
    refine List.pairwise_cons.2 ⟨fun x hx => ?_, ih⟩
    rcases List.mem_cons.1 hx with rfl | hx
    · exact h.1
    · exact ht _ _ _ h.1 ((List.pairwise_cons.1 ih).1 x hx)
theorem cb_iff (a b : XCell) : cb a b = true ↔ (a.airport = b.airport ∧ (a.index < b.index ∨ (a.index = b.index ∧ a.minute < b.minute))) ∨ (a.airport = false ∧ b.airport = true) := by
  unfold cb
  by_cases e1 : a.airport = b.airport
  · rw [if_pos e1]
    by_cases f1 : a.index = b.index
    · rw [if_pos f1]; simp only [decide_eq_true_eq, e1, f1, true_and, Int.lt_irrefl, false_or]
      constructor
      · exact fun h => .inl h
      · rintro (h | h)
        · exact h
        · rw [h.1] at h; cases h.2
    · rw [if_neg f1]; simp only [decide_eq_true_eq, e1, f1, true_and, false_and, or_false]
      constructor
      · exact fun h => .inl h
      · rintro (h | h)
        · exact h
        · rw [h.1] at h; cases h.2
  · rw [if_neg e1]; simp only [e1, false_and, false_or]
    cases ha : a.airport <;> cases hb : b.airport <;> simp_all
theorem cb_trans (a b c : XCell) (h1 : cb a b = true) (h2 : cb b c = true) : cb a c = true := by
  rw [cb_iff] at *
  rcases h1 with ⟨e1, h1⟩ | ⟨e1, h1⟩ <;> rcases h2 with ⟨e2, h2⟩ | ⟨e2, h2⟩
  · exact .inl ⟨e1.trans e2, by omega⟩
  · exact .inr ⟨e1.trans e2, h2⟩
  · exact .inr ⟨e1, e2 ▸ h1⟩
  · rw [h1] at e2; cases e2
theorem cb_irrefl (a : XCell) : cb a a = false := by unfold cb; simp
theorem cb_ne {a b : XCell} (h : cb a b = true) : a ≠ b := fun e => by rw [e, cb_irrefl] at h; cases h
/-- where a cell stands -/
def ix (cells : List XCell) (c : XCell) : Int := match cells.findIdx? (fun x => decide (x = c)) with | none => (-1 : Int) | some k => (k : Int)
theorem ix_mem {cells : List XCell} {c : XCell} (h : c ∈ cells) : ∃ k : Nat, ix cells c = (k : Int) ∧ cells[k]? = some c := by
  unfold ix
  cases hf : cells.findIdx? (fun x => decide (x = c)) with
  | none =>
    rw [List.findIdx?_eq_none_iff] at hf
    have := hf c h; simp at this
  | some k =>
    obtain ⟨hk, h1, _⟩ := List.findIdx?_eq_some_iff_getElem.1 hf
    exact ⟨k, rfl, by rw [List.getElem?_eq_getElem hk]; simpa using h1⟩
theorem ix_inj {cells : List XCell} {c d : XCell} (hc : c ∈ cells) (hd : d ∈ cells) (h : ix cells c = ix cells d) : c = d := by
  obtain ⟨k, e1, e2⟩ := ix_mem hc
  obtain ⟨j, e3, e4⟩ := ix_mem hd
  have : k = j := by omega
  subst this
  rw [e2] at e4; exact Option.some.inj e4
theorem ix_at {cells : List XCell} (hn : cells.Nodup) {k : Nat} {c : XCell} (h : cells[k]? = some c) : ix cells c = (k : Int) := by
  obtain ⟨j, e1, e2⟩ := ix_mem (ge0 h)
  rw [e1]
  have h1 : k < cells.length := (List.getElem?_eq_some_iff.1 h).1
  have h2 : j < cells.length := (List.getElem?_eq_some_iff.1 e2).1
  have h3 : cells[k] = c := (List.getElem?_eq_some_iff.1 h).2
  have h4 : cells[j] = c := (List.getElem?_eq_some_iff.1 e2).2
  have hp := List.pairwise_iff_getElem.1 hn
  rcases Nat.lt_trichotomy k j with hlt | he | hlt
  · exact absurd (h3.trans h4.symm) (hp k j h1 h2 hlt)
  · omega
  · exact absurd (h4.trans h3.symm) (hp j k h2 h1 hlt)
/-- what is known of a valid problem -/
structure Prob (p : XProblem) : Prop where
  cells : p.cells.Nodup
  row : ∀ r ∈ p.capacity, r.length = p.cells.length ∧ ∀ k ∈ r, 0 ≤ k ∧ k ≤ 4096
  leaf : ∀ v ∈ p.variables, ∀ k ∈ v.leaves, 0 ≤ k ∧ k < (p.capacity.length : Int)
  lnd : ∀ v ∈ p.variables, v.leaves.Nodup
  ch : ∀ v ∈ p.variables, 1 ≤ v.choices.length
  use : ∀ v ∈ p.variables, ∀ c ∈ v.choices, ∀ u ∈ c.uses, u.cell ∈ p.cells ∧ 1 ≤ u.places ∧ u.places ≤ 8
  und : ∀ v ∈ p.variables, ∀ c ∈ v.choices, c.uses.Pairwise fun a b => a.cell ≠ b.cell
  cap : 1 ≤ p.capacity.length
theorem Prob.of {p : XProblem} (h : okProb p = true) : Prob p := by
  unfold okProb at h
  simp only [Bool.and_eq_true, List.all_eq_true, okRow, okVar, okChoice, okUse, within, decide_eq_true_eq, Bool.not_eq_true', decide_eq_false_iff_not] at h
  obtain ⟨h1, h2, h3, h4, h5, h6⟩ := h
  refine ⟨?_, fun r hr => ⟨(h5 r hr).1, fun k hk => (h5 r hr).2 k hk⟩, fun v hv k hk => ?_, fun v hv => ?_, fun v hv => ?_, fun v hv c hc u hu => ?_, fun v hv c hc => ?_, by omega⟩
  · exact (adj_pairwise cb_trans h4.2).imp fun h => cb_ne h
  · have := (h6 v hv).2.2.1.1 k hk; omega
  · exact (adj_pairwise (lt := fun x y : Int => decide (x < y)) (by intro a b c; simp; omega) (h6 v hv).2.2.1.2).imp fun h => by simp at h; omega
  · have := (h6 v hv).2.1; omega
  · have := ((h6 v hv).2.2.2 c hc).2.2.2.1 u hu; exact ⟨this.1, this.2.1, this.2.2⟩
  · exact (adj_pairwise (lt := fun x y : XUse => cb x.cell y.cell) (fun _ _ _ h1 h2 => cb_trans _ _ _ h1 h2) ((h6 v hv).2.2.2 c hc).2.2.2.2).imp fun h => cb_ne h
/-- the places that a choice takes -/
def tabM (p : XProblem) (v : XVariable) (c : XChoice) : PM := c.uses.foldl (fun m u => v.leaves.foldl (fun m k => mput m ⟨k, ix p.cells u.cell⟩ u.places) m) []
def tabU (p : XProblem) : List (List PM) := p.variables.map fun v => v.choices.map fun c => tabM p v c
theorem m42_eq {p : XProblem} (hp : smXProblem p) (hs : Small p) (hk : Prob p) : m42_reason_tabled p = some ⟨p, tabU p⟩ := by
  unfold m42_reason_tabled
  have vars : ∀ map_1 : List (XCell × Int), (∀ c ∈ p.cells, (mget map_1 c).getD 0 = ix p.cells c) →
      loop2 (m42_reason_tabled_B1 p map_1) (((p.variables.length : Int) - 0).toNat + 1) 0 ([] : List (List PM)) = some ⟨p, tabU p⟩ := by
    intro map_1 hm
    refine (up_listA (B := m42_reason_tabled_B1 p map_1) (fuel := ((p.variables.length : Int) - 0).toNat + 1) (s := ([] : List (List PM))) (fun i (s : List (List PM)) => s.length = i) (fun _ t s => some (⟨p, s ++ t.map fun v => v.choices.map fun c => tabM p v c⟩ : XTable)) p.variables (sm_len hp.2.2) ?_ ?_ (by omega) rfl).trans (by simp [tabU])
    · intro sf s _; unfold m42_reason_tabled_B1; simp
    · intro sf i s v tv a1 a2 a3 a4 ih
      have hv := ge0 a2
      have sv := hs.var v hv
      unfold m42_reason_tabled_B1
      simp only [Int.toNat_natCast, getD_of a2, ltBd a1, inBd a1, ck_True, cond_true]
      refine (up_listB (B := m42_reason_tabled_B2 p map_1 (i : Int) s sf) (fuel := ((v.choices.length : Int) - 0).toNat + 1) (s := ([] : List PM)) (fun i (s : List PM) => s.length = i) (fun _ t l => some (⟨p, (s ++ [l ++ t.map fun c => tabM p v c]) ++ tv.map fun v => v.choices.map fun c => tabM p v c⟩ : XTable)) v.choices (by omega) ?_ ?_ (by omega) rfl).trans (by simp)
      · intro sf2 l e
        unfold m42_reason_tabled_B2
        simp only [Int.toNat_natCast, getD_of a2, ltE, cond_false]
        rw [ck_eq (by have := hs.vars; simp; omega), a3, ih _ (by simp [a4])]
        simp
      · intro sf2 j l c tc b1 b2 b3 b4 ih2
        have hc := ge0 b2
        have sc := sv.2.2 c hc
        unfold m42_reason_tabled_B2
        simp only [Int.toNat_natCast, getD_of a2, getD_of b2, ltBd b1, inBd b1, ck_True, cond_true]
        refine (up_listA (B := m42_reason_tabled_B3 p map_1 (i : Int) l (j : Int) sf2) (fuel := ((c.uses.length : Int) - 0).toNat + 1) (s := ([] : PM)) (fun _ _ => True) (fun _ t m => some (⟨p, (s ++ [(l ++ [t.foldl (fun m u => v.leaves.foldl (fun m k => mput m ⟨k, ix p.cells u.cell⟩ u.places) m) m]) ++ tc.map fun c => tabM p v c]) ++ tv.map fun v => v.choices.map fun c => tabM p v c⟩ : XTable)) c.uses (by omega) ?_ ?_ (by omega) trivial).trans (by simp [tabM])
        · intro sf3 m _
          unfold m42_reason_tabled_B3
          simp only [Int.toNat_natCast, getD_of a2, getD_of b2, ltE, cond_false]
          rw [ck_eq (by simp; omega), b3, ih2 _ (by simp [b4])]
          simp
        · intro sf3 k m u tu d1 d2 d3 _ ih3
          have hu := hk.use v hv c hc u (ge0 d2)
          unfold m42_reason_tabled_B3
          simp only [Int.toNat_natCast, getD_of a2, getD_of b2, getD_of d2, ltBd d1, inBd d1, ck_True, cond_true]
          refine (up_listA (B := m42_reason_tabled_B4 p map_1 (i : Int) (j : Int) (k : Int) sf3) (fuel := ((v.leaves.length : Int) - 0).toNat + 1) (s := m) (fun _ _ => True) (fun _ t m => some (⟨p, (s ++ [(l ++ [tu.foldl (fun m u => v.leaves.foldl (fun m k => mput m ⟨k, ix p.cells u.cell⟩ u.places) m) (t.foldl (fun m k => mput m ⟨k, ix p.cells u.cell⟩ u.places) m)]) ++ tc.map fun c => tabM p v c]) ++ tv.map fun v => v.choices.map fun c => tabM p v c⟩ : XTable)) v.leaves (by omega) ?_ ?_ (by omega) trivial).trans (by simp)
          · intro sf4 m' _
            unfold m42_reason_tabled_B4
            simp only [Int.toNat_natCast, getD_of a2, ltE, cond_false]
            rw [d3, ih3 _ trivial]; rfl
          · intro sf4 q m' lf tl f1 f2 f3 _ ih4
            unfold m42_reason_tabled_B4
            simp only [Int.toNat_natCast, getD_of a2, getD_of b2, getD_of d2, getD_of f2, ltBd f1, inBd f1, ck_True, cond_true, hm _ hu.1]
            rw [f3, ih4 _ trivial]; rfl
  refine up_listA (B := m42_reason_tabled_B0 p) (fuel := ((p.cells.length : Int) - 0).toNat + 1) (s := ([] : List (XCell × Int))) (fun i s => ∀ j c, j < i → p.cells[j]? = some c → mget s c = some (j : Int)) (fun _ _ _ => some ⟨p, tabU p⟩) p.cells (sm_len hp.1) ?_ ?_ (by omega) (fun j c h => by omega)
  · intro sf s hI
    unfold m42_reason_tabled_B0
    rw [vars s ?_]
    · simp only [ltE, cond_false]
    · intro c hc
      obtain ⟨k, e1, e2⟩ := ix_mem hc
      rw [hI k c (List.getElem?_eq_some_iff.1 e2).1 e2, e1]; rfl
  · intro sf i s c t e1 e2 e3 hI ih
    unfold m42_reason_tabled_B0
    simp only [Int.toNat_natCast, getD_of e2, ltBd e1, inBd e1, ck_True, cond_true]
    rw [e3]
    refine ih _ fun j c' hj hc' => ?_
    rw [mget_put]
    by_cases h : c = c'
    · subst h
      rw [if_pos rfl]
      have := ix_at hk.cells e2; have := ix_at hk.cells hc'
      congr 1; omega
    · rw [if_neg h]
      refine hI j c' ?_ hc'
      rcases Nat.lt_or_ge j i with hlt | hge
      · exact hlt
      · have : j = i := by omega
        subst this; rw [e2] at hc'; exact absurd (Option.some.inj hc') h
end Go.Fx
set_option linter.unusedVariables false
set_option linter.unusedSimpArgs false
set_option maxRecDepth 100000
set_option maxHeartbeats 0
namespace Go.Fx
open Go Go.RowKit Go.Proofs
end Go.Fx
/- Chapter 32: a problem is the same as itself; what a part is made of. -/
set_option linter.unusedSimpArgs false
set_option linter.unusedVariables false
set_option maxRecDepth 100000
namespace Go.Fx
open Go Go.RowKit
theorem loop_true {α : Type} {B : (Int → Option Bool) → Int → Option Bool} {l : List α} {R : Option Bool} (hl : l.length < 9223372036854775807) (hE : ∀ sf, B sf (l.length : Nat) = R)
    (hS : ∀ sf (i : Nat) x, i < l.length → l[i]? = some x → IntKind.i64.wrap ((i : Int) + 1) = (i : Int) + 1 → B sf (i : Int) = sf ((i : Int) + 1)) :
    loop1 B (((l.length : Int) - 0).toNat + 1) 0 = R := by
  rw [all_up (l := l) (fun _ => true) R R hl hE (fun sf i x h1 h2 h3 => by rw [hS sf i x h1 h2 h3]; rfl) (by omega)]
  cases (l.all fun _ => true) <;> rfl
theorem getD_sm {α : Type} [Inhabited α] {S : α → Prop} {l : List α} (h : ∀ x ∈ l, S x) (hd : S default) (i : Nat) : S (l.getD i default) := by
  cases hx : l[i]? with
  | none => rw [List.getD, hx]; exact hd
  | some x => rw [getD_of hx]; exact h x (ge0 hx)
theorem sm_part {p : XProblem} {r : XReason} (hp : smXProblem p) (hr : smXReason r) (hs : Small p) (hi : ∀ i ∈ r.variables, 0 ≤ i ∧ i < (p.variables.length : Int)) : smXProblem (partOf p r) := by
  have z : InK .i64 (default : Int) := by show InK .i64 0; decide
  refine ⟨hp.1, ?_, ⟨by simp only [partOf, List.length_map]; exact hr.1.1, fun v hv => ?_⟩⟩
  · have main : ∀ (l : List XPlace) (rows : List (List Int)), Rect p.capacity.length p.cells.length rows → (∀ r ∈ rows, ∀ k ∈ r, InK .i64 k) →
        Rect p.capacity.length p.cells.length (l.foldl (put1 p) rows) ∧ ∀ r ∈ l.foldl (put1 p) rows, ∀ k ∈ r, InK .i64 k := by
      intro l
      induction l with
      | nil => intro rows h1 h2; exact ⟨h1, h2⟩
      | cons y t ih =>
        intro rows h1 h2
        refine ih _ (h1.put y) fun r hr k hk => ?_
        unfold put1 at hr
        rcases List.mem_or_eq_of_mem_set hr with h | h
        · exact h2 r h k hk
        · rw [h] at hk
          rcases List.mem_or_eq_of_mem_set hk with h3 | h3
          · exact getD_sm (S := fun r => ∀ k ∈ r, InK .i64 k) h2 (by intro k hk; cases hk) y.leaf.toNat k h3
          · rw [h3]; exact getD_sm (getD_sm (S := fun r => ∀ k ∈ r, InK .i64 k) (fun r hr => (hp.2.1.2 r hr).2) (by intro k hk; cases hk) _) z _
    obtain ⟨h1, h2⟩ := main r.places (blank p) (Rect.blank p) (by
      intro r hr k hk
      rw [blank] at hr; rw [List.eq_of_mem_replicate hr] at hk; rw [List.eq_of_mem_replicate hk]; decide)
    have a1 := hs.caps
    have a2 := hs.cells
    exact ⟨by show List.length (r.places.foldl (put1 p) (blank p)) ≤ _; rw [h1.1]; omega, fun row hrow => ⟨by rw [h1.2 row hrow]; omega, h2 row hrow⟩⟩
  · simp only [partOf, List.mem_map] at hv
    obtain ⟨i, h1, rfl⟩ := hv
    have := hi i h1
    rw [getD_of (List.getElem?_eq_getElem (show i.toNat < p.variables.length by omega))]
    exact hp.2.2.2 _ (List.getElem_mem _)
end Go.Fx
/- Chapter 32: Proves, said plainly. -/
set_option linter.unusedSimpArgs false
set_option linter.unusedVariables false
set_option maxRecDepth 100000
namespace Go.Fx
open Go Go.RowKit
/-- what a choice takes of cell k -/
def useS (p : XProblem) (c : XChoice) (k : Int) : Int := (c.uses.map fun u => if ix p.cells u.cell = k then u.places else 0).sum
def takes (p : XProblem) (x : XPlace) (vc : XVariable × XChoice) : Int := if x.leaf ∈ vc.1.leaves then useS p vc.2 x.cell else 0
/-- what is taken of a place -/
def dem (p : XProblem) (w : List (XVariable × XChoice)) (x : XPlace) : Int := (w.map (takes p x)).sum
def capP (p : XProblem) (x : XPlace) : Int := (p.capacity.getD x.leaf.toNat default).getD x.cell.toNat default
theorem leaves_fold (q n : Int) : ∀ (ls : List Int) (m : PM), Ris m → Ris (ls.foldl (fun m k => mput m (⟨k, q⟩ : XPlace) n) m) ∧
    (∀ x : XPlace, vl (ls.foldl (fun m k => mput m (⟨k, q⟩ : XPlace) n) m) x = if x.leaf ∈ ls ∧ x.cell = q then n else vl m x) ∧
    ∀ e ∈ ls.foldl (fun m k => mput m (⟨k, q⟩ : XPlace) n) m, e ∈ m ∨ (e.1.leaf ∈ ls ∧ e.1.cell = q ∧ e.2 = n)
  | [], m, h => ⟨h, fun x => by simp, fun e he => .inl he⟩
  | k :: ls, m, h => by
    obtain ⟨h1, h2, h3⟩ := leaves_fold q n ls (mput m ⟨k, q⟩ n) (mput_ris h _ _)
    refine ⟨h1, fun x => ?_, fun e he => ?_⟩
    · rw [List.foldl_cons, h2 x, vl_put]
      by_cases hq : x.cell = q
      · by_cases hl : x.leaf ∈ ls
        · simp [hq, hl]
        · by_cases hk : x.leaf = k
          · have : (⟨k, q⟩ : XPlace) = x := by cases x; simp_all
            simp [hq, hl, hk, this]
          · have : (⟨k, q⟩ : XPlace) ≠ x := fun e => hk (by rw [← e])
            simp [hq, hl, hk, this]
      · have : (⟨k, q⟩ : XPlace) ≠ x := fun e => hq (by rw [← e])
        simp [hq, this]
    · rw [List.foldl_cons] at he
      rcases h3 e he with h4 | ⟨h4, h5, h6⟩
      · rcases (mput_mem h _ _ e).1 h4 with h5 | h5
        · right; subst h5; simp
        · exact .inl h5.1
      · exact .inr ⟨List.mem_cons_of_mem _ h4, h5, h6⟩
theorem uses_fold (p : XProblem) (ls : List Int) : ∀ (us : List XUse) (m : PM), Ris m → (∀ u ∈ us, u.cell ∈ p.cells) → (us.Pairwise fun a b => a.cell ≠ b.cell) → (∀ u ∈ us, ∀ k, vl m ⟨k, ix p.cells u.cell⟩ = 0) →
    Ris (us.foldl (fun m u => ls.foldl (fun m k => mput m ⟨k, ix p.cells u.cell⟩ u.places) m) m) ∧
    (∀ x : XPlace, vl (us.foldl (fun m u => ls.foldl (fun m k => mput m ⟨k, ix p.cells u.cell⟩ u.places) m) m) x = vl m x + if x.leaf ∈ ls then (us.map fun u => if ix p.cells u.cell = x.cell then u.places else 0).sum else 0) ∧
    ∀ e ∈ us.foldl (fun m u => ls.foldl (fun m k => mput m ⟨k, ix p.cells u.cell⟩ u.places) m) m, e ∈ m ∨ ∃ u ∈ us, e.1.leaf ∈ ls ∧ e.1.cell = ix p.cells u.cell ∧ e.2 = u.places
  | [], m, h, _, _, _ => ⟨h, fun x => by simp, fun e he => .inl he⟩
  | u :: us, m, h, hc, hp, hz => by
    obtain ⟨g1, g2, g3⟩ := leaves_fold (ix p.cells u.cell) u.places ls m h
    rw [List.pairwise_cons] at hp
    have hz' : ∀ u' ∈ us, ∀ k, vl (ls.foldl (fun m k => mput m ⟨k, ix p.cells u.cell⟩ u.places) m) ⟨k, ix p.cells u'.cell⟩ = 0 := by
      intro u' hu' k
      rw [g2]
      have : ix p.cells u'.cell ≠ ix p.cells u.cell := fun e => hp.1 u' hu' (ix_inj (hc u' (List.mem_cons_of_mem _ hu')) (hc u (List.mem_cons_self ..)) e).symm
      simp only [this, and_false, if_false]
      exact hz u' (List.mem_cons_of_mem _ hu') k
    obtain ⟨h1, h2, h3⟩ := uses_fold p ls us _ g1 (fun u hu => hc u (List.mem_cons_of_mem _ hu)) hp.2 hz'
    refine ⟨h1, fun x => ?_, fun e he => ?_⟩
    · rw [List.foldl_cons, h2 x, g2 x, List.map_cons, List.sum_cons]
      by_cases hl : x.leaf ∈ ls
      · by_cases hq : x.cell = ix p.cells u.cell
        · have : vl m x = 0 := by have := hz u (List.mem_cons_self ..) x.leaf; rw [← hq] at this; exact this
          simp only [hl, hq, and_self, if_true, this]; omega
        · have : ¬ (ix p.cells u.cell = x.cell) := fun e => hq e.symm
          simp only [hl, hq, and_false, if_false, this, if_true]; omega
      · simp only [hl, false_and, if_false]
    · rw [List.foldl_cons] at he
      rcases h3 e he with h4 | ⟨u', h4, h5⟩
      · rcases g3 e h4 with h5 | h5
        · exact .inl h5
        · exact .inr ⟨u, List.mem_cons_self .., h5⟩
      · exact .inr ⟨u', List.mem_cons_of_mem _ h4, h5⟩
theorem row_len {p : XProblem} (hk : Prob p) {k : Int} (h0 : 0 ≤ k) (h1 : k < (p.capacity.length : Int)) : (p.capacity.getD k.toNat default).length = p.cells.length := by
  rw [getD_of (List.getElem?_eq_getElem (show k.toNat < p.capacity.length by omega))]
  exact (hk.row _ (List.getElem_mem _)).1
theorem tab_good {p : XProblem} (hk : Prob p) {v : XVariable} (hv : v ∈ p.variables) {c : XChoice} (hc : c ∈ v.choices) (U : List (List PM)) : GoodM ⟨p, U⟩ (tabM p v c) ∧ ∀ x, vl (tabM p v c) x = takes p x (v, c) := by
  obtain ⟨h1, h2, h3⟩ := uses_fold p v.leaves c.uses [] List.Pairwise.nil (fun u hu => (hk.use v hv c hc u hu).1) (hk.und v hv c hc) (fun u hu k => rfl)
  refine ⟨⟨h1, fun q hq => ?_, fun q hq => ?_⟩, fun x => ?_⟩
  · obtain h | ⟨u, hu, e1, e2, e3⟩ := h3 q hq
    · cases h
    · have hl := hk.leaf v hv _ e1
      refine ⟨hl, ?_⟩
      show (0 : Int) ≤ q.1.cell ∧ q.1.cell < ((p.capacity.getD q.1.leaf.toNat default).length : Int)
      rw [row_len hk hl.1 hl.2, e2]
      obtain ⟨k, f1, f2⟩ := ix_mem (hk.use v hv c hc u hu).1
      have := (List.getElem?_eq_some_iff.1 f2).1
      omega
  · obtain h | ⟨u, hu, e1, e2, e3⟩ := h3 q hq
    · cases h
    · have := (hk.use v hv c hc u hu).2; omega
  · rw [show vl (tabM p v c) x = _ from h2 x]
    simp [vl, mget, takes, useS]
theorem ways_map {α β : Type} (f : α → β) : ∀ L : List (List α), ways (L.map (List.map f)) = (ways L).map (List.map f)
  | [] => rfl
  | l :: L => by
    simp only [List.map_cons, ways, ways_map f L, List.flatMap_map, List.map_flatMap, List.map_map]
    rfl
theorem mem_ways {α : Type} : ∀ {L : List (List α)} {w : List α}, w ∈ ways L → ∀ a ∈ w, ∃ l ∈ L, a ∈ l
  | [], w, h, a, ha => by simp [ways] at h; subst h; cases ha
  | l :: L, w, h, a, ha => by
    simp only [ways, List.mem_flatMap, List.mem_map] at h
    obtain ⟨m, hm, w', hw', rfl⟩ := h
    rcases List.mem_cons.1 ha with rfl | ha
    · exact ⟨l, List.mem_cons_self .., hm⟩
    · obtain ⟨l', h1, h2⟩ := mem_ways hw' a ha
      exact ⟨l', List.mem_cons_of_mem _ h1, h2⟩
/-- the choices of some variables, each with its variable -/
def pairsOf (p : XProblem) (l : List Int) : List (List (XVariable × XChoice)) := l.map fun i => (p.variables.getD i.toNat default).choices.map fun c => (p.variables.getD i.toNat default, c)
theorem mem_pairs {p : XProblem} {l : List Int} (hl : ∀ i ∈ l, 0 ≤ i ∧ i < (p.variables.length : Int)) {w : List (XVariable × XChoice)} (hw : w ∈ ways (pairsOf p l)) : ∀ vc ∈ w, vc.1 ∈ p.variables ∧ vc.2 ∈ vc.1.choices := by
  intro vc hvc
  obtain ⟨q, h1, h2⟩ := mem_ways hw vc hvc
  obtain ⟨i, hi, rfl⟩ := List.mem_map.1 h1
  obtain ⟨c, hc, rfl⟩ := List.mem_map.1 h2
  have := hl i hi
  refine ⟨?_, hc⟩
  show p.variables.getD i.toNat default ∈ p.variables
  rw [getD_of (List.getElem?_eq_getElem (show i.toNat < p.variables.length by omega))]
  exact List.getElem_mem _
theorem tabU_get {p : XProblem} {l : List Int} (hl : ∀ i ∈ l, 0 ≤ i ∧ i < (p.variables.length : Int)) : (l.map fun v => (tabU p).getD v.toNat default) = (pairsOf p l).map (List.map fun vc => tabM p vc.1 vc.2) := by
  unfold pairsOf
  rw [List.map_map]
  refine List.map_congr_left fun i hi => ?_
  have hlt : i.toNat < p.variables.length := by have := hl i hi; omega
  simp only [Function.comp, List.map_map]
  rw [getD_of (List.getElem?_eq_getElem hlt), tabU, getD_of (l := p.variables.map _) (x := p.variables[i.toNat].choices.map fun c => tabM p p.variables[i.toNat] c) (by rw [List.getElem?_map, List.getElem?_eq_getElem hlt]; rfl)]
  rfl
theorem cap_nonneg {p : XProblem} (hk : Prob p) (x : XPlace) : 0 ≤ capP p x := by
  unfold capP
  have : ∀ k ∈ p.capacity.getD x.leaf.toNat default, 0 ≤ k := getD_sm (S := fun r : List Int => ∀ k ∈ r, 0 ≤ k) (fun r hr k hkk => ((hk.row r hr).2 k hkk).1) (by intro k h; cases h) _
  exact getD_sm (S := fun k : Int => 0 ≤ k) this (by show (0 : Int) ≤ 0; omega) _
/-- broken over the table of a problem -/
theorem broken_eq {σ : Type} [DecidableEq σ] {p : XProblem} (hk : Prob p) (hs : Small p) {l : List Int} (hl : l.length ≤ 20) (hi : ∀ i ∈ l, 0 ≤ i ∧ i < (p.variables.length : Int)) (D : List (XPlace × Bool) → σ → Option (Bool × σ))
    {G : List (XVariable × XChoice) → List (XPlace × Bool)} (hG : ∀ w ∈ ways (pairsOf p l), ∀ e, Ris e → (∀ x, vl e x = dem p w x) → G w = badL (capP p) e) {s0 s' : σ} {r : Bool}
    (hr : runB D ((ways (pairsOf p l)).map G) s0 = some (r, s')) : m49_reason_table__broken ⟨p, tabU p⟩ l D s0 = some s' := by
  have hadd : ∀ w : List PM, (∀ m ∈ w, Ris m) → ∀ d, Ris d → Ris (w.foldl (fun d m => addD m d) d) ∧ ∀ x, vl (w.foldl (fun d m => addD m d) d) x = vl d x + sumW w x := by
    intro w
    induction w with
    | nil => intro _ d hd; exact ⟨hd, fun x => by simp [sumW]⟩
    | cons m w ih =>
      intro hm d hd
      obtain ⟨h1, h2⟩ := ih (fun m h => hm m (List.mem_cons_of_mem _ h)) (addD m d) (addD_ris (hm m (List.mem_cons_self ..)) hd)
      exact ⟨h1, fun x => by rw [List.foldl_cons, h2, addD_vl (hm m (List.mem_cons_self ..)) hd, sumW_cons]; omega⟩
  have hsum : ∀ w ∈ ways (pairsOf p l), ∀ x, sumW (w.map fun vc => tabM p vc.1 vc.2) x = dem p w x := by
    intro w hw x
    unfold sumW dem
    rw [List.map_map]
    congr 1
    refine List.map_congr_left fun vc hvc => ?_
    obtain ⟨h1, h2⟩ := mem_pairs hi hw vc hvc
    exact (tab_good hk h1 h2 (tabU p)).2 x
  have hris : ∀ w ∈ ways (pairsOf p l), ∀ m ∈ w.map (fun vc => tabM p vc.1 vc.2), Ris m := by
    intro w hw m hm
    obtain ⟨vc, hvc, rfl⟩ := List.mem_map.1 hm
    obtain ⟨h1, h2⟩ := mem_pairs hi hw vc hvc
    exact (tab_good hk h1 h2 (tabU p)).1.ris
  have hw : ways (l.map fun v => (tabU p).getD v.toNat default) = (ways (pairsOf p l)).map (List.map fun vc => tabM p vc.1 vc.2) := by rw [tabU_get hi, ways_map]
  refine m49_eq (t := ⟨p, tabU p⟩) (cap_nonneg hk) D ?_ hl ?_ (g := fun w => badL (capP p) (w.foldl (fun d m => addD m d) [])) ?_ (r := r) ?_
  · intro ms hms
    obtain ⟨v, hv, rfl⟩ := List.mem_map.1 hms
    refine ⟨by rw [List.length_map]; have := (hs.var v hv).2.1; omega, fun m hm => ?_⟩
    obtain ⟨c, hc, rfl⟩ := List.mem_map.1 hm
    exact (tab_good hk hv hc _).1
  · intro v hv; have := hi v hv; simpa [tabU] using this
  · intro w hww e he hx
    rw [hw] at hww
    obtain ⟨w', hw', rfl⟩ := List.mem_map.1 hww
    obtain ⟨h1, h2⟩ := hadd _ (hris w' hw') [] List.Pairwise.nil
    exact badL_ext _ (cap_nonneg hk) h1 he fun x => by rw [h2, hx]; simp [vl, mget]
  · rw [hw, List.map_map, ← hr]
    congr 1
    refine List.map_congr_left fun w' hw' => ?_
    obtain ⟨h1, h2⟩ := hadd _ (hris w' hw') [] List.Pairwise.nil
    exact (hG w' hw' _ h1 fun x => by rw [h2, hsum w' hw']; simp [vl, mget]).symm
theorem m77_any (s : List XPlace) (hl : s.length < 9223372036854775807) (f : XPlace → Option Bool) (h : XPlace → Bool) (hf : ∀ x ∈ s, f x = some (h x)) : m51_api_Place_ s f = some (s.any h) := by
  unfold m51_api_Place_ m77_api_Place_
  have key : ∃ i : Int, loop1 (m77_api_Place__B0 s f) (((s.length : Int) - 0).toNat + 1) 0 = some i ∧ decide (0 ≤ i) = s.any h := by
    rw [up_listI (B := m77_api_Place__B0 s f) (fun i t => some (match t.findIdx? h with | none => (-1 : Int) | some k => ((i + k : Nat) : Int))) s hl ?_ ?_ (by omega)]
    · refine ⟨_, rfl, ?_⟩
      cases hc : s.findIdx? h with
      | none =>
        rw [List.findIdx?_eq_none_iff] at hc
        have : s.any h = false := by rw [List.any_eq_false]; intro x hx; simpa using hc x hx
        simp [this]
      | some k =>
        have : s.any h = true := by
          rw [List.any_eq_true]
          obtain ⟨hk, h1, _⟩ := List.findIdx?_eq_some_iff_getElem.1 hc
          exact ⟨s[k], List.getElem_mem hk, by simpa using h1⟩
        simp [this]
    · intro sf; unfold m77_api_Place__B0; simp
    · intro sf i x t h1 h2 h3 ih
      unfold m77_api_Place__B0
      simp only [ltBd h1, inBd h1, ck_True, Int.toNat_natCast, getD_of h2, hf x (ge0 h2), Option.bind_some, h3, cond_true, List.findIdx?_cons]
      cases hw : h x
      · simp only [cond_false, Bool.false_eq_true, if_false]
        rw [ih]
        cases t.findIdx? h with
        | none => rfl
        | some k => simp; omega
      · simp
  obtain ⟨i, h1, h2⟩ := key
  rw [h1, Option.bind_some, h2]
/-- every way breaks one of the places -/
def provesB (p : XProblem) (r : XReason) : Bool := (ways (pairsOf p r.variables)).all fun w => r.places.any fun x => decide (capP p x < dem p w x)
theorem m17_eq {p : XProblem} {r : XReason} (hp : smXProblem p) (hr : smXReason r) (hs : Small p) (hv : r.variables.length ≤ 20) :
    m17_reason_Proves p r = some (bif okProb p then (bif okReason p r then (provesB p r, 0) else (false, 320)) else (false, 270)) := by
  unfold m17_reason_Proves
  rw [m23_eq hp hr]
  cases h1 : okProb p
  · rfl
  cases h2 : okReason p r
  · rfl
  have hk := Prob.of h1
  obtain ⟨i1, i2, i3, i4⟩ := reason_idx h2
  simp only [cond_true, Option.bind_some, ne_eq, not_true_eq_false, decide_false, cond_false]
  rw [m42_eq hp hs hk, Option.bind_some]
  let P : List (XVariable × XChoice) → Bool := fun w => r.places.any fun x => decide (capP p x < dem p w x)
  have hD : ∀ w e, Ris e → (∀ x, vl e x = dem p w x) → ∀ s, m50_reason_Proves_1 (badL (capP p) e) r s = some (P w, P w) := by
    intro w e he hx s
    unfold m50_reason_Proves_1
    rw [m77_any r.places (sm_len hr.2) _ (fun x => decide (capP p x < dem p w x)) (fun x _ => by
      unfold m52_reason_Proves_1_1
      rw [badL_get _ (cap_nonneg hk) he, hx]
      by_cases hlt : capP p x < dem p w x <;> simp [hlt])]
    rfl
  have hex : ∀ w ∈ ways (pairsOf p r.variables), ∃ e, Ris e ∧ ∀ x, vl e x = dem p w x := by
    intro w hw
    have : ∀ w' : List (XVariable × XChoice), (∀ vc ∈ w', vc.1 ∈ p.variables ∧ vc.2 ∈ vc.1.choices) → ∃ e, Ris e ∧ ∀ x, vl e x = dem p w' x := by
      intro w'
      induction w' with
      | nil => intro _; exact ⟨[], List.Pairwise.nil, fun x => by simp [vl, mget, dem]⟩
      | cons vc w' ih =>
        intro h
        obtain ⟨e, e1, e2⟩ := ih fun vc hvc => h vc (List.mem_cons_of_mem _ hvc)
        obtain ⟨a1, a2⟩ := h vc (List.mem_cons_self ..)
        obtain ⟨g1, g2⟩ := tab_good hk a1 a2 []
        refine ⟨addD (tabM p vc.1 vc.2) e, addD_ris g1.ris e1, fun x => ?_⟩
        rw [addD_vl g1.ris e1, e2, g2, show (vc.1, vc.2) = vc from rfl]
        simp only [dem, List.map_cons, List.sum_cons]; omega
    exact this w (mem_pairs i1 hw)
  let G : List (XVariable × XChoice) → List (XPlace × Bool) := fun w => if h : w ∈ ways (pairsOf p r.variables) then badL (capP p) (hex w h).choose else []
  have hG : ∀ w ∈ ways (pairsOf p r.variables), ∀ e, Ris e → (∀ x, vl e x = dem p w x) → G w = badL (capP p) e := by
    intro w hw e he hx
    have := (hex w hw).choose_spec
    show (if h : w ∈ ways (pairsOf p r.variables) then badL (capP p) (hex w h).choose else []) = _
    rw [dif_pos hw]
    exact badL_ext _ (cap_nonneg hk) this.1 he fun x => by rw [this.2, hx]
  have hrun : ∀ L : List (List (XVariable × XChoice)), (∀ w ∈ L, w ∈ ways (pairsOf p r.variables)) → runB (fun xs s => m50_reason_Proves_1 xs r s) (L.map G) true = some (L.all P, L.all P) := by
    intro L
    induction L with
    | nil => intro _; rfl
    | cons w L ih =>
      intro h
      obtain ⟨e, e1, e2⟩ := hex w (h w (List.mem_cons_self ..))
      simp only [List.map_cons, runB, hG w (h w (List.mem_cons_self ..)) e e1 e2, hD w e e1 e2, Option.bind_some, List.all_cons]
      cases P w
      · rfl
      · simp only [cond_true, Bool.true_and]; exact ih fun w hw => h w (List.mem_cons_of_mem _ hw)
  rw [broken_eq hk hs hv i1 _ hG (hrun _ fun w hw => hw)]
  rfl
end Go.Fx
/- Chapter 32: all choices of some variables, one after another. -/
set_option linter.unusedSimpArgs false
set_option linter.unusedVariables false
set_option maxRecDepth 100000
namespace Go.Fx
open Go Go.RowKit
/-- the next choices, written backwards: the first one turns fastest -/
def nr : List Int → List Int → Option (List Int)
  | n :: ns, a :: t => if a + 1 < n then some ((a + 1) :: t) else (nr ns t).map (0 :: ·)
  | _, _ => none
def upTo (n : Int) : List Int := (List.range n.toNat).map fun k : Nat => (k : Int)
/-- all choices, written backwards, in order -/
def allR : List Int → List (List Int)
  | [] => [[]]
  | n :: ns => (allR ns).flatMap fun t => (upTo n).map (· :: t)
/-- each leads to the next, the last to none -/
def Enum {α : Type} (f : α → Option α) : List α → Prop
  | [] => True
  | [a] => f a = none
  | a :: b :: t => f a = some b ∧ Enum f (b :: t)
theorem enum_append {α : Type} {f : α → Option α} : ∀ {l : List α} {b : α} {m : List α}, (∀ (h : l ≠ []), f (l.getLast h) = some b) → (l ≠ [] → ∀ l1 x y l2, l = l1 ++ x :: y :: l2 → f x = some y) → Enum f (b :: m) → Enum f (l ++ b :: m)
  | [], b, m, _, _, h => h
  | [a], b, m, h1, _, h => ⟨h1 (by simp), h⟩
  | a :: c :: t, b, m, h1, h2, h => ⟨h2 (by simp) [] a c t rfl, enum_append (l := c :: t) (fun hn => by have := h1 (by simp); simpa using this) (fun _ l1 x y l2 e => h2 (by simp) (a :: l1) x y l2 (by rw [e]; rfl)) h⟩
theorem enum_last {α : Type} {f : α → Option α} : ∀ {l : List α}, (∀ (h : l ≠ []), f (l.getLast h) = none) → (∀ l1 x y l2, l = l1 ++ x :: y :: l2 → f x = some y) → Enum f l
  | [], _, _ => trivial
  | [a], h, _ => h (by simp)
  | a :: c :: t, h1, h2 => ⟨h2 [] a c t rfl, enum_last (l := c :: t) (fun hn => by have := h1 (by simp); simpa using this) (fun l1 x y l2 e => h2 (a :: l1) x y l2 (by rw [e]; rfl))⟩
theorem upTo_ne {n : Int} (h : 1 ≤ n) : upTo n ≠ [] := by
  unfold upTo; intro e; have := congrArg List.length e; simp at this; omega
theorem upTo_mem {n a : Int} : a ∈ upTo n ↔ 0 ≤ a ∧ a < n := by
  unfold upTo
  simp only [List.mem_map, List.mem_range]
  constructor
  · rintro ⟨k, hk, rfl⟩; omega
  · rintro ⟨h1, h2⟩; exact ⟨a.toNat, by omega, by omega⟩
theorem upTo_last {n : Int} (h : 1 ≤ n) : (upTo n).getLast (upTo_ne h) = n - 1 := by
  rw [List.getLast_eq_getElem]
  simp only [upTo, List.getElem_map, List.getElem_range, List.length_map, List.length_range]
  omega
theorem upTo_step {n : Int} {l1 l2 : List Int} {x y : Int} (h : upTo n = l1 ++ x :: y :: l2) : y = x + 1 ∧ y < n := by
  have hx : (upTo n)[l1.length]? = some x := by rw [h]; simp
  have hy : (upTo n)[l1.length + 1]? = some y := by rw [h]; simp [List.getElem?_append]
  unfold upTo at hx hy
  rw [List.getElem?_map] at hx hy
  have hlen : l1.length + 1 < n.toNat := by
    rcases Nat.lt_or_ge (l1.length + 1) n.toNat with h | h
    · exact h
    · rw [List.getElem?_eq_none (by simpa using h)] at hy; cases hy
  rw [List.getElem?_range (by omega)] at hx hy
  simp at hx hy
  omega
theorem upTo_head {n : Int} (h : 1 ≤ n) : ∃ t, upTo n = 0 :: t := by
  unfold upTo
  obtain ⟨k, hk⟩ : ∃ k, n.toNat = k + 1 := ⟨n.toNat - 1, by omega⟩
  rw [hk, List.range_succ_eq_map]; exact ⟨_, rfl⟩
theorem allR_enum : ∀ {ns : List Int}, (∀ n ∈ ns, 1 ≤ n) → Enum (nr ns) (allR ns) ∧ ∃ t, allR ns = (ns.map fun _ => (0 : Int)) :: t
  | [], _ => ⟨rfl, [], rfl⟩
  | n :: ns, h => by
    obtain ⟨h1, t, h2⟩ := allR_enum (ns := ns) fun m hm => h m (List.mem_cons_of_mem _ hm)
    have hn := h n (List.mem_cons_self ..)
    refine ⟨?_, ?_⟩
    · have main : ∀ L : List (List Int), Enum (nr ns) L → Enum (nr (n :: ns)) (L.flatMap fun t => (upTo n).map (· :: t)) := by
        intro L
        induction L with
        | nil => intro _; trivial
        | cons a L ih =>
          intro hL
          have inner : ∀ l1 x y l2, (upTo n).map (· :: a) = l1 ++ x :: y :: l2 → nr (n :: ns) x = some y := by
            intro l1 x y l2 e
            obtain ⟨m1, m2, e1, rfl, e2⟩ := List.map_eq_append_iff.1 e
            obtain ⟨u, m3, rfl, rfl, e3⟩ := List.map_eq_cons_iff.1 e2
            obtain ⟨v, m4, rfl, rfl, rfl⟩ := List.map_eq_cons_iff.1 e3
            have := upTo_step e1
            simp only [nr]
            rw [if_pos (by omega), this.1]
          have last : ∀ hne : (upTo n).map (· :: a) ≠ [], nr (n :: ns) (((upTo n).map (· :: a)).getLast hne) = (nr ns a).map (0 :: ·) := by
            intro hne
            rw [List.getLast_map, upTo_last hn]
            simp only [nr]
            rw [if_neg (by omega)]
          cases L with
          | nil =>
            rw [List.flatMap_cons, List.flatMap_nil, List.append_nil]
            refine enum_last (fun hne => ?_) inner
            rw [last hne, show nr ns a = none from hL]; rfl
          | cons b L =>
            have ih' := ih hL.2
            obtain ⟨z, hz⟩ := upTo_head hn
            have e2 : ((b :: L).flatMap fun t => (upTo n).map (· :: t)) = (0 :: b) :: (z.map (· :: b) ++ L.flatMap fun t => (upTo n).map (· :: t)) := by
              rw [List.flatMap_cons, hz]; rfl
            rw [List.flatMap_cons, e2]
            rw [e2] at ih'
            refine enum_append (fun hne => ?_) (fun _ => inner) ih'
            rw [last hne, hL.1]; rfl
      exact main _ h1
    · obtain ⟨z, hz⟩ := upTo_head hn
      rw [allR, h2, List.flatMap_cons, hz]
      exact ⟨_, rfl⟩
/-- choices that are there -/
def Fit : List Int → List Int → Prop
  | [], [] => True
  | a :: c, n :: ns => (0 ≤ a ∧ a < n) ∧ Fit c ns
  | _, _ => False
theorem mem_allR : ∀ {ns c : List Int}, c ∈ allR ns ↔ Fit c ns
  | [], [] => by simp [allR, Fit]
  | [], a :: c => by simp [allR, Fit]
  | n :: ns, [] => by simp [allR, Fit]
  | n :: ns, a :: c => by
    simp only [allR, List.mem_flatMap, List.mem_map, Fit]
    constructor
    · rintro ⟨t, ht, b, hb, e⟩
      obtain ⟨rfl, rfl⟩ := List.cons.inj e
      exact ⟨upTo_mem.1 hb, mem_allR.1 ht⟩
    · rintro ⟨h1, h2⟩
      exact ⟨c, mem_allR.2 h2, a, upTo_mem.2 h1, rfl⟩
theorem Fit.length : ∀ {c ns : List Int}, Fit c ns → c.length = ns.length
  | [], [], _ => rfl
  | a :: c, n :: ns, h => by simp [Fit.length h.2]
  | [], n :: ns, h => h.elim
  | a :: c, [], h => h.elim
end Go.Fx
namespace Go.Fx
open Go Go.RowKit Go.Proofs
end Go.Fx
/- Chapter 32: the next choices. -/
set_option linter.unusedSimpArgs false
set_option linter.unusedVariables false
set_option maxRecDepth 100000
namespace Go.Fx
open Go Go.RowKit
/-- how many choices each variable has -/
def cnV (vs : List XVariable) : List Int := vs.map fun v => (v.choices.length : Int)
def zs (k : Nat) : List Int := List.replicate k 0
theorem cnV_take {vs : List XVariable} {i : Nat} {v : XVariable} (h : vs[i]? = some v) : (cnV (vs.take (i + 1))).reverse = (v.choices.length : Int) :: (cnV (vs.take i)).reverse := by
  unfold cnV
  rw [List.take_add_one, h]; simp
theorem at_mid {u z : List Int} {a : Int} : (u ++ a :: z)[u.length]? = some a := by simp
theorem set_mid' {u z : List Int} {a b : Int} {n : Nat} (h : n = u.length) : (u ++ a :: z).set n b = u ++ b :: z := by subst h; simp
/-- what the next choices are -/
def nextOf (p : XProblem) (c : List Int) : Option (List Int) := (nr (cnV p.variables).reverse c.reverse).map List.reverse
theorem m58_loop {p : XProblem} (ch : List Int) : ∀ (t : List Int) (k fuel : Nat), t.length ≤ p.variables.length → t.length ≤ 1000 → (∀ a ∈ t, -1 ≤ a ∧ a < 1000000) → t.length < fuel →
    loop2 (m58_overflightref32_Next_B0 p ch) fuel (t.reverse ++ zs k) ((t.length : Int) - 1) = some (match nr (cnV (p.variables.take t.length)).reverse t with | some c => (c.reverse ++ zs k, true) | none => (zs (t.length + k), false)) := by
  intro t
  induction t with
  | nil =>
    intro k fuel _ _ _ hf
    obtain ⟨n, rfl⟩ : ∃ n, fuel = n + 1 := ⟨fuel - 1, by simp at hf; omega⟩
    rw [loop2_succ]; unfold m58_overflightref32_Next_B0
    simp [cnV, nr]
  | cons a t ih =>
    intro k fuel h1 h2 h3 hf
    obtain ⟨n, rfl⟩ : ∃ n, fuel = n + 1 := ⟨fuel - 1, by simp at hf; omega⟩
    simp only [List.length_cons] at h1 h2 hf
    have hlt : t.length < p.variables.length := by omega
    have hv : p.variables[t.length]? = some p.variables[t.length] := List.getElem?_eq_getElem hlt
    have ha := h3 a (List.mem_cons_self ..)
    have e0 : (((a :: t).length : Nat) : Int) - 1 = (t.length : Int) := by simp
    have er : (a :: t).reverse ++ zs k = t.reverse ++ a :: zs k := by simp
    have el : t.length = t.reverse.length := by simp
    rw [e0, er, loop2_succ, m58_overflightref32_Next_B0]
    have g1 : (t.reverse ++ a :: zs k).getD t.length default = a := by exact getD_of (by rw [el]; exact at_mid)
    have hw : IntKind.wrap .i64 (a + 1) = a + 1 := wrap_i64 (by omega) (by omega)
    have g2 : (t.reverse ++ a :: zs k).set t.length (a + 1) = t.reverse ++ (a + 1) :: zs k := set_mid' el
    have g3 : (t.reverse ++ (a + 1) :: zs k).getD t.length default = a + 1 := by exact getD_of (by rw [el]; exact at_mid)
    have g4 : (t.reverse ++ (a + 1) :: zs k).set t.length 0 = t.reverse ++ 0 :: zs k := set_mid' el
    have b1 : ((0 : Int) ≤ (t.length : Int) ∧ (t.length : Int) < ((t.reverse ++ a :: zs k).length : Int)) = True := by simp <;> omega
    have b2 : ((0 : Int) ≤ (t.length : Int) ∧ (t.length : Int) < ((t.reverse ++ (a + 1) :: zs k).length : Int)) = True := by simp <;> omega
    have c0 : decide ((0 : Int) ≤ (t.length : Int)) = true := by simp
    simp only [Int.toNat_natCast]
    simp only [g1, hw, g2, g3, g4, b1, b2, c0, ck_True, cond_true, inBd hlt, Int.toNat_natCast, getD_of hv]
    rw [show (a :: t).length = t.length + 1 from rfl, cnV_take hv]
    simp only [nr]
    by_cases hn : a + 1 < (p.variables[t.length].choices.length : Int)
    · simp only [hn, decide_true, cond_true, if_true]; simp
    · simp only [hn, decide_false, cond_false, if_false]
      rw [show IntKind.wrap .i64 ((t.length : Int) - 1) = (t.length : Int) - 1 from wrap_i64 (by omega) (by omega)]
      rw [show t.reverse ++ 0 :: zs k = t.reverse ++ zs (k + 1) by rw [zs, zs, List.replicate_succ]]
      rw [ih (k + 1) n (by omega) (by omega) (fun b hb => h3 b (List.mem_cons_of_mem _ hb)) (by omega)]
      cases nr (cnV (p.variables.take t.length)).reverse t with
      | none => simp only [Option.map_none]; rw [show t.length + (k + 1) = t.length + 1 + k by omega]
      | some c => simp [zs, List.replicate_succ]
theorem m58_eq {p : XProblem} (ch : List Int) (hl : ch.length = p.variables.length) (hs : p.variables.length ≤ 1000) (hb : ∀ a ∈ ch, -1 ≤ a ∧ a < 1000000) :
    m58_overflightref32_Next p ch = some (match nextOf p ch with | some c => (c, true) | none => (zs ch.length, false)) := by
  obtain ⟨fu, hfu⟩ : ∃ n : Nat, n = 1000000 := ⟨_, rfl⟩
  unfold m58_overflightref32_Next
  rw [← hfu, ck_eq (by simp; omega)]
  have := m58_loop (p := p) ch ch.reverse 0 fu (by simp; omega) (by simp; omega) (fun a ha => hb a (by simpa using ha)) (by simp; omega)
  simp only [List.length_reverse, List.reverse_reverse, zs, List.replicate_zero, List.append_nil, Nat.add_zero] at this
  rw [List.nil_append, show IntKind.wrap .i64 ((ch.length : Int) - 1) = (ch.length : Int) - 1 from wrap_i64 (by omega) (by omega), this]
  unfold nextOf
  rw [hl, List.take_length]
  cases nr (cnV p.variables).reverse ch.reverse with
  | none => simp [zs]
  | some c => rfl
end Go.Fx
/- Chapter 32: the reference's demand. -/
set_option linter.unusedSimpArgs false
set_option linter.unusedVariables false
set_option maxRecDepth 100000
namespace Go.Fx
open Go Go.RowKit
/-- the variables with what is chosen -/
def wayOf (p : XProblem) (ch : List Int) : List (XVariable × XChoice) := List.zipWith (fun v a => (v, v.choices.getD a.toNat default)) p.variables ch
theorem fit_get : ∀ {vs : List XVariable} {ch : List Int}, Fit ch (cnV vs) → ∀ {i : Nat} {v : XVariable}, vs[i]? = some v → ∃ a, ch[i]? = some a ∧ 0 ≤ a ∧ a < (v.choices.length : Int)
  | [], _, _, i, v, h => by simp at h
  | w :: vs, [], hf, _, _, _ => by simp [cnV, Fit] at hf
  | w :: vs, a :: ch, hf, 0, v, h => by
    simp only [cnV, List.map_cons, Fit] at hf
    simp at h; subst h
    exact ⟨a, rfl, hf.1.1, hf.1.2⟩
  | w :: vs, a :: ch, hf, i + 1, v, h => by
    simp only [cnV, List.map_cons, Fit] at hf
    obtain ⟨b, h1, h2⟩ := fit_get (vs := vs) hf.2 (i := i) (v := v) (by simpa using h)
    exact ⟨b, by simpa using h1, h2⟩
theorem way_get {p : XProblem} {ch : List Int} (hf : Fit ch (cnV p.variables)) {i : Nat} {vc : XVariable × XChoice} (h : (wayOf p ch)[i]? = some vc) :
    p.variables[i]? = some vc.1 ∧ ∃ a, ch[i]? = some a ∧ 0 ≤ a ∧ a < (vc.1.choices.length : Int) ∧ vc.1.choices.getD a.toNat default = vc.2 ∧ vc.2 ∈ vc.1.choices := by
  unfold wayOf at h
  rw [List.getElem?_zipWith] at h
  cases hv : p.variables[i]? with
  | none => rw [hv] at h; simp at h
  | some v =>
    obtain ⟨a, h1, h2, h3⟩ := fit_get hf hv
    rw [hv, h1] at h
    simp at h
    subst h
    refine ⟨rfl, a, h1, h2, h3, by simp [List.getD], ?_⟩
    rw [← List.getD_eq_getElem?_getD, getD_of (List.getElem?_eq_getElem (show a.toNat < v.choices.length by omega))]
    exact List.getElem_mem _
theorem way_len {p : XProblem} {ch : List Int} (hf : Fit ch (cnV p.variables)) : (wayOf p ch).length = ch.length ∧ ch.length = p.variables.length := by
  have := hf.length
  simp [cnV] at this
  refine ⟨?_, this⟩
  unfold wayOf; simp; omega
theorem way_mem {p : XProblem} {ch : List Int} (hf : Fit ch (cnV p.variables)) {vc : XVariable × XChoice} (h : vc ∈ wayOf p ch) : vc.1 ∈ p.variables ∧ vc.2 ∈ vc.1.choices := by
  obtain ⟨i, hi, e⟩ := List.getElem_of_mem h
  have := way_get hf (i := i) (vc := vc) (by rw [List.getElem?_eq_getElem hi, e])
  exact ⟨ge0 this.1, by obtain ⟨a, _, _, _, _, h⟩ := this.2; exact h⟩
theorem m89_eq (v : XVariable) (leaf : Int) (hl : v.leaves.length < 9223372036854775807) : m89_overflightref27_Counts v leaf = some (decide (leaf ∈ v.leaves)) := by
  unfold m89_overflightref27_Counts
  rw [up_list0 (B := m89_overflightref27_Counts_B0 v leaf) (fun t => some (decide (leaf ∈ t))) v.leaves hl ?_ ?_ (by omega)]
  · intro sf; unfold m89_overflightref27_Counts_B0; simp
  · intro sf i x t h1 h2 h3 ih
    unfold m89_overflightref27_Counts_B0
    simp only [ltBd h1, inBd h1, ck_True, Int.toNat_natCast, getD_of h2, h3, cond_true, ih]
    by_cases h : x = leaf
    · simp [h]
    · have : leaf ≠ x := fun e => h e.symm
      simp [h, this]
/-- part of what a choice takes -/
theorem use_bound {p : XProblem} (us : List XUse) (k : Int) (hu : ∀ u ∈ us, 1 ≤ u.places ∧ u.places ≤ 8) : 0 ≤ (us.map fun u => if ix p.cells u.cell = k then u.places else 0).sum ∧ (us.map fun u => if ix p.cells u.cell = k then u.places else 0).sum ≤ 8 * (us.length : Int) := by
  induction us with
  | nil => simp
  | cons u us ih =>
    have h1 := ih fun u h => hu u (List.mem_cons_of_mem _ h)
    have h2 := hu u (List.mem_cons_self ..)
    simp only [List.map_cons, List.sum_cons, List.length_cons]
    split <;> omega
theorem takes_bound {p : XProblem} (hk : Prob p) (hs : Small p) {vc : XVariable × XChoice} (h1 : vc.1 ∈ p.variables) (h2 : vc.2 ∈ vc.1.choices) (x : XPlace) : 0 ≤ takes p x vc ∧ takes p x vc ≤ 96 := by
  unfold takes useS
  have h3 := use_bound (p := p) vc.2.uses x.cell fun u hu => (hk.use _ h1 _ h2 u hu).2
  have h4 := (hs.var _ h1).2.2 _ h2
  split <;> omega
theorem dem_bound {p : XProblem} (hk : Prob p) (hs : Small p) (x : XPlace) : ∀ {w : List (XVariable × XChoice)}, (∀ vc ∈ w, vc.1 ∈ p.variables ∧ vc.2 ∈ vc.1.choices) → 0 ≤ dem p w x ∧ dem p w x ≤ 96 * (w.length : Int)
  | [], _ => by simp [dem]
  | vc :: w, h => by
    have h1 := dem_bound hk hs x (w := w) fun vc hvc => h vc (List.mem_cons_of_mem _ hvc)
    obtain ⟨a, b⟩ := h vc (List.mem_cons_self ..)
    have h2 := takes_bound hk hs a b x
    simp only [dem, List.map_cons, List.sum_cons, List.length_cons] at *
    omega
theorem dem_append (p : XProblem) (w w' : List (XVariable × XChoice)) (x : XPlace) : dem p (w ++ w') x = dem p w x + dem p w' x := by simp [dem, List.sum_append]
/-- what is taken of the cells of a leaf -/
def demL (p : XProblem) (w : List (XVariable × XChoice)) (leaf : Int) : List Int := (List.range p.cells.length).map fun k : Nat => dem p w ⟨leaf, (k : Int)⟩
theorem list_ext_getD {l m : List Int} (h1 : l.length = m.length) (h : ∀ k, k < l.length → l.getD k default = m.getD k default) : l = m := by
  refine List.ext_getElem h1 fun k a b => ?_
  have := h k a
  rw [getD_of (List.getElem?_eq_getElem a), getD_of (List.getElem?_eq_getElem b)] at this
  exact this
theorem demL_get {p : XProblem} {w : List (XVariable × XChoice)} {leaf : Int} {k : Nat} (h : k < p.cells.length) : (demL p w leaf).getD k default = dem p w ⟨leaf, (k : Int)⟩ := by
  refine getD_of ?_
  unfold demL
  rw [List.getElem?_map, List.getElem?_range h]; rfl
theorem set_getD {l : List Int} {i j : Nat} {a : Int} (hi : i < l.length) : (l.set i a).getD j default = if i = j then a else l.getD j default := by
  by_cases h : i = j
  · subst h
    rw [if_pos rfl]; exact getD_of (by rw [List.getElem?_set_self hi])
  · rw [if_neg h, List.getD, List.getElem?_set_ne h]; rfl
theorem m81_ix (l : List XCell) (c : XCell) (hl : l.length < 9223372036854775807) : m81_overflightref27_at l c = some (ix l c) := by
  rw [m81_eq l c hl]; unfold ix; cases l.findIdx? (fun x => decide (x = c)) <;> rfl
theorem m80_eq {p : XProblem} (hp : smXProblem p) (hk : Prob p) (hs : Small p) {ch : List Int} (hf : Fit ch (cnV p.variables)) (leaf : Int) : m80_overflightref27_demand p ch leaf = some (demL p (wayOf p ch) leaf) := by
  obtain ⟨l1, l2⟩ := way_len hf
  have hc := hs.cells
  have hvs := hs.vars
  unfold m80_overflightref27_demand
  rw [ck_eq (by omega)]
  have hlen : ((ch.length : Int) - 0).toNat + 1 = (((wayOf p ch).length : Int) - 0).toNat + 1 := by rw [l1]
  rw [hlen]
  refine up_listB (B := m80_overflightref27_demand_B0 p ch leaf) (fun i (s : List Int) => s.length = p.cells.length ∧ ∀ k, k < p.cells.length → s.getD k default = dem p ((wayOf p ch).take i) ⟨leaf, (k : Int)⟩) (fun _ _ _ => some (demL p (wayOf p ch) leaf)) (wayOf p ch) (by omega) ?_ ?_ (by omega) ?_
  · intro sf s ⟨h1, h2⟩
    unfold m80_overflightref27_demand_B0
    rw [l1]; simp only [ltE, cond_false]
    rw [List.take_length] at h2
    congr 1
    exact list_ext_getD (by simp [demL, h1]) fun k hk => by rw [h2 k (by omega), demL_get (by omega)]
  · intro sf i s vc t a1 a2 a3 ⟨h1, h2⟩ ih
    obtain ⟨v1, a, v2, v3, v4, v5, v6⟩ := way_get hf a2
    have hvm := ge0 v1
    have hvl : i < p.variables.length := (List.getElem?_eq_some_iff.1 v1).1
    have hchl : i < ch.length := by omega
    have hsv := hs.var _ hvm
    rw [m80_overflightref27_demand_B0]
    simp only [ltBd hchl, inBd hchl, inBd hvl, ck_True, cond_true, jn_eq, Int.toNat_natCast, getD_of v1, getD_of v2, v5, m89_eq _ _ (sm_len (hp.2.2.2 _ hvm).2.2.1), Option.bind_some, a3]
    have htake : ∀ x, dem p ((wayOf p ch).take (i + 1)) x = dem p ((wayOf p ch).take i) x + takes p x vc := by
      intro x; rw [List.take_add_one, a2, dem_append]; simp [dem]
    have hbd : ∀ x, 0 ≤ dem p ((wayOf p ch).take i) x ∧ dem p ((wayOf p ch).take i) x ≤ 600 := by
      intro x
      have := dem_bound hk hs x (w := (wayOf p ch).take i) fun vc h => way_mem hf (List.mem_of_mem_take h)
      have hl : ((wayOf p ch).take i).length ≤ 6 := by rw [List.length_take]; omega
      omega
    cases hcn : decide (leaf ∈ vc.1.leaves)
    · simp only [Bool.not_false, cond_true]
      refine ih s ⟨h1, fun k hkk => ?_⟩
      rw [h2 k hkk, htake]
      have : leaf ∉ vc.1.leaves := of_decide_eq_false hcn
      simp [takes, this]
    · simp only [Bool.not_true, cond_false]
      have hlf : leaf ∈ vc.1.leaves := of_decide_eq_true hcn
      rw [ck_eq (by omega)]
      refine up_listB (B := m80_overflightref27_demand_B1 p ch (i : Int) fun n_2 => sf n_2 ((i : Int) + 1)) (fun j (s' : List Int) => s'.length = p.cells.length ∧ ∀ k, k < p.cells.length → s'.getD k default = dem p ((wayOf p ch).take i) ⟨leaf, (k : Int)⟩ + ((vc.2.uses.take j).map fun u => if ix p.cells u.cell = (k : Int) then u.places else 0).sum) (fun _ _ _ => some (demL p (wayOf p ch) leaf)) vc.2.uses (by have := hsv.2.2 _ v6; omega) ?_ ?_ (by omega) ⟨h1, fun k hkk => by rw [h2 k hkk]; simp⟩
      · intro sf' s' ⟨g1, g2⟩
        unfold m80_overflightref27_demand_B1
        simp only [Int.toNat_natCast, getD_of v1, getD_of v2, v5, ltE, cond_false]
        rw [List.take_length] at g2
        refine ih s' ⟨g1, fun k hkk => ?_⟩
        rw [g2 k hkk, htake]
        simp [takes, hlf, useS]
      · intro sf' j s' u tu d1 d2 d3 ⟨g1, g2⟩ ih'
        have hu := hk.use _ hvm _ v6 u (ge0 d2)
        obtain ⟨q, q1, q2⟩ := ix_mem hu.1
        have hq : q < p.cells.length := (List.getElem?_eq_some_iff.1 q2).1
        unfold m80_overflightref27_demand_B1
        simp only [Int.toNat_natCast, getD_of v1, getD_of v2, v5, getD_of d2, ltBd d1, inBd d1, ck_True, cond_true, m81_ix _ _ (sm_len hp.1), Option.bind_some, d3, q1]
        rw [ck_eq (by omega), ck_eq (by omega)]
        have hub := use_bound (p := p) (vc.2.uses.take j) (q : Int) fun u hu => (hk.use _ hvm _ v6 u (List.mem_of_mem_take hu)).2
        have hjl : (vc.2.uses.take j).length ≤ 12 := by rw [List.length_take]; have := hsv.2.2 _ v6; omega
        have hb := hbd ⟨leaf, (q : Int)⟩
        have hw : IntKind.wrap .i64 (s'.getD q default + u.places) = s'.getD q default + u.places := by
          rw [g2 q hq]; exact wrap_i64 (by omega) (by omega)
        rw [hw]
        refine ih' _ ⟨by rw [List.length_set]; exact g1, fun k hkk => ?_⟩
        rw [set_getD (by omega), List.take_add_one, d2]
        simp only [Option.toList_some, List.map_append, List.map_cons, List.map_nil, List.sum_append, List.sum_cons, List.sum_nil, q1]
        by_cases hqk : q = k
        · subst hqk
          rw [if_pos rfl, g2 q hq]; simp; omega
        · have : ¬ ((q : Int) = (k : Int)) := by omega
          rw [if_neg hqk, g2 k hkk]; simp [this]
  · exact ⟨by simp, fun k hkk => by
      rw [getD_of (by rw [List.getElem?_replicate, if_pos hkk])]; simp [dem]⟩
end Go.Fx
/- Chapter 32: the reference's Overloads. -/
set_option linter.unusedSimpArgs false
set_option linter.unusedVariables false
set_option maxRecDepth 100000
namespace Go.Fx
open Go Go.RowKit
section
variable {R α σ : Type}
/-- a loop that comes to an end -/
theorem up_some {L : Nat → Int → σ → Option R} (I : Nat → σ → Prop) (N : Nat) (hN : N < 9223372036854775807)
    (hE : ∀ n s, I N s → ∃ v, L (n + 1) (N : Nat) s = some v)
    (hS : ∀ n (i : Nat) s, i < N → IntKind.i64.wrap ((i : Int) + 1) = (i : Int) + 1 → I i s → (∀ s, I (i + 1) s → ∃ v, L n ((i : Int) + 1) s = some v) → ∃ v, L (n + 1) (i : Int) s = some v) :
    ∀ (fuel : Nat) s, N < fuel → I 0 s → ∃ v, L fuel 0 s = some v := by
  have main : ∀ (d i fuel : Nat) s, N - i = d → i ≤ N → d < fuel → I i s → ∃ v, L fuel (i : Int) s = some v := by
    intro d
    induction d with
    | zero =>
      intro i fuel s h1 h2 h3 hI
      obtain ⟨n, rfl⟩ : ∃ n, fuel = n + 1 := ⟨fuel - 1, by omega⟩
      have : i = N := by omega
      subst this; exact hE n s hI
    | succ d ih =>
      intro i fuel s h1 h2 h3 hI
      obtain ⟨n, rfl⟩ : ∃ n, fuel = n + 1 := ⟨fuel - 1, by omega⟩
      exact hS n i s (by omega) (wrapS (by omega)) hI fun s' hs' => ih (i + 1) n s' (by omega) (by omega) (by omega) hs'
  intro fuel s h1 h2
  exact main N 0 fuel s (by omega) (by omega) h1 h2
end
theorem m87_eq {p : XProblem} {ch : List Int} (hs : Small p) (hf : Fit ch (cnV p.variables)) : m87_overflightref27_Branch p ch = some true := by
  obtain ⟨l1, l2⟩ := way_len hf
  have := hs.vars
  unfold m87_overflightref27_Branch
  have c0 : decide ((p.variables.length : Int) < (ch.length : Int)) = false := by simp <;> omega
  rw [c0, cond_false]
  refine loop_true (by omega) ?_ ?_
  · intro sf; unfold m87_overflightref27_Branch_B0; simp only [ltE, cond_false]
  · intro sf i a h1 h2 h3
    have hlt : i < p.variables.length := by omega
    obtain ⟨b, b1, b2, b3⟩ := fit_get hf (List.getElem?_eq_getElem hlt)
    rw [h2] at b1; obtain rfl := Option.some.inj b1
    have hcl := (hs.var _ (List.getElem_mem hlt)).2.1
    unfold m87_overflightref27_Branch_B0
    simp only [ltBd h1, inBd h1, inBd hlt, ck_True, cond_true, Int.toNat_natCast, getD_of h2, getD_of (List.getElem?_eq_getElem hlt), m61_eq, Option.bind_some, h3]
    rw [show IntKind.wrap .i64 ((p.variables[i].choices.length : Int) - 1) = (p.variables[i].choices.length : Int) - 1 from wrap_i64 (by omega) (by omega)]
    have : within a 0 ((p.variables[i].choices.length : Int) - 1) = true := by simp [within]; omega
    rw [this]; rfl
theorem demL_len (p : XProblem) (w : List (XVariable × XChoice)) (leaf : Int) : (demL p w leaf).length = p.cells.length := by simp [demL]
theorem row_get {p : XProblem} (hk : Prob p) {i : Nat} (hi : i < p.capacity.length) : (p.capacity.getD i default).length = p.cells.length := by
  rw [getD_of (List.getElem?_eq_getElem hi)]; exact (hk.row _ (List.getElem_mem hi)).1
theorem m88_some {p : XProblem} (hp : smXProblem p) (hk : Prob p) (hs : Small p) {ch : List Int} (hf : Fit ch (cnV p.variables)) : ∃ v, m88_overflightref27_Overload p ch = some v := by
  unfold m88_overflightref27_Overload
  have hc := hs.cells; have hcap := hs.caps
  refine up_some (L := fun n i s => loop2 (m88_overflightref27_Overload_B0 p ch) n s i) (fun _ _ => True) p.capacity.length (by omega) ?_ ?_ _ 0 (by omega) trivial
  · intro n s _
    show ∃ v, loop2 _ (n + 1) _ _ = _
    rw [loop2_succ]; unfold m88_overflightref27_Overload_B0; simp
  · intro n i s h1 h2 _ ih
    show ∃ v, loop2 _ (n + 1) _ _ = _
    rw [loop2_succ, m88_overflightref27_Overload_B0]
    simp only [ltBd h1, cond_true, m80_eq hp hk hs hf, Option.bind_some]
    rw [demL_len]
    refine up_some (L := fun n k s => loop2 (m88_overflightref27_Overload_B1 p (i : Int) _ _) n s k) (fun _ _ => True) p.cells.length (by omega) ?_ ?_ _ s (by omega) trivial
    · intro n s _
      show ∃ v, loop2 _ (n + 1) _ _ = _
      rw [loop2_succ, m88_overflightref27_Overload_B1, demL_len, ltE, cond_false, h2]
      exact ih s trivial
    · intro n k s g1 g2 _ ih'
      show ∃ v, loop2 _ (n + 1) _ _ = _
      rw [loop2_succ, m88_overflightref27_Overload_B1, demL_len, ltBd g1, cond_true, ck_eq (by omega), ck_eq (by omega), ck_eq (by rw [Int.toNat_natCast, row_get hk h1]; omega), g2]
      exact ih' _ trivial
theorem m79_some {p : XProblem} (hp : smXProblem p) (ho : okProb p = true) (hs : Small p) {ch : List Int} (hf : Fit ch (cnV p.variables)) : ∃ v, m79_overflightref27_Value p ch = some (v, 0) := by
  have hk := Prob.of ho
  obtain ⟨l1, l2⟩ := way_len hf
  have hv := hs.vars
  obtain ⟨ov, hov⟩ := m88_some hp hk hs hf
  unfold m79_overflightref27_Value
  have c0 : decide ((ch.length : Int) ≠ (p.variables.length : Int)) = false := by simp <;> omega
  rw [m31_eq hp, ho, m87_eq hs hf]
  simp only [cond_true, Option.bind_some, ne_eq, not_true_eq_false, decide_false, cond_false, jn_eq, Bool.not_true]
  rw [show decide (¬((ch.length : Int) = (p.variables.length : Int))) = false from c0, cond_false, hov, Option.bind_some]
  have := up_some (R := {q : List Int × Int // q.2 = 0}) (L := fun n i s => (loop2 (m79_overflightref27_Value_B0 p ch) n s i).bind fun q => if h : q.2 = 0 then some ⟨q, h⟩ else none) (fun _ s => s.length = 4) ch.length (by omega) ?_ ?_ (((ch.length : Int) - 0).toNat + 1) [ov, 0, 0, 0] (by omega) rfl
  · obtain ⟨⟨q, hq⟩, h⟩ := this
    cases hl : loop2 (m79_overflightref27_Value_B0 p ch) (((ch.length : Int) - 0).toNat + 1) [ov, 0, 0, 0] 0 with
    | none => simp only [hl] at h; cases h
    | some q' =>
      simp only [hl, Option.bind_some] at h
      split at h
      · rename_i hz; obtain ⟨a, b⟩ := q'; simp only at hz; subst hz; exact ⟨a, rfl⟩
      · cases h
  · intro n s _
    refine ⟨⟨(s, 0), rfl⟩, ?_⟩
    simp only [loop2_succ]; unfold m79_overflightref27_Value_B0; simp only [ltE, cond_false]; rfl
  · intro n i s h1 h2 hI ih
    have hlt : i < p.variables.length := by omega
    obtain ⟨b, b1, b2, b3⟩ := fit_get hf (List.getElem?_eq_getElem hlt)
    simp only [loop2_succ]
    rw [m79_overflightref27_Value_B0]
    simp only [ltBd h1, inBd h1, inBd hlt, ck_True, cond_true, Int.toNat_natCast, getD_of b1, getD_of (List.getElem?_eq_getElem hlt), List.length_set, h2]
    rw [ck_eq ⟨b2, b3⟩, ck_eq (by rw [hI]; decide), ck_eq (by rw [hI]; decide), ck_eq (by rw [hI]; decide), ck_eq (by rw [hI]; decide), ck_eq (by rw [hI]; decide), ck_eq (by rw [hI]; decide)]
    exact ih _ (by simpa using hI)
/-- the places of a leaf where more is taken than there is -/
def overR (p : XProblem) (w : List (XVariable × XChoice)) (leaf : Nat) (ks : List Nat) : List XPlace := (ks.filter fun k : Nat => decide (capP p ⟨(leaf : Int), (k : Int)⟩ < dem p w ⟨(leaf : Int), (k : Int)⟩)).map fun k : Nat => (⟨(leaf : Int), (k : Int)⟩ : XPlace)
def overL (p : XProblem) (w : List (XVariable × XChoice)) : List XPlace := (List.range p.capacity.length).flatMap fun leaf => overR p w leaf (List.range p.cells.length)
theorem m57_eq {p : XProblem} (hp : smXProblem p) (ho : okProb p = true) (hs : Small p) {ch : List Int} (hf : Fit ch (cnV p.variables)) : m57_overflightref27_Overloads p ch = some (overL p (wayOf p ch), 0) := by
  have hk := Prob.of ho
  have hc := hs.cells; have hcap := hs.caps
  obtain ⟨vv, hvv⟩ := m79_some hp ho hs hf
  unfold m57_overflightref27_Overloads
  rw [hvv]
  simp only [Option.bind_some, ne_eq, not_true_eq_false, decide_false, cond_false]
  have hl : (List.range p.capacity.length).length = p.capacity.length := List.length_range
  have hfu : ((p.capacity.length : Int) - 0).toNat + 1 = (((List.range p.capacity.length).length : Int) - 0).toNat + 1 := by rw [hl]
  rw [hfu]
  refine up_listB (B := m57_overflightref27_Overloads_B0 p ch) (fun i (s : List XPlace) => s.length ≤ 12 * i) (fun _ (t : List Nat) s => some (s ++ t.flatMap fun leaf => overR p (wayOf p ch) leaf (List.range p.cells.length), (0 : Int))) (List.range p.capacity.length) (by omega) ?_ ?_ (by omega) (by simp)
  · intro sf s _; unfold m57_overflightref27_Overloads_B0; rw [hl]; simp
  · intro sf i s x t a1 a2 a3 hI ih
    rw [hl] at a1
    have hx : x = i := by rw [List.getElem?_range a1] at a2; exact (Option.some.inj a2).symm
    subst hx
    rw [m57_overflightref27_Overloads_B0]
    simp only [ltBd a1, cond_true, m80_eq hp hk hs hf, Option.bind_some]
    have hl2 : (List.range p.cells.length).length = p.cells.length := List.length_range
    rw [demL_len, show (((p.cells.length : Int) - 0).toNat + 1) = (((List.range p.cells.length).length : Int) - 0).toNat + 1 by rw [hl2]]
    refine (up_listB (B := m57_overflightref27_Overloads_B1 p (x : Int) sf (demL p (wayOf p ch) (x : Int))) (s := s) (fuel := (((List.range p.cells.length).length : Int) - 0).toNat + 1) (fun j (s' : List XPlace) => s'.length ≤ 12 * x + j) (fun _ (tk : List Nat) s' => some (s' ++ overR p (wayOf p ch) x tk ++ t.flatMap fun leaf => overR p (wayOf p ch) leaf (List.range p.cells.length), (0 : Int))) (List.range p.cells.length) (by omega) ?_ ?_ (by omega) (by omega)).trans (by simp)
    · intro sf' s' hJ
      rw [m57_overflightref27_Overloads_B1, demL_len, hl2, ltE, cond_false, a3, ih s' (by rw [hl2] at hJ; omega)]
      simp [overR]
    · intro sf' j s' k tk b1 b2 b3 hJ ih'
      rw [hl2] at b1
      have hkj : k = j := by rw [List.getElem?_range b1] at b2; exact (Option.some.inj b2).symm
      subst hkj
      rw [m57_overflightref27_Overloads_B1, demL_len, ltBd b1, cond_true, ck_eq (by omega), ck_eq (by omega), ck_eq (by rw [Int.toNat_natCast, row_get hk a1]; omega)]
      have hcp : (p.capacity.getD x default).getD k default = capP p ⟨(x : Int), (k : Int)⟩ := by simp [capP]
      simp only [Int.toNat_natCast, demL_get b1, b3, hcp]
      cases hd : decide (capP p ⟨(x : Int), (k : Int)⟩ < dem p (wayOf p ch) ⟨(x : Int), (k : Int)⟩)
      · rw [cond_false, ih' s' (by omega)]
        simp [overR, hd]
      · rw [cond_true, ck_eq (by simp; omega), ih' _ (by simp; omega)]
        simp [overR, hd]
end Go.Fx
/- Chapter 32: the reference's Proves says the same. -/
set_option linter.unusedSimpArgs false
set_option linter.unusedVariables false
set_option maxRecDepth 100000
namespace Go.Fx
open Go Go.RowKit
theorem mem_ways_iff : ∀ {vs : List XVariable} {w : List (XVariable × XChoice)}, w ∈ ways (vs.map fun v => v.choices.map fun c => (v, c)) ↔ ∃ ch, Fit ch (cnV vs) ∧ w = List.zipWith (fun v a => (v, v.choices.getD a.toNat default)) vs ch
  | [], w => by
    simp only [List.map_nil, ways, List.mem_singleton, cnV]
    constructor
    · rintro rfl; exact ⟨[], trivial, rfl⟩
    · rintro ⟨ch, h, rfl⟩; rfl
  | v :: vs, w => by
    simp only [List.map_cons, ways, List.mem_flatMap, List.mem_map, cnV]
    constructor
    · rintro ⟨_, ⟨c, hc, rfl⟩, t, ht, rfl⟩
      obtain ⟨ch, h1, rfl⟩ := mem_ways_iff.1 ht
      obtain ⟨i, hi, e⟩ := List.getElem_of_mem hc
      refine ⟨(i : Int) :: ch, ⟨⟨by omega, by omega⟩, h1⟩, ?_⟩
      rw [List.zipWith_cons_cons, Int.toNat_natCast, getD_of (List.getElem?_eq_getElem hi), e]
    · rintro ⟨ch, h, rfl⟩
      cases ch with
      | nil => exact h.elim
      | cons a ch =>
        refine ⟨(v, v.choices.getD a.toNat default), ⟨v.choices.getD a.toNat default, ?_, rfl⟩, _, mem_ways_iff.2 ⟨ch, h.2, rfl⟩, rfl⟩
        have := h.1
        rw [getD_of (List.getElem?_eq_getElem (show a.toNat < v.choices.length by omega))]
        exact List.getElem_mem _
theorem fit_reverse_app : ∀ {a b c d : List Int}, Fit a b → Fit c d → Fit (a ++ c) (b ++ d)
  | [], [], _, _, _, h => h
  | x :: a, y :: b, _, _, h1, h2 => ⟨h1.1, fit_reverse_app h1.2 h2⟩
  | [], _ :: _, _, _, h, _ => h.elim
  | _ :: _, [], _, _, h, _ => h.elim
theorem fit_reverse : ∀ {a b : List Int}, Fit a b → Fit a.reverse b.reverse
  | [], [], _ => trivial
  | x :: a, y :: b, h => by
    rw [List.reverse_cons, List.reverse_cons]
    exact fit_reverse_app (fit_reverse h.2) ⟨h.1, trivial⟩
  | [], _ :: _, h => h.elim
  | _ :: _, [], h => h.elim
/-- all ways, and all choices backwards -/
theorem all_ways {vs : List XVariable} (P : List (XVariable × XChoice) → Bool) :
    ((allR (cnV vs).reverse).all fun c => P (List.zipWith (fun v a => (v, v.choices.getD a.toNat default)) vs c.reverse)) = (ways (vs.map fun v => v.choices.map fun c => (v, c))).all P := by
  rw [Bool.eq_iff_iff, List.all_eq_true, List.all_eq_true]
  constructor
  · intro h w hw
    obtain ⟨ch, h1, rfl⟩ := mem_ways_iff.1 hw
    have := h ch.reverse (mem_allR.2 (fit_reverse h1))
    rwa [List.reverse_reverse] at this
  · intro h c hc
    have h1 := fit_reverse (mem_allR.1 hc)
    rw [List.reverse_reverse] at h1
    exact h _ (mem_ways_iff.2 ⟨c.reverse, h1, rfl⟩)
theorem allR_len : ∀ {ns : List Int}, (∀ n ∈ ns, n ≤ 8) → (allR ns).length ≤ 8 ^ ns.length
  | [], _ => by simp [allR]
  | n :: ns, h => by
    have ih := allR_len (ns := ns) fun m hm => h m (List.mem_cons_of_mem _ hm)
    have hn := h n (List.mem_cons_self ..)
    have hu : (upTo n).length ≤ 8 := by unfold upTo; simp; omega
    have : ∀ L : List (List Int), (L.flatMap fun t => (upTo n).map (· :: t)).length ≤ 8 * L.length := by
      intro L
      induction L with
      | nil => simp
      | cons a L ih => simp only [List.flatMap_cons, List.length_append, List.length_map, List.length_cons]; omega
    have := this (allR ns)
    rw [allR, List.length_cons, Nat.pow_succ]
    omega
theorem rising_aux : ∀ {l : List Int} {b n : Int}, l.Pairwise (fun a c => decide (a < c) = true) → (∀ i ∈ l, b ≤ i ∧ i < n) → b ≤ n → (l.length : Int) ≤ n - b
  | [], _, _, _, _, _ => by simp; omega
  | a :: l, b, n, h, hb, hn => by
    rw [List.pairwise_cons] at h
    have ha := hb a (List.mem_cons_self ..)
    have := rising_aux (b := a + 1) (n := n) h.2 (fun i hi => by have := h.1 i hi; have := hb i (List.mem_cons_of_mem _ hi); simp at *; omega) (by omega)
    simp only [List.length_cons]; omega
theorem rising_len {l : List Int} {n : Nat} (h1 : ∀ i ∈ l, 0 ≤ i ∧ i < (n : Int)) (h2 : adj (fun x y => decide (x < y)) l = true) : l.length ≤ n := by
  have hp := adj_pairwise (lt := fun x y : Int => decide (x < y)) (by intro a b c; simp; omega) h2
  have := rising_aux (b := 0) (n := (n : Int)) hp h1 (by omega)
  omega
/-! the part of a problem -/
theorem part_rows {p : XProblem} (hk : Prob p) : ∀ (l : List XPlace) (rows : List (List Int)), Rect p.capacity.length p.cells.length rows → (∀ x ∈ l, (0 ≤ x.leaf ∧ x.leaf < (p.capacity.length : Int)) ∧ 0 ≤ x.cell ∧ x.cell < (p.cells.length : Int)) →
    Rect p.capacity.length p.cells.length (l.foldl (put1 p) rows) ∧ ∀ x : XPlace, (0 ≤ x.leaf ∧ x.leaf < (p.capacity.length : Int)) → (0 ≤ x.cell ∧ x.cell < (p.cells.length : Int)) →
      ((l.foldl (put1 p) rows).getD x.leaf.toNat default).getD x.cell.toNat default = if x ∈ l then capP p x else (rows.getD x.leaf.toNat default).getD x.cell.toNat default
  | [], rows, h, _ => ⟨h, fun x _ _ => by simp⟩
  | y :: l, rows, h, hb => by
    obtain ⟨h1, h2⟩ := part_rows hk l (put1 p rows y) (h.put y) fun x hx => hb x (List.mem_cons_of_mem _ hx)
    refine ⟨h1, fun x hx1 hx2 => ?_⟩
    rw [List.foldl_cons, h2 x hx1 hx2]
    by_cases hm : x ∈ l
    · simp [hm]
    · rw [if_neg hm]
      have hy := hb y (List.mem_cons_self ..)
      have hyl : y.leaf.toNat < rows.length := by rw [h.1]; omega
      have hrow : (rows.getD y.leaf.toNat default).length = p.cells.length := by rw [getD_of (List.getElem?_eq_getElem hyl)]; exact h.2 _ (List.getElem_mem hyl)
      by_cases hl : x.leaf = y.leaf
      · have e1 : (put1 p rows y).getD x.leaf.toNat default = (rows.getD y.leaf.toNat default).set y.cell.toNat ((p.capacity.getD y.leaf.toNat default).getD y.cell.toNat default) := by
          rw [hl]; unfold put1; exact getD_of (by rw [List.getElem?_set_self hyl])
        rw [e1, set_getD (by rw [hrow]; omega)]
        by_cases hc : x.cell = y.cell
        · have : x = y := by cases x; cases y; simp_all
          rw [if_pos (by rw [hc]), if_pos (by rw [this]; exact List.mem_cons_self ..), this]; rfl
        · have hne : x ≠ y := fun e => hc (by rw [e])
          rw [if_neg (by omega), if_neg (by simp [hne, hm]), hl]
      · have hne : x ≠ y := fun e => hl (by rw [e])
        have e1 : (put1 p rows y).getD x.leaf.toNat default = rows.getD x.leaf.toNat default := by
          unfold put1; rw [List.getD, List.getElem?_set_ne (by omega)]; rfl
        rw [e1, if_neg (by simp [hne, hm])]
structure PartOk (p : XProblem) (r : XReason) : Prop where
  sm : smXProblem (partOf p r)
  small : Small (partOf p r)
  ok : okProb (partOf p r) = true
  cap : ∀ x : XPlace, (0 ≤ x.leaf ∧ x.leaf < (p.capacity.length : Int)) → (0 ≤ x.cell ∧ x.cell < (p.cells.length : Int)) → capP (partOf p r) x = if x ∈ r.places then capP p x else 4096
  capl : (partOf p r).capacity.length = p.capacity.length
theorem part_ok {p : XProblem} {r : XReason} (hp : smXProblem p) (hr : smXReason r) (hs : Small p) (h1 : okProb p = true) (h2 : okReason p r = true) : PartOk p r := by
  obtain ⟨i1, i2, i3, i4⟩ := reason_idx h2
  have hk := Prob.of h1
  obtain ⟨g1, g2⟩ := part_rows hk r.places (blank p) (Rect.blank p) i3
  have hcapl : (partOf p r).capacity.length = p.capacity.length := g1.1
  have hcap : ∀ x : XPlace, (0 ≤ x.leaf ∧ x.leaf < (p.capacity.length : Int)) → (0 ≤ x.cell ∧ x.cell < (p.cells.length : Int)) → capP (partOf p r) x = if x ∈ r.places then capP p x else 4096 := by
    intro x hx1 hx2
    refine (g2 x hx1 hx2).trans ?_
    have : ((blank p).getD x.leaf.toNat default).getD x.cell.toNat default = 4096 := by
      unfold blank
      rw [getD_of (l := List.replicate _ _) (by rw [List.getElem?_replicate, if_pos (by omega)]), getD_of (by rw [List.getElem?_replicate, if_pos (by omega)])]
    rw [this]
  have hmem : ∀ v ∈ (partOf p r).variables, v ∈ p.variables := by
    intro v hv
    obtain ⟨i, hi, rfl⟩ := List.mem_map.1 hv
    have := i1 i hi
    rw [getD_of (List.getElem?_eq_getElem (show i.toNat < p.variables.length by omega))]
    exact List.getElem_mem _
  have hvl : r.variables.length ≤ p.variables.length := rising_len i1 i2
  have hrl : ∀ row ∈ (partOf p r).capacity, row.length = p.cells.length := g1.2
  refine ⟨sm_part hp hr hs i1, ⟨hs.cells, by rw [hcapl]; exact hs.caps, ?_, fun row hrow => ?_, fun v hv => hs.var v (hmem v hv)⟩, ?_, hcap, hcapl⟩
  · show (r.variables.map _).length ≤ 6
    rw [List.length_map]; have := hs.vars; omega
  · rw [hrl row hrow]; have := hs.cells; omega
  · unfold okProb at h1 ⊢
    simp only [Bool.and_eq_true, List.all_eq_true, hcapl] at h1 ⊢
    obtain ⟨a1, a2, a3, a4, a5, a6⟩ := h1
    refine ⟨a1, a2, ?_, a4, fun row hrow => ?_, fun v hv => a6 v (hmem v hv)⟩
    · simp only [decide_eq_true_eq] at a3 ⊢
      show (r.variables.map _).length ≤ 64
      rw [List.length_map]; omega
    · unfold okRow
      simp only [Bool.and_eq_true, decide_eq_true_eq, List.all_eq_true, within]
      refine ⟨hrl row hrow, fun k hkk => ?_⟩
      obtain ⟨i, hi, e⟩ := List.getElem_of_mem hrow
      obtain ⟨j, hj, e'⟩ := List.getElem_of_mem hkk
      have hjl : j < p.cells.length := by rw [← hrl row hrow]; exact hj
      have hil : i < p.capacity.length := by rw [← hcapl]; exact hi
      have hv : capP (partOf p r) ⟨(i : Int), (j : Int)⟩ = k := by
        unfold capP
        simp only [Int.toNat_natCast]
        rw [getD_of (List.getElem?_eq_getElem hi), e, getD_of (List.getElem?_eq_getElem hj), e']
      rw [← hv, hcap _ (by simp only; omega) (by simp only; omega)]
      split
      · refine ⟨cap_nonneg hk _, ?_⟩
        unfold capP
        have hj2 : j < (p.capacity[i]).length := by rw [(hk.row _ (List.getElem_mem hil)).1]; exact hjl
        simp only [Int.toNat_natCast]
        rw [getD_of (List.getElem?_eq_getElem hil), getD_of (List.getElem?_eq_getElem hj2)]
        exact ((hk.row _ (List.getElem_mem hil)).2 _ (List.getElem_mem hj2)).2
      · omega
theorem overL_ne {p : XProblem} {w : List (XVariable × XChoice)} : overL p w ≠ [] ↔ ∃ i k : Nat, i < p.capacity.length ∧ k < p.cells.length ∧ capP p ⟨(i : Int), (k : Int)⟩ < dem p w ⟨(i : Int), (k : Int)⟩ := by
  unfold overL overR
  constructor
  · intro h
    obtain ⟨x, hx⟩ := List.exists_mem_of_ne_nil _ h
    obtain ⟨i, hi, hx⟩ := List.mem_flatMap.1 hx
    obtain ⟨k, hk, rfl⟩ := List.mem_map.1 hx
    obtain ⟨h1, h2⟩ := List.mem_filter.1 hk
    exact ⟨i, k, List.mem_range.1 hi, List.mem_range.1 h1, of_decide_eq_true h2⟩
  · rintro ⟨i, k, h1, h2, h3⟩ he
    have : (⟨(i : Int), (k : Int)⟩ : XPlace) ∈ ([] : List XPlace) := by
      rw [← he]
      exact List.mem_flatMap.2 ⟨i, List.mem_range.2 h1, List.mem_map.2 ⟨k, List.mem_filter.2 ⟨List.mem_range.2 h2, decide_eq_true h3⟩, rfl⟩⟩
    cases this
/-- an overload of the part is one at a place of the reason -/
theorem part_over {p : XProblem} {r : XReason} (hp : smXProblem p) (hr : smXReason r) (hs : Small p) (h1 : okProb p = true) (h2 : okReason p r = true) {ch : List Int} (hf : Fit ch (cnV (partOf p r).variables)) :
    (!(decide (overL (partOf p r) (wayOf (partOf p r) ch) = []))) = r.places.any fun x => decide (capP p x < dem p (wayOf (partOf p r) ch) x) := by
  have hq := part_ok hp hr hs h1 h2
  have hk := Prob.of h1
  obtain ⟨i1, i2, i3, i4⟩ := reason_idx h2
  have hb : ∀ x, dem p (wayOf (partOf p r) ch) x ≤ 576 := by
    intro x
    have := dem_bound (Prob.of hq.ok) hq.small x (w := wayOf (partOf p r) ch) fun vc h => way_mem hf h
    obtain ⟨l1, l2⟩ := way_len hf
    have l3 := hq.small.vars
    have e : dem (partOf p r) (wayOf (partOf p r) ch) x = dem p (wayOf (partOf p r) ch) x := rfl
    rw [e] at this
    omega
  rw [Bool.eq_iff_iff]
  simp only [Bool.not_eq_true', decide_eq_false_iff_not, List.any_eq_true, decide_eq_true_eq]
  rw [← ne_eq, overL_ne, hq.capl]
  constructor
  · rintro ⟨i, k, a1, a2, a3⟩
    have a3 : capP (partOf p r) ⟨(i : Int), (k : Int)⟩ < dem p (wayOf (partOf p r) ch) ⟨(i : Int), (k : Int)⟩ := a3
    have a2 : k < p.cells.length := a2
    rw [hq.cap _ (by simp only; omega) (by simp only; omega)] at a3
    by_cases hm : (⟨(i : Int), (k : Int)⟩ : XPlace) ∈ r.places
    · rw [if_pos hm] at a3; exact ⟨_, hm, a3⟩
    · rw [if_neg hm] at a3; have := hb ⟨(i : Int), (k : Int)⟩; omega
  · rintro ⟨x, hx, hlt⟩
    obtain ⟨b1, b2⟩ := i3 x hx
    have ex : (⟨((x.leaf.toNat : Nat) : Int), ((x.cell.toNat : Nat) : Int)⟩ : XPlace) = x := by
      obtain ⟨a, b⟩ := x
      simp only at b1 b2
      rw [Int.toNat_of_nonneg b1.1, Int.toNat_of_nonneg b2.1]
    refine ⟨x.leaf.toNat, x.cell.toNat, by omega, (by omega : x.cell.toNat < p.cells.length), ?_⟩
    rw [ex, hq.cap x b1 b2, if_pos hx]
    exact hlt
theorem pairs_part (p : XProblem) (r : XReason) : pairsOf p r.variables = (partOf p r).variables.map fun v => v.choices.map fun c => (v, c) := by
  unfold pairsOf partOf; rw [List.map_map]; rfl
theorem m25_eq {p : XProblem} {r : XReason} (hp : smXProblem p) (hr : smXReason r) (hs : Small p) (hv : r.variables.length ≤ 20) :
    m25_overflightref32_Proves p r = some (bif okProb p then (bif okReason p r then (provesB p r, 0) else (false, 320)) else (false, 270)) := by
  obtain ⟨fu, hfu⟩ : ∃ n : Nat, n = 1000000 := ⟨_, rfl⟩
  unfold m25_overflightref32_Proves
  rw [m21_eq hp hr hs hv, ← hfu]
  cases h1 : okProb p
  · rfl
  cases h2 : okReason p r
  · rfl
  have hq := part_ok hp hr hs h1 h2
  have hk := Prob.of hq.ok
  simp only [cond_true, Option.bind_some, ne_eq, not_true_eq_false, decide_false, cond_false]
  have hv6 := hq.small.vars
  rw [ck_eq (by omega)]
  have key : ∀ (L : List (List Int)) (c : List Int) (fuel : Nat), Enum (nr (cnV (partOf p r).variables).reverse) (c :: L) → (∀ c' ∈ c :: L, Fit c' (cnV (partOf p r).variables).reverse) → L.length + 2 < fuel →
      loop2 (m25_overflightref32_Proves_B0 (partOf p r, 0)) fuel c.reverse true = some ((c :: L).all fun c => r.places.any fun x => decide (capP p x < dem p (wayOf (partOf p r) c.reverse) x), 0) := by
    intro L
    induction L with
    | nil =>
      intro c fuel he hc hfl
      obtain ⟨n, rfl⟩ : ∃ n, fuel = n + 1 + 1 := ⟨fuel - 2, by omega⟩
      have hfc : Fit c.reverse (cnV (partOf p r).variables) := by have := fit_reverse (hc c (List.mem_cons_self ..)); rwa [List.reverse_reverse] at this
      have hcl := (way_len hfc).2
      rw [loop2_succ, m25_overflightref32_Proves_B0, cond_true, m57_eq hq.sm hq.ok hq.small hfc, Option.bind_some]
      have hpo := part_over hp hr hs h1 h2 hfc
      simp only [List.all_cons, List.all_nil, Bool.and_true]
      rw [← hpo]
      by_cases hz : overL (partOf p r) (wayOf (partOf p r) c.reverse) = []
      · simp [hz]
      · have : ¬ ((overL (partOf p r) (wayOf (partOf p r) c.reverse)).length : Int) = 0 := fun e => hz (List.length_eq_zero_iff.1 (by omega))
        simp only [this, decide_false, cond_false, hz, Bool.not_false]
        rw [m58_eq c.reverse hcl (by omega) (fun a ha => by
          obtain ⟨i, hi, e⟩ := List.getElem_of_mem ha
          obtain ⟨b, b1, b2, b3⟩ := fit_get hfc (List.getElem?_eq_getElem (show i < (partOf p r).variables.length by omega))
          rw [List.getElem?_eq_getElem hi, e] at b1; obtain rfl := Option.some.inj b1
          have := (hq.small.var _ (List.getElem_mem (show i < (partOf p r).variables.length by omega))).2.1
          omega)]
        unfold nextOf
        rw [List.reverse_reverse, show nr (cnV (partOf p r).variables).reverse c = none from he]
        simp only [Option.map_none, Option.bind_some]
        rw [loop2_succ, m25_overflightref32_Proves_B0]; rfl
    | cons d L ih =>
      intro c fuel he hc hfl
      obtain ⟨n, rfl⟩ : ∃ n, fuel = n + 1 := ⟨fuel - 1, by omega⟩
      have hfc : Fit c.reverse (cnV (partOf p r).variables) := by have := fit_reverse (hc c (List.mem_cons_self ..)); rwa [List.reverse_reverse] at this
      have hcl := (way_len hfc).2
      rw [loop2_succ, m25_overflightref32_Proves_B0, cond_true, m57_eq hq.sm hq.ok hq.small hfc, Option.bind_some]
      have hpo := part_over hp hr hs h1 h2 hfc
      rw [List.all_cons, ← hpo]
      by_cases hz : overL (partOf p r) (wayOf (partOf p r) c.reverse) = []
      · simp [hz]
      · have : ¬ ((overL (partOf p r) (wayOf (partOf p r) c.reverse)).length : Int) = 0 := fun e => hz (List.length_eq_zero_iff.1 (by omega))
        simp only [this, decide_false, cond_false, hz, Bool.not_false, Bool.true_and]
        rw [m58_eq c.reverse hcl (by omega) (fun a ha => by
          obtain ⟨i, hi, e⟩ := List.getElem_of_mem ha
          obtain ⟨b, b1, b2, b3⟩ := fit_get hfc (List.getElem?_eq_getElem (show i < (partOf p r).variables.length by omega))
          rw [List.getElem?_eq_getElem hi, e] at b1; obtain rfl := Option.some.inj b1
          have := (hq.small.var _ (List.getElem_mem (show i < (partOf p r).variables.length by omega))).2.1
          omega)]
        unfold nextOf
        rw [List.reverse_reverse, show nr (cnV (partOf p r).variables).reverse c = some d from he.1]
        simp only [Option.map_some, Option.bind_some]
        exact ih d n he.2 (fun c' h => hc c' (List.mem_cons_of_mem _ h)) (by simp at hfl; omega)
  have hn1 : ∀ n ∈ (cnV (partOf p r).variables).reverse, 1 ≤ n ∧ n ≤ 8 := by
    intro n hn
    rw [List.mem_reverse] at hn
    obtain ⟨v, hv, rfl⟩ := List.mem_map.1 hn
    have := hk.ch v hv; have := (hq.small.var v hv).2.1
    omega
  obtain ⟨en, t, ht⟩ := allR_enum (ns := (cnV (partOf p r).variables).reverse) fun n hn => (hn1 n hn).1
  have hlen := allR_len (ns := (cnV (partOf p r).variables).reverse) fun n hn => (hn1 n hn).2
  have hz : (List.replicate (partOf p r).variables.length (0 : Int)) = (((cnV (partOf p r).variables).reverse.map fun _ => (0 : Int)).reverse) := by
    rw [← List.map_reverse, List.reverse_reverse, cnV, List.map_map]
    exact (List.map_const' ..).symm
  rw [hz, key t _ fu (by rw [← ht]; exact en) (fun c' h => mem_allR.1 (by rw [ht]; exact h)) (by
    rw [ht] at hlen
    have h8 : 8 ^ ((cnV (partOf p r).variables).reverse).length ≤ 8 ^ 6 := Nat.pow_le_pow_right (by omega) (by simp [cnV]; omega)
    simp only [List.length_cons] at hlen
    have : (8 : Nat) ^ 6 = 262144 := by decide
    omega), ← ht]
  unfold provesB
  rw [pairs_part, ← all_ways]
  rfl
end Go.Fx
/- ReasonProvesSpec. -/
set_option linter.unusedSimpArgs false
set_option linter.unusedVariables false
namespace Go.Fx
open Go Go.RowKit
theorem ReasonProvesSpec_law (p : XProblem) (r : XReason) (hp : smXProblem p) (hr : smXReason r) : m6_overflightlaw32_ReasonProvesSpec p r = some true := by
  unfold m6_overflightlaw32_ReasonProvesSpec
  obtain ⟨b, hb, hS⟩ := m18_eq hp
  obtain ⟨b2, hb2, hS2⟩ := m19_eq r
  rw [sane32, hb, hb2]
  simp only [Option.bind_some, Bool.not_true, cond_false, jn_eq]
  cases b
  · rfl
  cases b2
  · rfl
  have hs := hS rfl
  have hv := (hS2 rfl).1
  simp only [Bool.not_true, cond_false]
  rw [m17_eq hp hr hs hv, m25_eq hp hr hs hv]
  simp
end Go.Fx
namespace Go.Proofs.Ytijekcoafilmeaa.lawReasonProvesSpec
open Go Go.Proofs Go.ChangeShapes Go.WideShapes Go.ChangeAt Go.RowKit Go.Fx
open Go.ChangeMaps (open_string shut_string)
set_option linter.unusedVariables false
set_option maxRecDepth 100000
theorem own : ownKnob Try.prog.godebug = none := by kernel_rfl
theorem laidOut : laidOutB Try.prog = true := by kernel_rfl
set_option maxRecDepth 100000 in
set_option maxHeartbeats 1000000 in
theorem lifted (os : Os) (started : os.Started) (H : Type) (enc : TypeId × Value → H) :
    ReturnsInHanded {} Try.checked os 6 .any (Rows.reasonProvesSpecSpec.pre6 enc Try.prog Try.f6 Rows.reasonProvesSpecRow.domain false) (Rows.reasonProvesSpecSpec.post enc Try.prog Try.f6 false true false false) := by
  refine returnsInHanded_of_change_sized (C := Try.checked) own started (by kernel_rfl) Try.func6
    (ChangeSpec.witness6 (enc := enc) (C := Try.checked) false ⟨#[], #[.agg #[(.slice none 0 0), (.slice none 0 0), (.slice none 0 0)], .agg #[(.slice none 0 0), (.slice none 0 0)]], []⟩ 8 (by kernel_rfl) (by kernel_rfl) (by kernel_rfl) (by kernel_rfl)) ?_
  intro W base args ds gs before hval0 hW hcnd hsz _
  have hval : ∀ (j : Nat) t v, Try.f6.params[j]? = some t → args[j]? = some v → Value.okWide Try.prog W .any base t v := hval0
  have hW' := hW
  obtain ⟨p, q, hA0, hV, rfl, hfz, hnd⟩ := hW
  have hA : DataW.TrodAll enc Try.prog W 0 (fun _ => true) true Try.f6.params.toList args.toList ds p := hA0
  rw [Try.params6] at hA hval
  obtain ⟨v0, vs0, d0, ds0, p0, q0, hargs, rfl, rfl, h0, r0⟩ := trodAll_cons hA
  obtain ⟨v1, vs1, d1, ds1, p1, q1, rfl, rfl, rfl, h1, r1⟩ := trodAll_cons r0
  obtain ⟨rfl, rfl, rfl⟩ := trodAll_nil r1
  obtain rfl : args = #[v0, v1] := by cases args; simp_all
  obtain ⟨rfl, rfl⟩ := trodVars_none hV
  have k0 := h0
  have lt0 : ∀ x ∈ p0, x.block < W.heap.size := by obtain ⟨m, hm⟩ := k0; exact DataW.trod_lt m _ _ _ hm
  obtain ⟨fu0, hf0⟩ := h0
  obtain ⟨p, rr0, sm0⟩ := rd26.2 _ _ _ hf0
  replace sm0 := sm0 (fun n hn => by have := List.all_eq_true.1 hsz n (DataW.weights_mem_each (j := 0) (t := 26) rfl rfl n hn); simpa using this)
  obtain ⟨⟨cs0⟩, rfl, _⟩ := okWide_struct Try.underlying26 (hval 0 26 v0 rfl rfl)
  replace rr0 : rXProblem.rd W [] cs0 p := rr0
  obtain ⟨_, _, rfl, ⟨a_p_cells, c_p_cells, rfl, f_p_cells⟩, ⟨_, _, rfl, ⟨a_p_capacity, c_p_capacity, rfl, f_p_capacity⟩, ⟨a_p_variables, c_p_variables, rfl, f_p_variables⟩⟩⟩ := rr0
  have k1 := h1
  have lt1 : ∀ x ∈ p1, x.block < W.heap.size := by obtain ⟨m, hm⟩ := k1; exact DataW.trod_lt m _ _ _ hm
  obtain ⟨fu1, hf1⟩ := h1
  obtain ⟨r_, rr1, sm1⟩ := rd34.2 _ _ _ hf1
  replace sm1 := sm1 (fun n hn => by have := List.all_eq_true.1 hsz n (DataW.weights_mem_each (j := 1) (t := 34) rfl rfl n hn); simpa using this)
  obtain ⟨⟨cs1⟩, rfl, _⟩ := okWide_struct Try.underlying34 (hval 1 34 v1 rfl rfl)
  replace rr1 : rXReason.rd W [] cs1 r_ := rr1
  obtain ⟨_, _, rfl, ⟨a_r__variables, c_r__variables, rfl, f_r__variables⟩, ⟨a_r__places, c_r__places, rfl, f_r__places⟩⟩ := rr1
  have hm : m6_overflightlaw32_ReasonProvesSpec p r_ = some true := ReasonProvesSpec_law _ _ sm0 sm1
  have hc := Fn.calls (c6_overflightlaw32_ReasonProvesSpec (p := p) (r_ := r_) (w := W) (O := []) (by simp) f_p_cells f_p_capacity f_p_variables f_r__variables f_r__places hm)
  clear hA0 hval0
  refine Calls.mono hc ?_
  rintro e W' ⟨v, rfl, bel, hv⟩
  replace bel := bel.below; obtain rfl : v = .bool true := hv
  exact ⟨_, rfl, _, _, _, [], _, [], hW', trodAll_mk1 (shut_bool Try.underlying4 _), (trodAll_cons_mk (Below.trod laidOut (by kernel_rfl) (of_decide_eq_true (by kernel_rfl)) k0 bel lt0) (trodAll_cons_mk (Below.trod laidOut (by kernel_rfl) (of_decide_eq_true (by kernel_rfl)) k1 bel lt1) trodAll_mk0)), rfl, bel.frame _, fun h => by cases h⟩
theorem over : Rows.reasonProvesSpecRow.holds Try.pinned (OpenSpec.ofChange Rows.reasonProvesSpecSpec) :=
  OpenClaim.holds_of_wide 6 Try.f6 rfl rfl rfl rfl rfl rfl rfl ⟨rfl, rfl, rfl, rfl, rfl⟩ rfl rfl rfl rfl rfl (by kernel_rfl) Try.func6 (by kernel_rfl)
    (of_decide_eq_true (by kernel_rfl)) (by unfold Func.isWrapper; first | (rw [if_pos (by decide +kernel)]; kernel_rfl) | (rw [if_neg (by decide +kernel)]; exact ⟨rfl, rfl⟩))
    (fun os started H enc _ => lifted os started H enc)
theorem proved : Rows.ReasonProvesSpecSaid := over
end Go.Proofs.Ytijekcoafilmeaa.lawReasonProvesSpec
