/- Best and Verify answer as the specification does, over every assignment of flights to slots. -/
import Derived.Test.YtnenhpedfcngbaaBestSpec5
import Derived.Test.YtnenhpedfcngbaaRows
import Derived.WalkKit
import Derived.ShutString
/- Chapter 37: validity, few, assignments, costs. -/
set_option linter.unusedSimpArgs false
set_option linter.unusedVariables false
namespace Go.Fx
open Go Go.RowKit
theorem any_range' {p : Nat → Bool} (i n : Nat) : (List.range' i (n + 1)).any p = (p i || (List.range' (i + 1) n).any p) := by rw [List.range'_succ]; rfl
theorem getD_getElem {α} [Inhabited α] {l : List α} {i : Nat} (h : i < l.length) : l.getD i default = l[i] := by simp [h]
theorem getD_mem {α} [Inhabited α] {l : List α} {i : Nat} (h : i < l.length) : l.getD i default ∈ l := by rw [getD_getElem h]; exact List.getElem_mem _
def badK (row : List Int) (i k : Nat) : Bool := decide (row.getD k default < -1) || (decide (1048576 < row.getD k default) || (decide (k = i) && decide (row.getD k default < 0)))
theorem badK_any {row : List Int} {i : Nat} (h : i < row.length) : (List.range' 0 row.length).any (badK row i) = (decide (row.getD i default < 0) || row.any badC) := by
  rw [Bool.eq_iff_iff]
  simp only [List.any_eq_true, Bool.or_eq_true, decide_eq_true_eq, List.mem_range'_1, Nat.zero_le, true_and, Nat.zero_add]
  constructor
  · rintro ⟨k, hk, hb⟩
    unfold badK at hb
    simp only [Bool.or_eq_true, Bool.and_eq_true, decide_eq_true_eq] at hb
    rcases hb with hb | hb | ⟨rfl, hb⟩
    · exact .inr ⟨_, getD_mem hk, by unfold badC; simp only [← getD_getElem hk, hb, decide_true, Bool.true_or, Bool.or_true]⟩
    · exact .inr ⟨_, getD_mem hk, by unfold badC; simp only [← getD_getElem hk, hb, decide_true, Bool.true_or, Bool.or_true]⟩
    · exact .inl hb
  · rintro (hb | ⟨c, hc, hb⟩)
    · exact ⟨i, h, by simp only [badK, hb, decide_true, Bool.and_true, Bool.or_true]⟩
    · obtain ⟨k, hk, rfl⟩ := List.getElem_of_mem hc
      refine ⟨k, hk, ?_⟩
      unfold badC at hb; simp only [Bool.or_eq_true, decide_eq_true_eq] at hb
      unfold badK; rw [getD_getElem hk]
      rcases hb with hb | hb <;> simp [hb]
theorem m54_eq (r : XRound) (hs : smXRound r) : m54_overflightref37_Valid r = some (valB r) := by
  have hcl : r.owners.length < 9223372036854775807 := by have := hs.2.1.1; omega
  unfold m54_overflightref37_Valid
  have main : shapeB r = true → loop1 (m54_overflightref37_Valid_B0 r) (((r.owners.length : Int) - 0).toNat + 1) 0 = some ((List.range r.owners.length).all (fun i => !rowBad r i)) := by
    intro hsh
    obtain ⟨s1, s2, s3, s4⟩ := shape_props hsh
    rw [all_range]
    refine up_listI (fun i t => some ((List.range' i t.length).all (fun i => !rowBad r i))) r.owners hcl ?_ ?_ (show r.owners.length < ((r.owners.length : Int) - 0).toNat + 1 by omega)
    · intro sf; unfold m54_overflightref37_Valid_B0; simp
    · intro sf i x t h1 h2 h3 ih
      have hrow : r.costs.getD i default ∈ r.costs := getD_mem (by omega)
      have hrl := (hs.2.2.2 _ hrow)
      rw [List.length_cons, all_range']
      unfold m54_overflightref37_Valid_B0
      have c1 : (i : Int) < (r.owners.length : Int) := by omega
      have g0 : r.costs.getD (i : Int).toNat default = r.costs.getD i default := rfl
      have g1 : r.owners.getD (i : Int).toNat default = r.owners.getD i default := rfl
      simp only [decide_eq_true c1, cond_true, jn_eq, g0, g1]
      have inner : ∀ row : List Int, row = r.costs.getD i default → (row.length : Int) = r.slots → loop1 (m54_overflightref37_Valid_B1 r (i : Int) sf) ((r.slots - 0).toNat + 1) 0 = bif (decide (row.getD i default < 0) || row.any badC) then some false else sf (IntKind.wrap .i64 ((i : Int) + 1)) := by
        intro row hr hl
        rw [← badK_any (row := row) (i := i) (by omega)]
        refine up_listI (fun k t => bif (List.range' k t.length).any (badK row i) then some false else sf (IntKind.wrap .i64 ((i : Int) + 1))) row (by omega) ?_ ?_ (by omega)
        · intro sg; unfold m54_overflightref37_Valid_B1; simp [hl]
        · intro sg k y u h1 h2 h3 ih
          have g0 : r.costs.getD (i : Int).toNat default = row := by rw [hr]; rfl
          have g2 : row.getD (k : Int).toNat default = row.getD k default := rfl
          have c1 : (k : Int) < r.slots := by omega
          have e1 : ((k : Int) = (i : Int)) = (k = i) := by apply propext; omega
          rw [List.length_cons, any_range']
          unfold m54_overflightref37_Valid_B1
          simp only [c1, decide_true, cond_true, jn_eq, g0, g2, h3, ih, e1]
          rw [ck_eq (by omega), ck_eq (by omega)]
          have hb : badK row i k = (decide (row.getD k default < -1) || (decide (1048576 < row.getD k default) || (decide (k = i) && decide (row.getD k default < 0)))) := rfl
          rw [hb]
          have a1 : (0 : Int) ≤ i ∧ (i : Int) < r.costs.length := by omega
          have a2 : (0 : Int) ≤ k ∧ (k : Int) < row.length := by omega
          generalize (List.range' (k + 1) u.length).any (badK row i) = rest
          generalize row.getD k default = c
          simp only [ck_eq a1, ck_eq a2]
          by_cases q1 : c < -1
          · simp [q1]
          by_cases q2 : 1048576 < c
          · simp [q1, q2]
          by_cases q3 : k = i
          · by_cases q4 : c < 0
            · simp only [q1, q2, q3, q4]; rfl
            · simp only [q1, q2, q3, q4]; rfl
          · simp [q1, q2, q3]
      have hb : rowBad r i = ((decide (r.owners.getD i default < 0) || decide (7 < r.owners.getD i default)) || (!decide (((r.costs.getD i default).length : Int) = r.slots) || (decide ((r.costs.getD i default).getD i default < 0) || (r.costs.getD i default).any badC))) := rfl
      rw [hb]
      replace inner := inner _ rfl
      rw [h3] at inner
      generalize (List.range' (i + 1) t.length).all (fun i => !rowBad r i) = rest at *
      clear hb hrl hrow g0 g1 hs
      generalize r.costs.getD i default = row at *
      generalize r.owners.getD i default = o at *
      generalize row.getD i default = dg at *
      generalize row.any badC = bb at *
      have a1 : (0 : Int) ≤ i ∧ (i : Int) < r.owners.length := by omega
      have a2 : (0 : Int) ≤ i ∧ (i : Int) < r.costs.length := by omega
      simp only [ck_eq a1, ck_eq a2]
      by_cases k1 : o < 0
      · simp [k1]
      by_cases k2 : 7 < o
      · have : 8 ≤ o := by omega
        simp [k1, k2, this, ck_eq a1]
      have k2' : ¬ 8 ≤ o := by omega
      by_cases k3 : (row.length : Int) = r.slots
      · simp only [k1, k2, k2', k3, ck_eq a1, ck_eq a2, inner k3, ih, ne_eq, not_true_eq_false, decide_false, cond_false]
        generalize decide (dg < 0) = d1
        cases d1 <;> cases bb <;> rfl
      · simp [k1, k2, k2', k3, ck_eq a1, ck_eq a2]
  simp only [jn_eq]
  unfold valB
  cases hsh : shapeB r
  · unfold shapeB at hsh
    by_cases k1 : r.slots < 1
    · simp [k1]
    by_cases k2 : 8 < r.slots
    · simp [k1, k2]
    by_cases k3 : r.slots < (r.owners.length : Int)
    · simp [k1, k2, k3]
    by_cases k4 : (r.costs.length : Int) = (r.owners.length : Int)
    · simp [k1, k2, k3, k4] at hsh
    · simp [k1, k2, k3, k4]
  · have hm := main hsh
    obtain ⟨s1, s2, s3, s4⟩ := shape_props hsh
    have k1 : ¬ r.slots < 1 := by omega
    have k2 : ¬ 8 < r.slots := by omega
    have k3 : ¬ r.slots < (r.owners.length : Int) := by omega
    have k4 : (r.costs.length : Int) = (r.owners.length : Int) := by omega
    simp only [k1, k2, k3, k4, decide_false, cond_false, ne_eq, not_true_eq_false, Bool.true_and]
    exact hm
def fewB (r : XRound) : Bool := !(decide (12 < (r.owners.length : Int)) || decide (12 < (r.costs.length : Int))) && (r.costs.all (fun c => !decide (20 < (c.length : Int))) && (!valB r || decide ((r.owners.length : Int) ≤ 5)))
theorem m29_eq (r : XRound) (hs : smXRound r) : m29_overflightref37_Few r = some (fewB r) := by
  have hcl : r.costs.length < 9223372036854775807 := by have := hs.2.2.1; omega
  unfold m29_overflightref37_Few
  have main : loop1 (m29_overflightref37_Few_B0 r) (((r.costs.length : Int) - 0).toNat + 1) 0 = some (r.costs.all (fun c => !decide (20 < (c.length : Int))) && (!valB r || decide ((r.owners.length : Int) ≤ 5))) := by
    refine up_list0 (fun t => some (t.all (fun c => !decide (20 < (c.length : Int))) && (!valB r || decide ((r.owners.length : Int) ≤ 5)))) r.costs hcl ?_ ?_ (show r.costs.length < ((r.costs.length : Int) - 0).toNat + 1 by omega)
    · intro sf; unfold m29_overflightref37_Few_B0; simp only [m54_eq r hs]; cases valB r <;> simp
    · intro sf i x t h1 h2 h3 ih
      unfold m29_overflightref37_Few_B0
      have g0 : r.costs.getD (i : Int).toNat default = x := getD_of h2
      have c1 : (i : Int) < (r.costs.length : Int) := by omega
      simp only [c1, decide_true, cond_true, g0, h3, ih, List.all_cons]
      rw [ck_eq (by simp)]
      cases decide (20 < (x.length : Int)) <;> simp
  simp only [jn_eq, main]
  unfold fewB
  cases decide (12 < (r.owners.length : Int)) <;> cases decide (12 < (r.costs.length : Int)) <;> simp
/-- what flight f costs at slot s -/
def cst (r : XRound) (f s : Int) : Int := (r.costs.getD f.toNat default).getD s.toNat default
def ownr (r : XRound) (f : Int) : Int := r.owners.getD f.toNat default
/-- slot i of s is as it should be -/
def okS (r : XRound) (s : List Int) (i : Nat) : Bool := !(decide (s.getD i default < 0) || (decide (r.slots ≤ s.getD i default) || (decide (cst r i (s.getD i default) < 0) || (s.take i).any (fun x => decide (s.getD i default = x)))))
def asgB (r : XRound) (s : List Int) : Bool := decide (s.length = r.owners.length) && (List.range s.length).all (okS r s)
theorem m53_eq (r : XRound) (s : List Int) (hv : Val r) (hl : s.length < 9223372036854775807) : m53_coalition_allowed r s = some (asgB r s) := by
  unfold m53_coalition_allowed asgB
  by_cases hc : s.length = r.owners.length
  · have : ¬ (s.length : Int) ≠ r.owners.length := by omega
    simp only [this, decide_eq_true hc, decide_false, cond_false, Bool.true_and]
    rw [all_range]
    refine up_listI (fun i t => some ((List.range' i t.length).all (okS r s))) s hl ?_ ?_ (show s.length < ((s.length : Int) - 0).toNat + 1 by omega)
    · intro sf; unfold m53_coalition_allowed_B0; simp
    · intro sf i x t h1 h2 h3 ih
      rw [List.length_cons, all_range']
      unfold m53_coalition_allowed_B0
      have g0 : s.getD (i : Int).toNat default = s.getD i default := rfl
      have c1 : (i : Int) < (s.length : Int) := by omega
      have c2 : (0 : Int) ≤ i ∧ (i : Int) < s.length := by omega
      have c3 : (0 : Int) ≤ i ∧ (i : Int) ≤ s.length := by omega
      have c4 : (0 : Int) ≤ i ∧ (i : Int) < r.costs.length := by have := hv.s4; omega
      have e1 : (s.drop 0).take ((i : Int).toNat - 0) = s.take i := by simp
      have hm := m48_eq (s.take i) (s.getD i default) (by rw [List.length_take]; omega)
      have e2 : (r.costs.getD (i : Int).toNat default).getD (s.getD i default).toNat default = cst r i (s.getD i default) := rfl
      have hr := hv.row i (by omega)
      have hr' : ((r.costs.getD (i : Int).toNat default).length : Int) = r.slots := hr
      have hb : okS r s i = !(decide (s.getD i default < 0) || (decide (r.slots ≤ s.getD i default) || (decide (cst r i (s.getD i default) < 0) || (s.take i).any (fun x => decide (s.getD i default = x))))) := rfl
      simp only [c1, decide_true, cond_true, jn_eq, ck_eq c2, g0, h3, ih, e1, hm, ck_eq c3, ck_eq c4, e2, hr', hb, Option.bind_some]
      generalize cst r i (s.getD i default) = c
      generalize (s.take i).any (fun x => decide (s.getD i default = x)) = b
      generalize s.getD i default = v
      by_cases k1 : v < 0
      · simp [k1]
      by_cases k2 : r.slots ≤ v
      · simp [k1, k2]
      have c5 : (0 : Int) ≤ v ∧ v < r.slots := by omega
      simp only [ck_eq c5]
      by_cases k3 : c < 0
      · simp [k1, k2, k3]
      · cases b <;> simp [k1, k2, k3]
  · have : (s.length : Int) ≠ r.owners.length := by omega
    simp [this, hc]
theorem m26_eq (r : XRound) (s : List Int) (hs : smXRound r) (hl : s.length < 9223372036854775807) : m26_coalition_Allowed r s = some (bif valB r then (asgB r s, 0) else (false, 370)) := by
  unfold m26_coalition_Allowed
  rw [m25_eq r hs]
  cases hv : valB r
  · rfl
  · simp [m53_eq r s (Val.of hv) hl]
def goodB (r : XRound) (s : List Int) : Bool := valB r && asgB r s
theorem m45_eq (r : XRound) (s : List Int) (hs : smXRound r) (hl : s.length < 9223372036854775807) : m45_coalition_check r s = some (bif goodB r s then 0 else 370) := by
  unfold m45_coalition_check
  rw [m26_eq r s hs hl]
  unfold goodB
  cases hv : valB r
  · rfl
  · cases ha : asgB r s <;> rfl
def ownL (r : XRound) : List Int := (List.range r.owners.length).map fun i : Nat => (i : Int)
theorem m47_eq (r : XRound) (hv : Val r) : m47_coalition_own r = some (ownL r) := by
  unfold m47_coalition_own ownL
  have hn : r.owners.length ≤ 8 := by have := hv.s3; have := hv.s2; omega
  rw [List.range_eq_range']
  refine up_listB (fun i s => s.length = i) (fun i t s => some (s ++ (List.range' i t.length).map fun i : Nat => (i : Int))) r.owners (by omega) ?_ ?_ (by omega) (by rfl)
  · intro sf s hI; unfold m47_coalition_own_B0; simp
  · intro sf i s x t h1 h2 h3 hI ih
    unfold m47_coalition_own_B0
    have c1 : (i : Int) < (r.owners.length : Int) := by omega
    simp only [c1, decide_true, cond_true, h3]
    rw [ck_eq (by simp [hI]; omega), ih _ (by simp [hI])]
    simp [List.range'_succ]
end Go.Fx
/- Chapter 37: costs, worse. -/
set_option linter.unusedSimpArgs false
set_option linter.unusedVariables false
namespace Go.Fx
open Go Go.RowKit
theorem map_range_set {f g : Nat → Int} {k n : Nat} {v : Int} (hk : k < n) (hv : g k = v) (h : ∀ j, j ≠ k → g j = f j) : ((List.range n).map f).set k v = (List.range n).map g := by
  apply List.ext_getElem
  · simp
  · intro i h1 h2
    simp at h1
    by_cases e : k = i
    · subst e; simp [hv]
    · rw [List.getElem_set_ne e]; simp [h i (Ne.symm e)]
theorem getD_map_range {f : Nat → Int} {k n : Nat} (hk : k < n) : ((List.range n).map f).getD k default = f k := by simp [hk]
theorem csum_bound {own : Int → Int} {cost : Int → Int → Int} {o b : Int} {l : List (Int × Int)} (hb : 0 ≤ b) (h : ∀ p ∈ l, -b ≤ cost p.1 p.2 ∧ cost p.1 p.2 ≤ b) : -(b * l.length) ≤ csum own cost o l ∧ csum own cost o l ≤ b * l.length := by
  induction l with
  | nil => simp [csum]
  | cons p t ih =>
    obtain ⟨f, s⟩ := p
    have := ih fun p hp => h p (List.mem_cons_of_mem _ hp)
    have h1 := h (f, s) (List.mem_cons_self ..)
    simp only at h1
    simp only [csum, List.length_cons]
    have e : b * ((t.length + 1 : Nat) : Int) = b * t.length + b := by rw [Int.natCast_add, Int.mul_add]; simp
    rw [e]
    split <;> omega
/-- the costs of all airlines -/
def cvec (r : XRound) (fl s : List Int) : List Int := (List.range 8).map fun o : Nat => csum (ownr r) (cst r) (o : Int) (fl.zip s)
/-- flight f may have slot s -/
def fits (r : XRound) (f s : Int) : Prop := 0 ≤ f ∧ f < r.owners.length ∧ 0 ≤ s ∧ s < r.slots
theorem fits.cst {r : XRound} {f s : Int} (hv : Val r) (h : fits r f s) : -1 ≤ cst r f s ∧ cst r f s ≤ 1048576 := by
  obtain ⟨a, b, c, d⟩ := h
  have hr := hv.row f.toNat (by omega)
  exact hv.cost f.toNat (by omega) _ (getD_mem (by omega))
theorem zip_take_succ {l m : List Int} {i : Nat} (h1 : i < l.length) (h2 : i < m.length) : (l.zip m).take (i + 1) = (l.zip m).take i ++ [(l.getD i default, m.getD i default)] := by
  rw [List.take_succ_eq_append_getElem (by simp; omega)]
  simp [h1, h2]
theorem m46_eq (r : XRound) (fl s : List Int) (hv : Val r) (hl : fl.length ≤ 20) (hls : fl.length ≤ s.length) (hf : ∀ i < fl.length, fits r (fl.getD i default) (s.getD i default)) : m46_coalition_costs r fl s = some (cvec r fl s) := by
  unfold m46_coalition_costs
  rw [ck_eq (by decide)]
  have hz : (fl.zip s).take fl.length = fl.zip s := by rw [List.take_of_length_le (by simp; omega)]
  refine up_listB (fun i c => c = (List.range 8).map fun o : Nat => csum (ownr r) (cst r) (o : Int) ((fl.zip s).take i)) (fun i t c => some (cvec r fl s)) fl (by omega) ?_ ?_ (by omega) (by rfl)
  · intro sf c hI; unfold m46_coalition_costs_B0; rw [hz] at hI; simp [hI, cvec]
  · intro sf i c x t h1 h2 h3 hI ih
    unfold m46_coalition_costs_B0
    obtain ⟨a1, a2, a3, a4⟩ := hf i h1
    have g0 : fl.getD (i : Int).toNat default = fl.getD i default := rfl
    have g1 : s.getD (i : Int).toNat default = s.getD i default := rfl
    have hc := fits.cst hv (hf i h1)
    have hbound : ∀ o, -(1048576 * 20) ≤ csum (ownr r) (cst r) o ((fl.zip s).take i) ∧ csum (ownr r) (cst r) o ((fl.zip s).take i) ≤ 1048576 * 20 := by
      intro o
      have := csum_bound (own := ownr r) (cost := cst r) (o := o) (b := 1048576) (l := (fl.zip s).take i) (by omega) (fun p hp => by
        obtain ⟨j, hj, rfl⟩ := List.getElem_of_mem (List.mem_of_mem_take hp)
        simp at hj
        have := fits.cst hv (hf j (by omega))
        rw [getD_getElem (by omega), getD_getElem (by omega)] at this
        simp only [List.getElem_zip]; omega)
      have hle : ((fl.zip s).take i).length ≤ 20 := by simp; omega
      have : (1048576 : Int) * ((fl.zip s).take i).length ≤ 1048576 * 20 := by omega
      omega
    have e1 : (r.costs.getD (fl.getD i default).toNat default).getD (s.getD i default).toNat default = cst r (fl.getD i default) (s.getD i default) := rfl
    have e2 : r.owners.getD (fl.getD i default).toNat default = ownr r (fl.getD i default) := rfl
    have hro := hv.row (fl.getD i default).toNat (by omega)
    have ho := hv.own (fl.getD i default).toNat (by omega)
    rw [e2] at ho
    have hs4 := hv.s4
    simp only [show (i : Int) < (fl.length : Int) by omega, decide_true, cond_true, g0, g1, e1, e2]
    have hlen : c.length = 8 := by rw [hI]; simp
    have c1 : (0 : Int) ≤ i ∧ (i : Int) < fl.length := by omega
    have c2 : (0 : Int) ≤ fl.getD i default ∧ fl.getD i default < r.owners.length := ⟨a1, a2⟩
    have c3 : (0 : Int) ≤ ownr r (fl.getD i default) ∧ ownr r (fl.getD i default) < c.length := by omega
    have c4 : (0 : Int) ≤ fl.getD i default ∧ fl.getD i default < r.costs.length := by omega
    have c5 : (0 : Int) ≤ i ∧ (i : Int) < s.length := by omega
    have c6 : (0 : Int) ≤ s.getD i default ∧ s.getD i default < ((r.costs.getD (fl.getD i default).toNat default).length : Int) := by omega
    have cs := zip_take_succ h1 (show i < s.length by omega)
    simp only [true_and, ck_True, ck_eq c1, ck_eq c2, ck_eq c3, ck_eq c4, ck_eq c5, ck_eq c6, h3]
    refine ih _ ?_
    generalize fl.getD i default = f at *
    generalize s.getD i default = v at *
    have hk : ((ownr r f).toNat : Int) = ownr r f := by omega
    have hg : c.getD (ownr r f).toNat default = csum (ownr r) (cst r) (ownr r f) ((fl.zip s).take i) := by rw [hI, getD_map_range (by omega), hk]
    rw [hg, wrap_i64 (by have := hbound (ownr r f); omega) (by have := hbound (ownr r f); omega), hI]
    refine map_range_set (by omega) ?_ ?_
    · rw [cs, csum_append, hk]; simp [csum]
    · intro j hj; rw [cs, csum_append]; simp [csum]; omega
theorem asg_props {r : XRound} {s : List Int} (h : asgB r s = true) : s.length = r.owners.length ∧ ∀ i < s.length, 0 ≤ s.getD i default ∧ s.getD i default < r.slots ∧ 0 ≤ cst r i (s.getD i default) ∧ ∀ j < i, s.getD j default ≠ s.getD i default := by
  unfold asgB at h
  simp only [Bool.and_eq_true, decide_eq_true_eq, List.all_eq_true, List.mem_range] at h
  refine ⟨h.1, fun i hi => ?_⟩
  have := h.2 i hi
  unfold okS at this
  simp only [Bool.not_eq_true', Bool.or_eq_false_iff, decide_eq_false_iff_not, List.any_eq_false, decide_eq_true_eq] at this
  obtain ⟨b1, b2, b3, b4⟩ := this
  refine ⟨by omega, by omega, by omega, fun j hj e => b4 (s.getD j default) ?_ e.symm⟩
  have : (s.take i).getD j default ∈ s.take i := getD_mem (by rw [List.length_take]; omega)
  rwa [show (s.take i).getD j default = s.getD j default from by simp [hj]] at this
theorem ownL_len (r : XRound) : (ownL r).length = r.owners.length := by simp [ownL]
theorem ownL_getD {r : XRound} {i : Nat} (h : i < r.owners.length) : (ownL r).getD i default = i := by simp [ownL, h]
theorem fits_asg {r : XRound} {s : List Int} (hv : Val r) (h : asgB r s = true) : ∀ i < (ownL r).length, fits r ((ownL r).getD i default) (s.getD i default) := by
  intro i hi
  rw [ownL_len] at hi
  obtain ⟨e, h2⟩ := asg_props h
  obtain ⟨b1, b2, _, _⟩ := h2 i (by omega)
  rw [ownL_getD hi]
  exact ⟨by omega, by omega, b1, b2⟩
theorem fits_own {r : XRound} (hv : Val r) : ∀ i < (ownL r).length, fits r ((ownL r).getD i default) ((ownL r).getD i default) := by
  intro i hi
  rw [ownL_len] at hi
  rw [ownL_getD hi]
  have := hv.s3
  exact ⟨by omega, by omega, by omega, by omega⟩
theorem Val.n8 {r : XRound} (hv : Val r) : r.owners.length ≤ 8 := by have := hv.s3; have := hv.s2; omega
theorem cvec_asg {r : XRound} {s : List Int} (hv : Val r) (h : asgB r s = true) : m46_coalition_costs r (ownL r) s = some (cvec r (ownL r) s) :=
  m46_eq r _ s hv (by have := hv.n8; rw [ownL_len]; omega) (by rw [ownL_len, (asg_props h).1]; exact Nat.le_refl _) (fits_asg hv h)
theorem cvec_own {r : XRound} (hv : Val r) : m46_coalition_costs r (ownL r) (ownL r) = some (cvec r (ownL r) (ownL r)) :=
  m46_eq r _ _ hv (by have := hv.n8; rw [ownL_len]; omega) (Nat.le_refl _) (fits_own hv)
theorem good_props {r : XRound} {s : List Int} (h : goodB r s = true) : Val r ∧ asgB r s = true := by
  unfold goodB at h; simp only [Bool.and_eq_true] at h; exact ⟨Val.of h.1, h.2⟩
/-- the airlines that are worse off -/
def worseL (r : XRound) (s : List Int) : List Int := ((List.range 8).filter fun i => decide ((cvec r (ownL r) (ownL r)).getD i default < (cvec r (ownL r) s).getD i default)).map fun i : Nat => (i : Int)
theorem filter_range' {p : Nat → Bool} (i n : Nat) : (List.range' i (n + 1)).filter p = (if p i then [i] else []) ++ (List.range' (i + 1) n).filter p := by
  rw [List.range'_succ, List.filter_cons]; split <;> simp
theorem m27_eq (r : XRound) (s : List Int) (hs : smXRound r) (hl : s.length < 9223372036854775807) : m27_coalition_Worse r s = some (bif goodB r s then (worseL r s, 0) else ([], 370)) := by
  unfold m27_coalition_Worse
  rw [m45_eq r s hs hl]
  cases hg : goodB r s
  · rfl
  · obtain ⟨hv, ha⟩ := good_props hg
    simp only [cond_true, ne_eq, not_true_eq_false, decide_false, Option.bind_some, m47_eq r hv, cvec_asg hv ha, cvec_own hv, cond_false]
    unfold worseL
    rw [List.range_eq_range']
    have e1 : (cvec r (ownL r) (ownL r)).length = 8 := by simp [cvec]
    have e2 : (cvec r (ownL r) s).length = 8 := by simp [cvec]
    generalize cvec r (ownL r) (ownL r) = b at *
    generalize cvec r (ownL r) s = a at *
    rw [← e2]
    refine up_listB (fun i l => l.length ≤ i) (fun i t l => some (l ++ ((List.range' i t.length).filter fun i => decide (b.getD i default < a.getD i default)).map (fun i : Nat => (i : Int)), 0)) a (by omega) ?_ ?_ (by omega) (by exact Nat.le_refl _)
    · intro sf l hI; unfold m27_coalition_Worse_B0; simp
    · intro sf i l x t h1 h2 h3 hI ih
      unfold m27_coalition_Worse_B0
      have g0 : a.getD (i : Int).toNat default = a.getD i default := rfl
      have g1 : b.getD (i : Int).toNat default = b.getD i default := rfl
      have c1 : (0 : Int) ≤ i ∧ (i : Int) < a.length := by omega
      have c2 : (0 : Int) ≤ i ∧ (i : Int) < b.length := by omega
      have c3 : (l.length + [(i : Int)].length) * 8 ≤ 140737488355328 := by simp; omega
      simp only [decide_eq_true c1.2, cond_true, g0, g1, h3, ck_eq c1, ck_eq c2, ck_eq c3]
      rw [show (x :: t).length = t.length + 1 from rfl, filter_range']
      by_cases q : b.getD i default < a.getD i default
      · rw [decide_eq_true q, cond_true, ih _ (by simp; omega)]; simp
      · rw [decide_eq_false q, cond_false, ih _ (by omega)]; simp
end Go.Fx
set_option linter.unusedVariables false
set_option linter.unusedSimpArgs false
set_option maxRecDepth 100000
set_option maxHeartbeats 0
namespace Go.Fx
open Go Go.RowKit Go.Proofs
end Go.Fx
/- Chapter 37: deviations and what blocks. -/
set_option linter.unusedSimpArgs false
set_option linter.unusedVariables false
namespace Go.Fx
open Go Go.RowKit
/-- the flights of a group -/
def flB (r : XRound) (group : List Int) : List Int := (ownL r).filter fun f => group.any fun x => decide (ownr r f = x)
theorem mem_ownL {r : XRound} {f : Int} : f ∈ ownL r ↔ 0 ≤ f ∧ f < r.owners.length := by
  unfold ownL; simp only [List.mem_map, List.mem_range]
  constructor
  · rintro ⟨i, hi, rfl⟩; omega
  · rintro ⟨h1, h2⟩; exact ⟨f.toNat, by omega, by omega⟩
theorem mem_flB {r : XRound} {g : List Int} {f : Int} : f ∈ flB r g ↔ (0 ≤ f ∧ f < r.owners.length) ∧ ownr r f ∈ g := by
  unfold flB; rw [List.mem_filter, mem_ownL]
  simp only [List.any_eq_true, decide_eq_true_eq, exists_eq_right']
theorem flB_len (r : XRound) (g : List Int) : (flB r g).length ≤ r.owners.length := by have := List.length_filter_le (fun f => g.any fun x => decide (ownr r f = x)) (ownL r); rwa [ownL_len] at this
def okf (r : XRound) (fl : List Int) (n : Nat) (s : Int) : Bool := decide (0 ≤ cst r (fl.getD n default) s)
def devL (r : XRound) (fl : List Int) : List (List Int) := dv fl (okf r fl) fl.length []
theorem contains_any (b : List Int) (s : Int) : (b.any fun x => decide (s = x)) = b.contains s := by
  rw [Bool.eq_iff_iff]; simp
theorem dev_eq (r : XRound) (fl : List Int) (hv : Val r) (hl : fl.length ≤ 8) (hf : ∀ f ∈ fl, 0 ≤ f ∧ f < r.owners.length) : ∀ (N : Nat) (b : List Int), b.length ≤ fl.length → fl.length - b.length < N → fixO (fun fx20 x21 => m89_coalition_deviations_1_1 x21 fl r fx20) N b = some (dv fl (okf r fl) (fl.length - b.length) b) := by
  intro N
  induction N with
  | zero => intro b _ h; omega
  | succ N ih =>
    intro b hb hN
    show m89_coalition_deviations_1_1 b fl r (fixO (fun fx20 x21 => m89_coalition_deviations_1_1 x21 fl r fx20) N) = _
    generalize fixO (fun fx20 x21 => m89_coalition_deviations_1_1 x21 fl r fx20) N = FX at ih ⊢
    unfold m89_coalition_deviations_1_1
    by_cases q : b.length = fl.length
    · have q' : (b.length : Int) = fl.length := by omega
      rw [decide_eq_true q', cond_true]
      unfold m40_slices_Cloneint_int_
      rw [ck_eq (by simp; omega), show fl.length - b.length = 0 by omega]
      rfl
    · have q' : ¬ (b.length : Int) = fl.length := by omega
      rw [decide_eq_false q', cond_false]
      obtain ⟨k, hk⟩ : ∃ k, fl.length - b.length = k + 1 := ⟨fl.length - b.length - 1, by omega⟩
      rw [hk]
      refine up_list0 (fun t => some (t.flatMap fun s => bif okf r fl b.length s && !b.contains s then dv fl (okf r fl) k (b ++ [s]) else [])) fl (by omega) ?_ ?_ (by omega)
      · intro sf; unfold m89_coalition_deviations_1_1_B0; simp
      · intro sf i x t h1 h2 h3 ih2
        have hx : fl.getD (i : Int).toNat default = x := getD_of h2
        have hxm : x ∈ fl := List.mem_of_getElem? h2
        have hbm : fl.getD b.length default ∈ fl := getD_mem (by omega)
        have a1 := hf _ hxm
        have a2 := hf _ hbm
        have hrow := hv.row (fl.getD b.length default).toNat (by omega)
        unfold m89_coalition_deviations_1_1_B0
        have c1 : (0 : Int) ≤ i ∧ (i : Int) < fl.length := by omega
        have c2 : (0 : Int) ≤ (b.length : Int) ∧ (b.length : Int) < fl.length := by omega
        have c3 : (0 : Int) ≤ fl.getD b.length default ∧ fl.getD b.length default < r.costs.length := by have := hv.s4; omega
        have c4 : (0 : Int) ≤ x ∧ x < ((r.costs.getD (fl.getD b.length default).toNat default).length : Int) := by have := hv.s3; omega
        have e1 : (r.costs.getD (fl.getD b.length default).toNat default).getD x.toNat default = cst r (fl.getD b.length default) x := rfl
        simp only [decide_eq_true c1.2, cond_true, ck_eq c1, hx, ck_eq c2, ck_eq c3, ck_eq c4]
        rw [List.flatMap_cons, e1, h3, ih2]
        have hok : okf r fl b.length x = decide (0 ≤ cst r (fl.getD b.length default) x) := rfl
        rw [hok]
        cases decide (0 ≤ cst r (fl.getD b.length default) x)
        · rfl
        · rw [cond_true, Bool.true_and, m48_eq b x (by omega), contains_any]
          cases hc : b.contains x
          · have c5 : (0 : Int) ≤ (b.length : Int) ∧ (b.length : Int) ≤ (b.length : Int) := by omega
            have e2 : (b.drop 0).take (b.length - 0) = b := by simp
            have c6 : (b.length + [x].length) * 8 ≤ 140737488355328 := by simp; omega
            have c7 : 0 < [x].length := by simp
            simp only [Option.bind_some, Bool.not_false, cond_true, ck_eq c5, e2, ck_eq c6, ck_eq c7]
            rw [ih (b ++ [x]) (by simp; omega) (by simp; omega)]
            rw [show fl.length - (b ++ [x]).length = k by simp; omega]
            rfl
          · rfl
theorem m69_eq (r : XRound) (fl : List Int) (hv : Val r) (hl : fl.length ≤ 8) (hf : ∀ f ∈ fl, 0 ≤ f ∧ f < r.owners.length) : m69_coalition_deviations r fl = some (devL r fl) := by
  unfold m69_coalition_deviations m88_coalition_deviations_1
  rw [dev_eq r fl hv hl hf 1000000 [] (by simp) (by simp; omega)]
  simp [apl, devL]
/-- x is better for all airlines of the group -/
def bet (r : XRound) (than group fl x : List Int) : Bool := group.all fun o => decide ((cvec r fl x).getD o.toNat default < than.getD o.toNat default)
def blk (r : XRound) (than group : List Int) : List Int × Bool := match (devL r (flB r group)).find? (bet r than group (flB r group)) with
  | some x => (x, true)
  | none => ([], false)
theorem gd_get {fl : List Int} {ok : Nat → Int → Bool} : ∀ {t b : List Int}, gd fl ok b t ↔ ∀ i < t.length, t.getD i default ∈ fl ∧ ok (b.length + i) (t.getD i default) = true ∧ t.getD i default ∉ b ∧ ∀ j < i, t.getD j default ≠ t.getD i default := by
  intro t
  induction t with
  | nil => intro b; simp [gd]
  | cons s t ih =>
    intro b
    unfold gd
    rw [ih]
    constructor
    · rintro ⟨h1, h2, h3, h4⟩ i hi
      cases i with
      | zero => exact ⟨h1, h2, h3, fun j hj => by omega⟩
      | succ i =>
        obtain ⟨k1, k2, k3, k4⟩ := h4 i (by simpa using hi)
        rw [List.getD_cons_succ]
        refine ⟨k1, ?_, fun h => k3 (List.mem_append_left _ h), fun j hj => ?_⟩
        · rw [← k2]; congr 1; simp; omega
        · cases j with
          | zero => rw [List.getD_cons_zero]; intro e; exact k3 (List.mem_append_right _ (by simp [e]))
          | succ j => rw [List.getD_cons_succ]; exact k4 j (by omega)
    · intro h
      obtain ⟨a1, a2, a3, _⟩ := h 0 (by simp)
      refine ⟨a1, a2, a3, fun i hi => ?_⟩
      obtain ⟨k1, k2, k3, k4⟩ := h (i + 1) (by simpa using hi)
      rw [List.getD_cons_succ] at k1 k2 k3 k4
      refine ⟨k1, ?_, fun hm => ?_, fun j hj => ?_⟩
      · rw [← k2]; congr 1; simp; omega
      · rcases List.mem_append.1 hm with hm | hm
        · exact k3 hm
        · have := k4 0 (by omega); rw [List.getD_cons_zero] at this; exact this (List.mem_singleton.1 hm).symm
      · have := k4 (j + 1) (by omega); rwa [List.getD_cons_succ] at this
theorem mem_devL {r : XRound} {fl x : List Int} : x ∈ devL r fl ↔ x.length = fl.length ∧ ∀ i < x.length, x.getD i default ∈ fl ∧ 0 ≤ cst r (fl.getD i default) (x.getD i default) ∧ ∀ j < i, x.getD j default ≠ x.getD i default := by
  unfold devL
  rw [mem_dv]
  constructor
  · rintro ⟨t, rfl, hl, hg⟩
    refine ⟨hl, fun i hi => ?_⟩
    obtain ⟨h1, h2, _, h4⟩ := gd_get.1 hg i hi
    refine ⟨h1, ?_, h4⟩
    unfold okf at h2; simpa using h2
  · rintro ⟨hl, h⟩
    refine ⟨x, rfl, hl, gd_get.2 fun i hi => ?_⟩
    obtain ⟨h1, h2, h3⟩ := h i hi
    refine ⟨h1, ?_, by simp, h3⟩
    unfold okf; simpa using h2
theorem fits_dev {r : XRound} {fl x : List Int} (hv : Val r) (hf : ∀ f ∈ fl, 0 ≤ f ∧ f < r.owners.length) (h : x ∈ devL r fl) : ∀ i < fl.length, fits r (fl.getD i default) (x.getD i default) := by
  intro i hi
  obtain ⟨hl, h⟩ := mem_devL.1 h
  obtain ⟨h1, _⟩ := h i (by omega)
  have a1 := hf _ (getD_mem hi)
  have a2 := hf _ h1
  have := hv.s3
  exact ⟨a1.1, a1.2, a2.1, by omega⟩
/-- a group of airlines -/
def grp (g : List Int) : Prop := ∀ o ∈ g, 0 ≤ o ∧ o < 8
theorem m49_eq (r : XRound) (than group : List Int) (hv : Val r) (ht : than.length = 8) (hg : grp group) (hgl : group.length < 9223372036854775807) : m49_coalition_blocks r than group = some (blk r than group) := by
  unfold m49_coalition_blocks
  have hn8 := hv.n8
  have hfl : ∀ f ∈ flB r group, 0 ≤ f ∧ f < r.owners.length := fun f hf => (mem_flB.1 hf).1
  have hfn : (flB r group).length ≤ 8 := by have := flB_len r group; omega
  refine up_listA (fun i l => l.length ≤ i ∧ l ++ ((List.range' i (r.owners.length - i)).map fun j : Nat => (j : Int)).filter (fun f => group.any fun x => decide (ownr r f = x)) = flB r group) (fun _ _ _ => some (blk r than group)) r.owners (by omega) ?_ ?_ (by omega) ⟨Nat.le_refl _, by simp [flB, ownL, List.range_eq_range']⟩
  · intro sf l hI
    have hI := hI.2
    rw [Nat.sub_self] at hI
    simp only [List.range'_zero, List.map_nil, List.filter_nil, List.append_nil] at hI
    subst hI
    unfold m49_coalition_blocks_B0
    have c1 : ¬ (r.owners.length : Int) < r.owners.length := by omega
    rw [decide_eq_false c1, cond_false, m69_eq r _ hv hfn hfl]
    simp only [Option.bind_some, jn_eq]
    unfold blk
    have main : ∀ L : List (List Int), (∀ x ∈ L, x ∈ devL r (flB r group)) → rng2 (m49_coalition_blocks_B1 r than group (flB r group) fun v_3 v_4 => some (v_4, v_3)) (fun v_3 v_4 => some (([] : List Int), false)) L false ([] : List Int) = some (match L.find? (bet r than group (flB r group)) with
  | some x => (x, true)
  | none => ([], false)) := by
      intro L
      induction L with
      | nil => intro _; rw [rng2_nil, List.find?_nil]
      | cons x t ih =>
        intro hL
        have hx := hL x (List.mem_cons_self ..)
        have ih := ih fun y hy => hL y (List.mem_cons_of_mem _ hy)
        rw [rng2_cons]
        generalize rng2 (m49_coalition_blocks_B1 r than group (flB r group) fun v_3 v_4 => some (v_4, v_3)) (fun v_3 v_4 => some (([] : List Int), false)) t = SF at ih ⊢
        unfold m49_coalition_blocks_B1
        rw [m46_eq r _ x hv (by omega) (by rw [(mem_devL.1 hx).1]; exact Nat.le_refl _) (fits_dev hv hfl hx)]
        rw [Option.bind_some]
        have hcl : (cvec r (flB r group) x).length = 8 := by simp [cvec]
        rw [List.find?_cons]
        have : bet r than group (flB r group) x = group.all fun o => decide ((cvec r (flB r group) x).getD o.toNat default < than.getD o.toNat default) := rfl
        rw [this]
        clear this
        generalize cvec r (flB r group) x = now at *
        have lp : loop1 (m49_coalition_blocks_B2 than group (fun v_3 v_4 => some (v_4, v_3)) false [] SF x now) (((group.length : Int) - 0).toNat + 1) 0 = bif (group.all fun o => decide (now.getD o.toNat default < than.getD o.toNat default)) then some (x, true) else SF false [] := by
          refine up_list0 (fun t => bif (t.all fun o => decide (now.getD o.toNat default < than.getD o.toNat default)) then some (x, true) else SF false []) group hgl ?_ ?_ (show group.length < ((group.length : Int) - 0).toNat + 1 by omega)
          · intro sf; unfold m49_coalition_blocks_B2; simp
          · intro sf i y u h1 h2 h3 ih2
            unfold m49_coalition_blocks_B2
            have hy : group.getD (i : Int).toNat default = y := getD_of h2
            have ho := hg y (List.mem_of_getElem? h2)
            have c1 : (0 : Int) ≤ i ∧ (i : Int) < group.length := by omega
            have c2 : (0 : Int) ≤ y ∧ y < now.length := by omega
            have c3 : (0 : Int) ≤ y ∧ y < than.length := by omega
            simp only [decide_eq_true c1.2, cond_true, ck_eq c1, hy, ck_eq c2, ck_eq c3, h3, ih2, List.all_cons]
            by_cases q : than.getD y.toNat default ≤ now.getD y.toNat default
            · have q2 : ¬ now.getD y.toNat default < than.getD y.toNat default := by omega
              rw [decide_eq_true q, decide_eq_false q2]; rfl
            · have q2 : now.getD y.toNat default < than.getD y.toNat default := by omega
              rw [decide_eq_false q, decide_eq_true q2]; rfl
        rw [lp]
        cases (group.all fun o => decide (now.getD o.toNat default < than.getD o.toNat default))
        · exact ih
        · rfl
    exact main _ fun x h => h
  · intro sf i l y t h1 h2 h3 hI ih
    unfold m49_coalition_blocks_B0
    have c1 : (0 : Int) ≤ i ∧ (i : Int) < r.owners.length := by omega
    have e1 : r.owners.getD (i : Int).toNat default = ownr r i := rfl
    have c2 : (l.length + [(i : Int)].length) * 8 ≤ 140737488355328 := by have := hI.1; simp; omega
    simp only [decide_eq_true c1.2, cond_true, ck_eq c1, e1, m48_eq group _ hgl, Option.bind_some, ck_eq c2, h3]
    obtain ⟨k, hk⟩ : ∃ k, r.owners.length - i = k + 1 := ⟨r.owners.length - i - 1, by omega⟩
    obtain ⟨hI1, hI2⟩ := hI
    rw [hk, List.range'_succ, List.map_cons, List.filter_cons] at hI2
    have hk2 : r.owners.length - (i + 1) = k := by omega
    cases hq : (group.any fun x => decide (ownr r (i : Int) = x))
    · rw [hq] at hI2
      rw [cond_false]
      exact ih _ ⟨by omega, by rw [hk2]; simpa using hI2⟩
    · rw [hq] at hI2
      rw [cond_true]
      exact ih _ ⟨by simp; omega, by rw [hk2]; simpa using hI2⟩
/-- strictly rising -/
def risB (g : List Int) : Bool := (List.range g.length).all fun i => !(decide (g.getD i default < 0) || (decide (8 ≤ g.getD i default) || (decide (0 < i) && decide (g.getD i default ≤ g.getD (i - 1) default))))
theorem risB_props {g : List Int} (h : risB g = true) : grp g ∧ g.Pairwise (· < ·) := by
  unfold risB at h
  simp only [List.all_eq_true, List.mem_range, Bool.not_eq_true', Bool.or_eq_false_iff, decide_eq_false_iff_not, Bool.and_eq_false_iff] at h
  constructor
  · intro o ho
    obtain ⟨i, hi, rfl⟩ := List.getElem_of_mem ho
    have := h i hi
    rw [getD_getElem hi] at this
    omega
  · have key : ∀ k i, i + k + 1 < g.length → g.getD i default < g.getD (i + k + 1) default := by
      intro k
      induction k with
      | zero => intro i hi; have := (h (i + 0 + 1) hi).2.2; rw [show i + 0 + 1 - 1 = i by omega] at this; omega
      | succ k ih => intro i hi; have h1 := ih i (by omega); have := (h (i + (k + 1) + 1) hi).2.2; rw [show i + (k + 1) + 1 - 1 = i + k + 1 by omega] at this; omega
    rw [List.pairwise_iff_getElem]
    intro i j hi hj hij
    have := key (j - i - 1) i (by omega)
    rw [show i + (j - i - 1) + 1 = j by omega, getD_getElem hi, getD_getElem hj] at this
    exact this
end Go.Fx
/- Chapter 37: stable assignments, members, better. -/
set_option linter.unusedSimpArgs false
set_option linter.unusedVariables false
namespace Go.Fx
open Go Go.RowKit
def bitOn (b o : Nat) : Bool := !decide ((Go.bits .and .i64 ((b : Int) / 2 ^ min o (IntKind.bits .i64)) 1) = 0)
def grpOf (b : Nat) : List Int := ((List.range 8).filter (bitOn b)).map fun o : Nat => (o : Int)
theorem grpOf_grp (b : Nat) : grp (grpOf b) := by
  intro o ho
  unfold grpOf at ho
  simp only [List.mem_map, List.mem_filter, List.mem_range] at ho
  obtain ⟨a, ⟨h, _⟩, rfl⟩ := ho; omega
def hasF (r : XRound) (o : Int) : Bool := r.owners.any fun x => decide (o = x)
/-- group b blocks -/
def stB (r : XRound) (than : List Int) (b : Nat) : Bool := ((List.range 8).all fun o : Nat => !bitOn b o || hasF r o) && (!decide (((grpOf b).length : Int) = 0) && (blk r than (grpOf b)).2)
theorem m23_loop (r : XRound) (than : List Int) (hv : Val r) (ht : than.length = 8) : loop1 (m23_coalition_Stable_B0 r than) (((256 : Int) - 0).toNat + 1) 0 = some (!(List.range 256).any (stB r than), 0) := by
  rw [List.range_eq_range']
  refine (up_listI (fun i t => some (!(List.range' i t.length).any (stB r than), 0)) (List.range' 0 256) (by rw [List.length_range']; omega) ?_ ?_ (show (List.range' 0 256).length < ((256 : Int) - 0).toNat + 1 by rw [List.length_range']; omega)).trans (by rw [List.length_range'])
  · intro sf; unfold m23_coalition_Stable_B0; rw [List.length_range']; rfl
  · intro sf b x t h1 h2 h3 ih
    rw [List.length_range'] at h1
    rw [List.length_cons, any_range']
    unfold m23_coalition_Stable_B0
    rw [decide_eq_true (show (b : Int) < 256 by omega), cond_true, jn_eq, h3, ih]
    generalize (List.range' (b + 1) t.length).any (stB r than) = rest
    refine (up_listB (s := ([] : List Int)) (fun i s => s = ((List.range i).filter (bitOn b)).map fun o : Nat => (o : Int)) (fun i t s => bif (List.range' i t.length).all (fun o : Nat => !bitOn b o || hasF r o) then (bif (!decide (((grpOf b).length : Int) = 0) && (blk r than (grpOf b)).2) then some (false, 0) else some (!rest, 0)) else some (!rest, 0)) (List.range' 0 8) (by rw [List.length_range']; omega) ?_ ?_ (show (List.range' 0 8).length < ((8 : Int) - 0).toNat + 1 by rw [List.length_range']; omega) (by rfl)).trans ?_
    · intro sg s hI
      rw [List.length_range'] at hI ⊢
      have hI : s = grpOf b := hI
      subst hI
      unfold m23_coalition_Stable_B1
      rw [m49_eq r than _ hv ht (grpOf_grp b) (by have := List.length_filter_le (bitOn b) (List.range 8); unfold grpOf; simp at this ⊢; omega)]
      rw [show (List.range' 8 ([] : List Nat).length).all (fun o : Nat => !bitOn b o || hasF r o) = true from rfl]
      rw [decide_eq_false (show ¬ ((8 : Nat) : Int) < 8 by omega), Option.bind_some, cond_false]
      cases decide (((grpOf b).length : Int) = 0) <;> cases (blk r than (grpOf b)).2 <;> rfl
    · intro sg o s y u j1 j2 j3 hI ih2
      rw [List.length_range'] at j1
      rw [List.length_cons, all_range']
      unfold m23_coalition_Stable_B1
      have c1 : (0 : Int) ≤ o := by omega
      have c2 : (s.length + [(o : Int)].length) * 8 ≤ 140737488355328 := by
        have := List.length_filter_le (bitOn b) (List.range o)
        rw [hI]; simp at this ⊢; omega
      have hb : decide ((Go.bits .and .i64 ((b : Int) / 2 ^ min (o : Int).toNat (IntKind.bits .i64)) 1) = 0) = !bitOn b o := by unfold bitOn; rw [Bool.not_not, Int.toNat_natCast]
      rw [decide_eq_true (show (o : Int) < 8 by omega), cond_true, ck_eq c1, hb, j3]
      have hI' : ∀ s', s' = s ++ (([o].filter (bitOn b)).map fun o : Nat => (o : Int)) → s' = ((List.range (o + 1)).filter (bitOn b)).map fun o : Nat => (o : Int) := by
        intro s' h; rw [h, hI, List.range_succ, List.filter_append, List.map_append]
      have hm := m48_eq r.owners (o : Int) (by have := hv.n8; omega)
      rw [hm]
      have hh : hasF r o = r.owners.any fun x => decide ((o : Int) = x) := rfl
      rw [← hh]
      cases hbo : bitOn b o
      · rw [Bool.not_false, cond_true, ih2 _ (hI' _ (by rw [List.filter_cons, hbo]; simp))]
        rfl
      · rw [Bool.not_true, cond_false, Option.bind_some]
        cases hasF r o
        · rfl
        · rw [Bool.not_true, cond_false, ck_eq c2, ih2 _ (hI' _ (by rw [List.filter_cons, hbo]; simp))]
          rfl
    · rw [List.length_range']
      unfold stB
      rw [List.range_eq_range']
      cases (List.range' 0 8).all (fun o : Nat => !bitOn b o || hasF r o) <;> cases (!decide (((grpOf b).length : Int) = 0) && (blk r than (grpOf b)).2) <;> rfl
def stableB (r : XRound) (s : List Int) : Bool := decide (worseL r s = []) && !(List.range 256).any (stB r (cvec r (ownL r) s))
theorem m23_eq (r : XRound) (s : List Int) (hs : smXRound r) (hl : s.length < 9223372036854775807) : m23_coalition_Stable r s = some (bif goodB r s then (stableB r s, 0) else (false, 370)) := by
  unfold m23_coalition_Stable
  rw [m27_eq r s hs hl]
  cases hg : goodB r s
  · rfl
  obtain ⟨hv, ha⟩ := good_props hg
  simp only [cond_true, Option.bind_some, jn_eq]
  rw [m47_eq r hv, Option.bind_some, cvec_asg hv ha, Option.bind_some, m23_loop r _ hv (by simp [cvec])]
  unfold stableB
  by_cases q : worseL r s = []
  · rw [q]; rfl
  · have : (0 : Int) < (worseL r s).length := by have := List.length_pos_iff.2 q; omega
    rw [decide_eq_true this, decide_eq_false q]; rfl
end Go.Fx
/- Chapter 37: what blocks is not stable. -/
set_option linter.unusedSimpArgs false
set_option linter.unusedVariables false
namespace Go.Fx
open Go Go.RowKit
def sum8 (a b c d e f g h : Bool) : Nat := cond a 1 0 + cond b 2 0 + cond c 4 0 + cond d 8 0 + cond e 16 0 + cond f 32 0 + cond g 64 0 + cond h 128 0
theorem bits8 : ∀ a b c d e f g h : Bool, sum8 a b c d e f g h < 256 ∧ (List.range 8).map (bitOn (sum8 a b c d e f g h)) = [a, b, c, d, e, f, g, h] := of_decide_eq_true (by kernel_rfl)
theorem bits_of (p : Nat → Bool) : ∃ b < 256, ∀ o < 8, bitOn b o = p o := by
  obtain ⟨h1, h2⟩ := bits8 (p 0) (p 1) (p 2) (p 3) (p 4) (p 5) (p 6) (p 7)
  refine ⟨_, h1, ?_⟩
  generalize sum8 (p 0) (p 1) (p 2) (p 3) (p 4) (p 5) (p 6) (p 7) = n at *
  have e : List.range 8 = [0, 1, 2, 3, 4, 5, 6, 7] := rfl
  rw [e] at h2
  simp only [List.map_cons, List.map_nil, List.cons.injEq, and_true] at h2
  intro o ho
  obtain ⟨a0, a1, a2, a3, a4, a5, a6, a7⟩ := h2
  have : o = 0 ∨ o = 1 ∨ o = 2 ∨ o = 3 ∨ o = 4 ∨ o = 5 ∨ o = 6 ∨ o = 7 := by omega
  rcases this with rfl | rfl | rfl | rfl | rfl | rfl | rfl | rfl <;> assumption
theorem rising_ext {a b : List Int} (ha : a.Pairwise (· < ·)) (hb : b.Pairwise (· < ·)) (h : ∀ x, x ∈ a ↔ x ∈ b) : a = b := by
  have na : a.Nodup := ha.imp fun h => by omega
  have nb : b.Nodup := hb.imp fun h => by omega
  refine List.Perm.eq_of_pairwise (le := fun x y => x < y) ?_ ha hb ((List.perm_ext_iff_of_nodup na nb).2 h)
  intro x y _ _ h1 h2; omega
theorem grpOf_rising (b : Nat) : (grpOf b).Pairwise (· < ·) := by
  unfold grpOf
  rw [List.pairwise_map]
  have : (List.range 8).Pairwise (· < ·) := List.pairwise_lt_range
  exact (this.filter _).imp fun h => by omega
theorem mem_grpOf {b : Nat} {o : Int} : o ∈ grpOf b ↔ 0 ≤ o ∧ o < 8 ∧ bitOn b o.toNat = true := by
  unfold grpOf
  simp only [List.mem_map, List.mem_filter, List.mem_range]
  constructor
  · rintro ⟨a, ⟨h1, h2⟩, rfl⟩; exact ⟨by omega, by omega, by rwa [Int.toNat_natCast]⟩
  · rintro ⟨h1, h2, h3⟩; exact ⟨o.toNat, ⟨by omega, h3⟩, by omega⟩
theorem grp_bits {g : List Int} (hg : grp g) (hp : g.Pairwise (· < ·)) : ∃ b < 256, grpOf b = g := by
  obtain ⟨b, hb, h⟩ := bits_of fun o => decide ((o : Int) ∈ g)
  refine ⟨b, hb, rising_ext (grpOf_rising b) hp fun x => ?_⟩
  rw [mem_grpOf]
  constructor
  · rintro ⟨h1, h2, h3⟩
    rw [h _ (by omega)] at h3
    simp only [decide_eq_true_eq] at h3
    rwa [show ((x.toNat : Nat) : Int) = x by omega] at h3
  · intro hx
    have := hg x hx
    refine ⟨this.1, this.2, ?_⟩
    rw [h _ (by omega), show ((x.toNat : Nat) : Int) = x by omega]
    simpa using hx
theorem blk_spec (r : XRound) (than g : List Int) : ((blk r than g).2 = true ∧ (blk r than g).1 ∈ devL r (flB r g) ∧ bet r than g (flB r g) (blk r than g).1 = true) ∨ ((blk r than g) = ([], false) ∧ ∀ x ∈ devL r (flB r g), bet r than g (flB r g) x = false) := by
  unfold blk
  cases h : (devL r (flB r g)).find? (bet r than g (flB r g)) with
  | none => right; exact ⟨rfl, fun x hx => by have := List.find?_eq_none.1 h x hx; simpa using this⟩
  | some x => left; exact ⟨rfl, List.mem_of_find?_eq_some h, List.find?_some h⟩
end Go.Fx
/- The chapter's examples. -/
namespace Go.Fx
open Go Go.RowKit
theorem sane38 : m10_overflightlaw38_sane = some true := by kernel_rfl
end Go.Fx
/- Chapter 38: values, assignments, the best one. -/
set_option linter.unusedSimpArgs false
set_option linter.unusedVariables false
namespace Go.Fx
open Go Go.RowKit
theorem ipos38 {l n : Nat} (h : n < l) : ((n : Int) < (l : Int)) := by omega
/-- by the first place that differs -/
def lexC : List Int → List Int → Int
  | [], [] => 0
  | [], _ :: _ => -1
  | _ :: _, [] => 1
  | x :: s, y :: t => if x < y then -1 else if y < x then 1 else lexC s t
theorem lexC_self : ∀ a, lexC a a = 0
  | [] => rfl
  | x :: s => by unfold lexC; rw [if_neg (by omega), if_neg (by omega)]; exact lexC_self s
theorem lexC_eq : ∀ a b, lexC a b = 0 → a = b
  | [], [], _ => rfl
  | [], _ :: _, h => by simp [lexC] at h
  | _ :: _, [], h => by simp [lexC] at h
  | x :: s, y :: t, h => by
    unfold lexC at h
    split at h
    · omega
    · split at h
      · omega
      · rw [lexC_eq s t h]; congr 1; omega
theorem lexC_lt {x y : Int} {s t : List Int} (h : x < y) : lexC (x :: s) (y :: t) = -1 := if_pos h
theorem lexC_gt {x y : Int} {s t : List Int} (h : y < x) : lexC (x :: s) (y :: t) = 1 := (if_neg (by omega)).trans (if_pos h)
theorem lexC_same {x : Int} {s t : List Int} : lexC (x :: s) (x :: t) = lexC s t := (if_neg (Int.lt_irrefl x)).trans (if_neg (Int.lt_irrefl x))
theorem lexC_neg : ∀ a b, lexC a b = - lexC b a
  | [], [] => by simp [lexC]
  | [], _ :: _ => by simp [lexC]
  | _ :: _, [] => by simp [lexC]
  | x :: s, y :: t => by
    rcases Int.lt_trichotomy x y with h | rfl | h
    · rw [lexC_lt h, lexC_gt h]
    · rw [lexC_same, lexC_same]; exact lexC_neg s t
    · rw [lexC_lt h, lexC_gt h]; rfl
theorem lexC_trans : ∀ a b c, lexC a b ≤ 0 → lexC b c ≤ 0 → lexC a c ≤ 0 ∧ (lexC a c = 0 → lexC a b = 0 ∧ lexC b c = 0)
  | [], [], [], _, _ => by simp [lexC]
  | [], _ :: _, [], _, h2 => by simp [lexC] at h2
  | [], _, _ :: _, h1, h2 => by simp [lexC]
  | _ :: _, [], c, h1, h2 => by simp [lexC] at h1
  | x :: s, y :: t, [], h1, h2 => by simp [lexC] at h2
  | x :: s, y :: t, z :: u, h1, h2 => by
    rcases Int.lt_trichotomy x y with q1 | rfl | q1
    · rcases Int.lt_trichotomy y z with q2 | rfl | q2
      · rw [lexC_lt (show x < z by omega)]; simp
      · rw [lexC_lt q1]; simp
      · rw [lexC_gt q2] at h2; omega
    · rcases Int.lt_trichotomy x z with q2 | rfl | q2
      · rw [lexC_lt q2]; simp
      · rw [lexC_same] at h1 h2 ⊢; rw [lexC_same, lexC_same]; exact lexC_trans s t u h1 h2
      · rw [lexC_gt q2] at h2; omega
    · rw [lexC_gt q1] at h1; omega
theorem m63_eq (x y : Int) : m63_cmp_Compare x y = some (if x < y then -1 else if y < x then 1 else 0) := by
  unfold m63_cmp_Compare m81_cmp_isNaN
  simp only [ne_eq, not_true_eq_false, decide_false, Option.bind_some, cond_false]
  by_cases h1 : x < y
  · simp [h1]
  · by_cases h2 : y < x
    · simp [h1, h2]
    · simp [h1, h2]
theorem m39_eq (a b : List Int) (hl : a.length < 9223372036854775807) : m39_slices_Compareint_int_ a b = some (lexC a b) := by
  unfold m39_slices_Compareint_int_
  refine (up_list (L := fun n i (_ : Unit) => loop1 (m39_slices_Compareint_int__B0 a b) n i) (fun i _ => i ≤ b.length) (fun i t _ => some (lexC t (b.drop i))) a hl ?_ ?_ _ () (by omega) (Nat.zero_le _))
  · intro n _ h
    simp only [loop1_succ]
    unfold m39_slices_Compareint_int__B0
    rw [decide_eq_false (Int.lt_irrefl _), cond_false]
    by_cases h2 : a.length < b.length
    · rw [decide_eq_true (ipos38 h2), cond_true, List.drop_eq_getElem_cons h2]; rfl
    · rw [decide_eq_false (by omega), cond_false, List.drop_eq_nil_of_le (by omega)]; rfl
  · intro n i _ x t h1 h2 h3 h ih
    simp only [loop1_succ]
    generalize loop1 (m39_slices_Compareint_int__B0 a b) n = L at ih ⊢
    unfold m39_slices_Compareint_int__B0
    have g1 : a.getD (i : Int).toNat default = x := getD_of h2
    rw [decide_eq_true (ipos38 h1), cond_true, ck_eq (by omega), g1]
    by_cases h4 : b.length ≤ i
    · rw [decide_eq_true (by omega), cond_true, List.drop_eq_nil_of_le h4]; rfl
    · have h5 : i < b.length := by omega
      have g2 : b.getD (i : Int).toNat default = b[i] := by simp [h5]
      rw [decide_eq_false (by omega), cond_false, ck_eq (by omega), g2, m63_eq, Option.bind_some, List.drop_eq_getElem_cons h5, h3, ih () (by omega)]
      rcases Int.lt_trichotomy x b[i] with q | q | q
      · rw [lexC_lt q, if_pos q]; rfl
      · rw [q, lexC_same, if_neg (by omega), if_neg (by omega)]; rfl
      · rw [lexC_gt q, if_neg (by omega), if_pos q]; rfl
theorem m16_eq (a b : List Int) (hl : a.length < 9223372036854775807) : m16_overflightref37_SameInts a b = some (decide (a = b)) := by
  unfold m16_overflightref37_SameInts
  by_cases hlen : a.length = b.length
  · rw [decide_eq_false (show ¬ ((a.length : Int) ≠ b.length) by omega), cond_false]
    refine (up_listI (B := m16_overflightref37_SameInts_B0 a b) (fun i t => some (decide (t = b.drop i))) a hl ?_ ?_ (by omega)).trans (by simp)
    · intro sf; unfold m16_overflightref37_SameInts_B0
      rw [decide_eq_false (Int.lt_irrefl _), cond_false, hlen, List.drop_length]; rfl
    · intro sf i x t h1 h2 h3 ih
      obtain ⟨_, rfl⟩ := List.getElem?_eq_some_iff.1 h2
      unfold m16_overflightref37_SameInts_B0
      have g1 : a.getD (i : Int).toNat default = a[i] := by simp [h1]
      have hb' : i < b.length := by omega
      have g2 : b.getD (i : Int).toNat default = b[i] := by simp [hb']
      rw [decide_eq_true (ipos38 h1), cond_true, ck_eq (by omega), ck_eq (by omega), g1, g2, h3, ih, List.drop_eq_getElem_cons hb']
      by_cases e : a[i] = b[i]
      · rw [decide_eq_false (fun h => h e), cond_false, e]
        congr 1
        rw [Bool.eq_iff_iff, decide_eq_true_iff, decide_eq_true_iff]
        constructor
        · rintro rfl; rfl
        · intro h; exact (List.cons.inj h).2
      · rw [decide_eq_true e, cond_true, decide_eq_false]
        intro h; exact e (List.cons.inj h).1
  · rw [decide_eq_true (show (a.length : Int) ≠ b.length by omega), cond_true, decide_eq_false (fun e => hlen (by rw [e]))]
theorem m43_eq (a b : List Int) (hl : a.length < 9223372036854775807) : m43_slices_Equalint_int_ a b = some (decide (a = b)) := by
  unfold m43_slices_Equalint_int_
  by_cases hlen : a.length = b.length
  · rw [decide_eq_false (show ¬ ((a.length : Int) ≠ b.length) by omega), cond_false]
    refine (up_listI (B := m43_slices_Equalint_int__B0 a b) (fun i t => some (decide (t = b.drop i))) a hl ?_ ?_ (by omega)).trans (by simp)
    · intro sf; unfold m43_slices_Equalint_int__B0
      rw [decide_eq_false (Int.lt_irrefl _), cond_false, hlen, List.drop_length]; rfl
    · intro sf i x t h1 h2 h3 ih
      obtain ⟨_, rfl⟩ := List.getElem?_eq_some_iff.1 h2
      unfold m43_slices_Equalint_int__B0
      have g1 : a.getD (i : Int).toNat default = a[i] := by simp [h1]
      have hb' : i < b.length := by omega
      have g2 : b.getD (i : Int).toNat default = b[i] := by simp [hb']
      rw [decide_eq_true (ipos38 h1), cond_true, ck_eq (by omega), ck_eq (by omega), g1, g2, h3, ih, List.drop_eq_getElem_cons hb']
      by_cases e : a[i] = b[i]
      · rw [decide_eq_false (fun h => h e), cond_false, e]
        congr 1
        rw [Bool.eq_iff_iff, decide_eq_true_iff, decide_eq_true_iff]
        constructor
        · rintro rfl; rfl
        · intro h; exact (List.cons.inj h).2
      · rw [decide_eq_true e, cond_true, decide_eq_false]
        intro h; exact e (List.cons.inj h).1
  · rw [decide_eq_true (show (a.length : Int) ≠ b.length by omega), cond_true, decide_eq_false (fun e => hlen (by rw [e]))]
/-- costs and moves from place i on -/
def vsum (r : XRound) : Nat → List Int → Int
  | _, [] => 0
  | i, x :: t => cst r i x + vsum r (i + 1) t
def vmov : Nat → List Int → Int
  | _, [] => 0
  | i, x :: t => (if x = (i : Int) then 0 else 1) + vmov (i + 1) t
def valV (r : XRound) (s : List Int) : List Int := [vsum r 0 s, vmov 0 s]
theorem m30_eq (r : XRound) (s : List Int) (hv : Val r) (hl : s.length = r.owners.length) (hs : ∀ i < s.length, 0 ≤ s.getD i default ∧ s.getD i default < r.slots) : m30_clearing_value r s = some (valV r s) := by
  have h8 := hv.n8
  unfold m30_clearing_value
  refine (up_listB (B := m30_clearing_value_B0 r s) (σ := List Int) (fun i v => ∃ a c : Int, v = [a, c] ∧ -(1048576 * (i : Int)) ≤ a ∧ a ≤ 1048576 * (i : Int) ∧ 0 ≤ c ∧ c ≤ (i : Int)) (fun i t v => some [v.getD 0 default + vsum r i t, v.getD 1 default + vmov i t]) s (by omega) ?_ ?_ (by omega) ⟨0, 0, rfl, by simp⟩).trans (by simp [valV])
  · rintro sf v ⟨a, c, rfl, _⟩
    unfold m30_clearing_value_B0
    rw [decide_eq_false (Int.lt_irrefl _)]; simp [vsum, vmov]
  · rintro sf i v x t h1 h2 h3 ⟨a, c, rfl, b1, b2, b3, b4⟩ ih
    have g1 : s.getD (i : Int).toNat default = x := getD_of h2
    obtain ⟨k1, k2⟩ := hs i h1
    have g2 : s.getD i default = x := g1
    rw [g2] at k1 k2
    have hrow := hv.row i (by omega)
    have hc := fits.cst hv (f := (i : Int)) (s := x) ⟨by omega, by omega, k1, k2⟩
    have e1 : (r.costs.getD (i : Int).toNat default).getD x.toNat default = cst r i x := rfl
    have w1 : IntKind.wrap .i64 (a + cst r i x) = a + cst r i x := wrap_i64 (by omega) (by omega)
    have w2 : IntKind.wrap .i64 (c + 1) = c + 1 := wrap_i64 (by omega) (by omega)
    have hci := hv.s4
    have c1 : (0 : Int) ≤ (i : Int) ∧ (i : Int) < (s.length : Int) := by omega
    have c2 : (0 : Int) ≤ (i : Int) ∧ (i : Int) < (r.costs.length : Int) := by omega
    have c3 : (0 : Int) ≤ x ∧ x < ((r.costs.getD (i : Int).toNat default).length : Int) := by rw [Int.toNat_natCast]; omega
    have c4 : (0 : Int) ≤ 0 ∧ 0 < (([a, c] : List Int).length : Int) := by simp
    have c5 : (0 : Int) ≤ 1 ∧ 1 < (([a + cst r i x, c] : List Int).length : Int) := by simp
    unfold m30_clearing_value_B0
    simp only [decide_eq_true c1.2, cond_true, ck_eq c1, g1, ck_eq c2, ck_eq c3, ck_eq c4, e1, show ([a, c] : List Int).getD 0 default = a from rfl, w1, show ([a, c] : List Int).set 0 (a + cst r i x) = [a + cst r i x, c] from rfl, ck_eq c5, show ([a + cst r i x, c] : List Int).getD 1 default = c from rfl, w2, show ([a + cst r i x, c] : List Int).set 1 (c + 1) = [a + cst r i x, c + 1] from rfl, h3]
    by_cases hm : x = (i : Int)
    · rw [decide_eq_false (fun h => h hm), cond_false, ih _ ⟨_, _, rfl, by omega, by omega, by omega, by omega⟩]
      simp [vsum, vmov, hm]; omega
    · rw [decide_eq_true hm, cond_true, ih _ ⟨_, _, rfl, by omega, by omega, by omega, by omega⟩]
      simp [vsum, vmov, hm]; omega
theorem asg_in {r : XRound} {s : List Int} (h : asgB r s = true) : ∀ i < s.length, 0 ≤ s.getD i default ∧ s.getD i default < r.slots := fun i hi => by
  obtain ⟨b1, b2, _⟩ := (asg_props h).2 i hi; exact ⟨b1, b2⟩
theorem val_good {r : XRound} {s : List Int} (h : goodB r s = true) : m30_clearing_value r s = some (valV r s) := by
  obtain ⟨hv, ha⟩ := good_props h
  exact m30_eq r s hv (asg_props ha).1 (asg_in ha)
/-- all slots, in order -/
def slL (r : XRound) : List Int := (List.range r.slots.toNat).map fun i : Nat => (i : Int)
def okA (r : XRound) (n : Nat) (s : Int) : Bool := decide (0 ≤ cst r n s)
/-- all assignments, in order -/
def asgL (r : XRound) : List (List Int) := dv (slL r) (okA r) r.owners.length []
theorem slL_len (r : XRound) : (slL r).length = r.slots.toNat := by simp [slL]
theorem mem_slL {r : XRound} {s : Int} : s ∈ slL r ↔ 0 ≤ s ∧ s < r.slots := by
  unfold slL
  simp only [List.mem_map, List.mem_range]
  constructor
  · rintro ⟨i, h, rfl⟩; omega
  · rintro ⟨h1, h2⟩; exact ⟨s.toNat, by omega, by omega⟩
theorem mem_asgL {r : XRound} {s : List Int} : s ∈ asgL r ↔ asgB r s = true := by
  unfold asgL
  rw [mem_dv]
  constructor
  · rintro ⟨t, ht0, ht, hg⟩
    rw [List.nil_append] at ht0
    rw [ht0]
    rw [gd_get] at hg
    unfold asgB
    simp only [Bool.and_eq_true, decide_eq_true_eq, List.all_eq_true, List.mem_range]
    refine ⟨ht, fun i hi => ?_⟩
    obtain ⟨h1, h2, h3, h4⟩ := hg i hi
    have h5 := mem_slL.1 h1
    have h6 := of_decide_eq_true h2
    rw [List.length_nil, Nat.zero_add] at h6
    unfold okS
    simp only [Bool.not_eq_true', Bool.or_eq_false_iff, decide_eq_false_iff_not, List.any_eq_false, decide_eq_true_eq]
    refine ⟨by omega, by omega, by omega, fun x hx e => ?_⟩
    obtain ⟨j, hj, rfl⟩ := List.getElem_of_mem hx
    rw [List.length_take] at hj
    have := h4 j (by omega)
    rw [List.getElem_take] at e
    rw [getD_getElem (show j < t.length by omega)] at this
    exact this e.symm
  · intro h
    obtain ⟨h1, h2⟩ := asg_props h
    refine ⟨s, by simp, h1, gd_get.2 fun i hi => ?_⟩
    obtain ⟨b1, b2, b3, b4⟩ := h2 i hi
    refine ⟨mem_slL.2 ⟨b1, b2⟩, ?_, by simp, b4⟩
    rw [List.length_nil, Nat.zero_add]
    exact decide_eq_true b3
theorem contains_snoc {b : List Int} {i s : Int} (e : ¬ i = s) : (b ++ [i]).contains s = b.contains s := by
  rw [Bool.eq_iff_iff]
  simp only [List.contains_eq_mem, decide_eq_true_eq, List.mem_append, List.mem_singleton]
  exact ⟨fun h => h.elim id (fun h => absurd h.symm e), .inl⟩
theorem asg_eq (r : XRound) (hv : Val r) : ∀ (N : Nat) (b : List Int) (mp : List (Int × Bool)), b.length ≤ r.owners.length → r.owners.length - b.length < N → (∀ s, (mget mp s).getD false = b.contains s) →
    ∃ mp', (∀ s, (mget mp' s).getD false = b.contains s) ∧ fixO (fun fx x => m61_clearing_assignments_1_1 x.1 r x.2 fx) N (b, mp) = some (dv (slL r) (okA r) (r.owners.length - b.length) b, mp') := by
  have h8 := hv.n8
  have hs2 := hv.s2
  intro N
  induction N with
  | zero => intro b mp _ h; omega
  | succ N ih =>
    intro b mp hb hN hI
    show ∃ mp', _ ∧ m61_clearing_assignments_1_1 b r mp (fixO (fun fx x => m61_clearing_assignments_1_1 x.1 r x.2 fx) N) = _
    generalize fixO (fun fx x => m61_clearing_assignments_1_1 x.1 r x.2 fx) N = FX at ih ⊢
    unfold m61_clearing_assignments_1_1
    by_cases q : b.length = r.owners.length
    · rw [decide_eq_true (by omega), cond_true, show r.owners.length - b.length = 0 by omega]
      exact ⟨mp, hI, rfl⟩
    · rw [decide_eq_false (by omega), cond_false]
      obtain ⟨k, hk⟩ : ∃ k, r.owners.length - b.length = k + 1 := ⟨r.owners.length - b.length - 1, by omega⟩
      rw [hk]
      have main : ∀ (t : List Int) (i f : Nat) (mp : List (Int × Bool)), (slL r).drop i = t → i ≤ (slL r).length → t.length < f → (∀ s, (mget mp s).getD false = b.contains s) →
          ∃ mp', (∀ s, (mget mp' s).getD false = b.contains s) ∧ loop2 (m61_clearing_assignments_1_1_B0 b r FX) f (i : Int) mp = some (t.flatMap fun s => bif okA r b.length s && !b.contains s then dv (slL r) (okA r) k (b ++ [s]) else [], mp') := by
        intro t
        induction t with
        | nil =>
          intro i f mp hd hi hf hI
          have he : (slL r).length ≤ i := by have := congrArg List.length hd; rw [List.length_drop, List.length_nil] at this; omega
          rw [slL_len] at he
          obtain ⟨f, rfl⟩ : ∃ f', f = f' + 1 := ⟨f - 1, by simp at hf; omega⟩
          refine ⟨mp, hI, ?_⟩
          rw [loop2_succ]; unfold m61_clearing_assignments_1_1_B0
          rw [decide_eq_false (by omega)]; rfl
        | cons x t iht =>
          intro i f mp hd hi hf hI
          obtain ⟨f, rfl⟩ : ∃ f', f = f' + 1 := ⟨f - 1, by simp at hf; omega⟩
          have hlt : i < (slL r).length := by have := congrArg List.length hd; simp at this; omega
          have hx : (slL r)[i] = x := by rw [List.drop_eq_getElem_cons hlt] at hd; exact (List.cons.inj hd).1
          have ht : (slL r).drop (i + 1) = t := by rw [List.drop_eq_getElem_cons hlt] at hd; exact (List.cons.inj hd).2
          have hxi : x = (i : Int) := by rw [← hx]; simp [slL]
          rw [slL_len] at hlt
          subst hxi
          have hrow := hv.row b.length (by omega)
          have hc4 := hv.s4
          rw [loop2_succ]
          have iht' := fun mp h => iht (i + 1) f mp ht (by rw [slL_len]; omega) (by simp at hf; omega) h
          generalize loop2 (m61_clearing_assignments_1_1_B0 b r FX) f = L at iht' ⊢
          unfold m61_clearing_assignments_1_1_B0
          have c1 : (0 : Int) ≤ (b.length : Int) ∧ (b.length : Int) < (r.costs.length : Int) := by omega
          have c2 : (0 : Int) ≤ (i : Int) ∧ (i : Int) < ((r.costs.getD b.length default).length : Int) := by omega
          have e1 : (r.costs.getD b.length default).getD (i : Int).toNat default = cst r (b.length : Int) (i : Int) := rfl
          rw [decide_eq_true (show (i : Int) < r.slots by omega), cond_true]
          simp only [jn_eq, ck_eq c1, ck_eq c2, hI, e1, wrapS (show i + 1 < 9223372036854775808 by omega), List.flatMap_cons]
          rw [show (i : Int) + 1 = ((i + 1 : Nat) : Int) by omega]
          cases hcon : b.contains (i : Int)
          · rw [cond_false]
            by_cases hneg : cst r (b.length : Int) (i : Int) < 0
            · have hok : okA r b.length (i : Int) = false := decide_eq_false (by omega)
              obtain ⟨mp', k1, k2⟩ := iht' mp hI
              refine ⟨mp', k1, ?_⟩
              rw [decide_eq_true hneg, cond_true, k2, hok]; rfl
            · have hok : okA r b.length (i : Int) = true := decide_eq_true (by omega)
              have hclip : m62_slices_Clipint_int_ b = some b := by unfold m62_slices_Clipint_int_; rw [ck_eq (by omega)]; simp
              obtain ⟨m1, j1, j2⟩ := ih (b ++ [(i : Int)]) (mput mp (i : Int) true) (by simp; omega) (by simp; omega) (fun s => by
                rw [mget_put]
                by_cases e : (i : Int) = s
                · subst e; simp
                · rw [if_neg e, hI, contains_snoc e])
              obtain ⟨mp', k1, k2⟩ := iht' (mput m1 (i : Int) false) (fun s => by
                rw [mget_put]
                by_cases e : (i : Int) = s
                · subst e; rw [if_pos rfl, hcon]; rfl
                · rw [if_neg e, j1, contains_snoc e])
              refine ⟨mp', k1, ?_⟩
              rw [decide_eq_false hneg, cond_false, hclip, Option.bind_some, ck_eq (by simp; omega), ck_eq (by simp), j2, hok]
              rw [show r.owners.length - (b ++ [(i : Int)]).length = k by simp; omega]
              show aplM (some _) _ = _
              unfold aplM
              simp only [Option.bind_some, k2, Option.map_some, Bool.not_false, Bool.and_self, cond_true]
          · obtain ⟨mp', k1, k2⟩ := iht' mp hI
            refine ⟨mp', k1, ?_⟩
            rw [cond_true, cond_true, k2]; simp
      obtain ⟨mp', k1, k2⟩ := main (slL r) 0 ((r.slots - 0).toNat + 1) mp rfl (Nat.zero_le _) (by rw [slL_len]; omega) hI
      exact ⟨mp', k1, k2⟩
theorem m38_eq (r : XRound) (hv : Val r) : m38_clearing_assignments r = some (asgL r) := by
  obtain ⟨mp', h1, h2⟩ := asg_eq r hv 1000000 [] [] (by simp) (by have := hv.n8; simp; omega) (fun s => by simp [mget])
  unfold m38_clearing_assignments m60_clearing_assignments_1
  have h2' : fixO (fun fx37 x38 => m61_clearing_assignments_1_1 x38.1 r x38.2 fx37) 1000000 (([] : List Int), ([] : List (Int × Bool))) = some (asgL r, mp') := h2
  rw [h2']
  simp [aplI]
end Go.Fx
/- Chapter 38: the best assignment. -/
set_option linter.unusedSimpArgs false
set_option linter.unusedVariables false
namespace Go.Fx
open Go Go.RowKit
theorem lexC_pre : ∀ (b s t : List Int), lexC (b ++ s) (b ++ t) = lexC s t
  | [], _, _ => rfl
  | x :: b, s, t => by rw [List.cons_append, List.cons_append, lexC_same]; exact lexC_pre b s t
theorem dv_sorted {fl : List Int} {ok : Nat → Int → Bool} (hf : fl.Pairwise (· < ·)) : ∀ (k : Nat) (b : List Int), (dv fl ok k b).Pairwise fun x y => lexC x y < 0
  | 0, b => by simp [dv]
  | k + 1, b => by
    unfold dv
    rw [List.pairwise_flatMap]
    refine ⟨fun s hs => ?_, hf.imp fun {s s'} hlt x hx y hy => ?_⟩
    · cases (ok b.length s && !b.contains s)
      · exact List.Pairwise.nil
      · exact dv_sorted hf k _
    · cases h1 : (ok b.length s && !b.contains s)
      · rw [h1] at hx; cases hx
      cases h2 : (ok b.length s' && !b.contains s')
      · rw [h2] at hy; cases hy
      rw [h1, cond_true, mem_dv] at hx
      rw [h2, cond_true, mem_dv] at hy
      obtain ⟨t, rfl, _⟩ := hx
      obtain ⟨t', rfl, _⟩ := hy
      rw [List.append_assoc, List.append_assoc, lexC_pre]
      have : lexC (s :: t) (s' :: t') = -1 := lexC_lt hlt
      rw [List.singleton_append, List.singleton_append, this]; decide
theorem slL_sorted (r : XRound) : (slL r).Pairwise (· < ·) := by
  unfold slL
  rw [List.pairwise_map]
  exact List.pairwise_lt_range.imp fun h => by omega
theorem asgL_sorted (r : XRound) : (asgL r).Pairwise fun x y => lexC x y < 0 := dv_sorted (slL_sorted r) _ _
/-- before, in the published order -/
def bef (v : List Int → List Int) (z w : List Int) : Prop := lexC (v z) (v w) < 0 ∨ lexC (v z) (v w) = 0 ∧ lexC z w ≤ 0
theorem bef_refl (v : List Int → List Int) (z : List Int) : bef v z z := .inr ⟨lexC_self _, by rw [lexC_self]; exact Int.le_refl _⟩
theorem bef_trans {v : List Int → List Int} {x y z : List Int} (h1 : bef v x y) (h2 : bef v y z) : bef v x z := by
  have a1 : lexC (v x) (v y) ≤ 0 := by rcases h1 with h | h <;> omega
  have a2 : lexC (v y) (v z) ≤ 0 := by rcases h2 with h | h <;> omega
  obtain ⟨b1, b2⟩ := lexC_trans _ _ _ a1 a2
  by_cases h0 : lexC (v x) (v z) = 0
  · obtain ⟨c1, c2⟩ := b2 h0
    refine .inr ⟨h0, ?_⟩
    have d1 : lexC x y ≤ 0 := by rcases h1 with h | h <;> omega
    have d2 : lexC y z ≤ 0 := by rcases h2 with h | h <;> omega
    exact (lexC_trans _ _ _ d1 d2).1
  · exact .inl (by omega)
theorem bef_anti {v : List Int → List Int} {x y : List Int} (h1 : bef v x y) (h2 : bef v y x) : x = y := by
  have e1 := lexC_neg (v x) (v y)
  have e2 := lexC_neg x y
  refine lexC_eq _ _ ?_
  rcases h1 with h1 | h1 <;> rcases h2 with h2 | h2 <;> omega
def btr (v : List Int → List Int) : Option (List Int) → List Int → Bool
  | none, _ => true
  | some y, x => decide (lexC (v x) (v y) < 0)
/-- the first of the least that are allowed -/
def pick (v : List Int → List Int) (p : List Int → Bool) : Option (List Int) → List (List Int) → Option (List Int)
  | acc, [] => acc
  | acc, x :: t => pick v p (bif btr v acc x && p x then some x else acc) t
theorem pick_spec {v : List Int → List Int} {p : List Int → Bool} : ∀ (L : List (List Int)) (acc : Option (List Int)), L.Pairwise (fun x y => lexC x y < 0) → (∀ y, acc = some y → p y = true ∧ ∀ x ∈ L, lexC y x < 0) →
    (pick v p acc L = none ∧ acc = none ∧ ∀ x ∈ L, p x = false) ∨ ∃ z, pick v p acc L = some z ∧ p z = true ∧ (z ∈ L ∨ acc = some z) ∧ (∀ w ∈ L, p w = true → bef v z w) ∧ ∀ y, acc = some y → bef v z y
  | [], none, _, _ => .inl ⟨rfl, rfl, by simp⟩
  | [], some y, _, h => .inr ⟨y, rfl, (h y rfl).1, .inr rfl, by simp, fun y' e => by cases e; exact bef_refl v y⟩
  | x :: t, acc, hL, h => by
    have hL' := List.pairwise_cons.1 hL
    unfold pick
    cases hc : (btr v acc x && p x)
    · rw [cond_false]
      rcases pick_spec t acc hL'.2 (fun y e => ⟨(h y e).1, fun w hw => (h y e).2 w (List.mem_cons_of_mem _ hw)⟩) with ⟨a1, a2, a3⟩ | ⟨z, a1, a2, a3, a4, a5⟩
      · refine .inl ⟨a1, a2, fun w hw => ?_⟩
        rcases List.mem_cons.1 hw with rfl | hw
        · subst a2; exact hc
        · exact a3 w hw
      · refine .inr ⟨z, a1, a2, a3.imp (List.mem_cons_of_mem _) id, fun w hw hp => ?_, a5⟩
        rcases List.mem_cons.1 hw with rfl | hw
        · cases acc with
          | none => rw [hp] at hc; exact absurd (show (true && true) = false from hc) (by decide)
          | some y =>
            rw [hp, Bool.and_true] at hc
            have h1 : ¬ lexC (v w) (v y) < 0 := of_decide_eq_false (p := lexC (v w) (v y) < 0) hc
            have e1 := lexC_neg (v y) (v w)
            have h2 := (h y rfl).2 w List.mem_cons_self
            refine bef_trans (a5 y rfl) ?_
            unfold bef; omega
        · exact a4 w hw hp
    · rw [cond_true]
      have hp : p x = true := by simp only [Bool.and_eq_true] at hc; exact hc.2
      rcases pick_spec t (some x) hL'.2 (fun y e => by cases e; exact ⟨hp, hL'.1⟩) with ⟨a1, a2, a3⟩ | ⟨z, a1, a2, a3, a4, a5⟩
      · cases a2
      · refine .inr ⟨z, a1, a2, .inl ?_, fun w hw hp => ?_, fun y e => ?_⟩
        · rcases a3 with a3 | a3
          · exact List.mem_cons_of_mem _ a3
          · cases a3; exact List.mem_cons_self
        · rcases List.mem_cons.1 hw with rfl | hw
          · exact a5 _ rfl
          · exact a4 w hw hp
        · subst e
          simp only [Bool.and_eq_true] at hc
          exact bef_trans (a5 x rfl) (.inl (of_decide_eq_true (p := lexC (v x) (v y) < 0) hc.1))
/-- the best stable assignment -/
def bestR (r : XRound) : Option (List Int) := pick (valV r) (stableB r) none (asgL r)
theorem bestR_spec (r : XRound) : (bestR r = none ∧ ∀ x ∈ asgL r, stableB r x = false) ∨ ∃ z, bestR r = some z ∧ stableB r z = true ∧ asgB r z = true ∧ ∀ w, asgB r w = true → stableB r w = true → bef (valV r) z w := by
  rcases pick_spec (v := valV r) (p := stableB r) (asgL r) none (asgL_sorted r) (by simp) with ⟨a1, _, a3⟩ | ⟨z, a1, a2, a3, a4, _⟩
  · exact .inl ⟨a1, a3⟩
  · refine .inr ⟨z, a1, a2, ?_, fun w hw => a4 w (mem_asgL.2 hw)⟩
    rcases a3 with a3 | a3
    · exact mem_asgL.1 a3
    · cases a3
def bestM (r : XRound) : List Int × Int := match bestR r with | none => ([], 380) | some x => (x, 0)
theorem asg_len {r : XRound} {s : List Int} (hv : Val r) (h : asgB r s = true) : s.length ≤ 8 := by rw [(asg_props h).1]; exact hv.n8
theorem m18_eq (r : XRound) (hr : smXRound r) : m18_clearing_Best r = some (bif valB r then bestM r else ([], 370)) := by
  unfold m18_clearing_Best
  rw [m25_eq r hr]
  cases hvb : valB r
  · rfl
  have hv := Val.of hvb
  simp only [Option.bind_some, cond_true, ne_eq, not_true_eq_false, decide_false, cond_false, jn_eq, m38_eq r hv]
  have main : ∀ (L : List (List Int)) (acc : Option (List Int)), (∀ x ∈ L, asgB r x = true) →
      rng3 (m18_clearing_Best_B0 r) (fun (v_1 : List Int) (v_1n : Bool) (v_2 : List Int) => bif v_1n then some (([] : List Int), (380 : Int)) else some (v_2, 0)) L (match acc with | none => [] | some y => valV r y) (match acc with | none => true | some _ => false) (match acc with | none => [] | some y => y) =
        some (match pick (valV r) (stableB r) acc L with | none => ([], 380) | some x => (x, 0)) := by
    intro L
    induction L with
    | nil =>
      intro acc _
      rw [rng3_nil]
      cases acc <;> rfl
    | cons x t ih =>
      intro acc hL
      have ha := hL x List.mem_cons_self
      have hg : goodB r x = true := by unfold goodB; rw [hvb, ha]; rfl
      have hxl := asg_len hv ha
      have ih' := fun acc => ih acc fun w hw => hL w (List.mem_cons_of_mem _ hw)
      rw [rng3_cons]
      generalize rng3 (m18_clearing_Best_B0 r) (fun (v_1 : List Int) (v_1n : Bool) (v_2 : List Int) => bif v_1n then some (([] : List Int), (380 : Int)) else some (v_2, 0)) t = sf at ih' ⊢
      have hcl : m40_slices_Cloneint_int_ x = some x := by unfold m40_slices_Cloneint_int_; rw [ck_eq (by simp; omega)]; rfl
      have h2 : 0 < (valV r x).length := by simp [valV]
      unfold m18_clearing_Best_B0 pick btr
      simp only [val_good hg, Option.bind_some, jn_eq, m23_eq r x hr (by omega), hg, cond_true, decide_true, hcl, ck_eq h2]
      cases acc with
      | none =>
        simp only [Bool.not_true, cond_false, Bool.true_and]
        cases hs : stableB r x
        · exact ih' none
        · exact ih' (some x)
      | some y =>
        simp only [Bool.not_false, cond_true]
        rw [m39_eq _ _ (by simp [valV]), Option.bind_some]
        by_cases hc : 0 ≤ lexC (valV r x) (valV r y)
        · rw [decide_eq_true hc, cond_true, decide_eq_false (show ¬ lexC (valV r x) (valV r y) < 0 by omega), Bool.false_and, cond_false]
          exact ih' (some y)
        · rw [decide_eq_false hc, cond_false, decide_eq_true (show lexC (valV r x) (valV r y) < 0 by omega), Bool.true_and]
          cases hs : stableB r x
          · exact ih' (some y)
          · exact ih' (some x)
  exact main (asgL r) none fun x hx => mem_asgL.1 hx
theorem m20_eq (r : XRound) (s : List Int) (hr : smXRound r) (hl : s.length < 9223372036854775807) : m20_clearing_Verify r s = some (bif goodB r s then (bif stableB r s && decide (bestR r = some s) then 0 else 380) else 370) := by
  unfold m20_clearing_Verify
  rw [m23_eq r s hr hl, m18_eq r hr]
  cases hg : goodB r s
  · rfl
  have hvb : valB r = true := by unfold goodB at hg; simp only [Bool.and_eq_true] at hg; exact hg.1
  have hv := Val.of hvb
  simp only [Option.bind_some, cond_true, ne_eq, not_true_eq_false, decide_false, cond_false, jn_eq, hvb]
  cases hs : stableB r s
  · rfl
  simp only [Bool.not_true, cond_false, Bool.true_and]
  rcases bestR_spec r with ⟨b1, b2⟩ | ⟨z, b1, b2, b3, b4⟩
  · unfold bestM; rw [b1]; rfl
  · unfold bestM; rw [b1]
    simp only [decide_false, not_true_eq_false, cond_false]
    rw [m43_eq z s (by have := asg_len hv b3; omega), Option.bind_some]
    by_cases e : z = s
    · subst e; simp
    · rw [decide_eq_false e, decide_eq_false (fun h => e (Option.some.inj h))]; rfl
theorem m11_eq (r : XRound) (hr : smXRound r) : m11_overflightref38_Few r = some (fewB r && (decide ((r.owners.length : Int) ≤ 5) && decide (r.slots ≤ 6))) := by
  unfold m11_overflightref38_Few
  rw [m29_eq r hr]
  cases fewB r
  · rfl
  · rw [Option.bind_some, cond_true]
    cases decide ((r.owners.length : Int) ≤ 5) <;> rfl
theorem good_of {r : XRound} {s : List Int} (hvb : valB r = true) (h : asgB r s = true) : goodB r s = true := by unfold goodB; rw [hvb, h]; rfl
end Go.Fx
/- Chapter 38: what the specification of chapter 37 computes. -/
set_option linter.unusedSimpArgs false
set_option linter.unusedVariables false
namespace Go.Fx
open Go Go.RowKit
theorem m84_eq (l : List Int) (n : Int) (hl : l.length < 9223372036854775807) : m84_overflightref37_has l n = some (decide (n ∈ l)) := by
  unfold m84_overflightref37_has
  refine up_list0 (B := m84_overflightref37_has_B0 l n) (fun t => some (decide (n ∈ t))) l hl ?_ ?_ (by omega)
  · intro sf; unfold m84_overflightref37_has_B0; rw [decide_eq_false (Int.lt_irrefl _)]; simp
  · intro sf i x t h1 h2 h3 ih
    unfold m84_overflightref37_has_B0
    have g1 : l.getD (i : Int).toNat default = x := getD_of h2
    rw [decide_eq_true (ipos38 h1), cond_true, ck_eq (by omega), g1, h3, ih]
    by_cases e : x = n
    · rw [decide_eq_true e]; simp [e]
    · rw [decide_eq_false e]
      have : (n ∈ x :: t) = (n ∈ t) := by apply propext; rw [List.mem_cons]; exact ⟨fun h => h.resolve_left fun q => e q.symm, .inr⟩
      simp only [cond_false, this]
theorem m55_eq (r : XRound) (s : List Int) (hv : Val r) (hl : s.length < 9223372036854775807) : m55_overflightref37_Assignment r s = some (asgB r s) := by
  unfold m55_overflightref37_Assignment asgB
  by_cases hlen : s.length = r.owners.length
  rotate_left
  · rw [decide_eq_true (show (s.length : Int) ≠ (r.owners.length : Int) by omega), cond_true, decide_eq_false hlen]; rfl
  rw [decide_eq_false (show ¬ (s.length : Int) ≠ (r.owners.length : Int) by omega), cond_false, decide_eq_true hlen, Bool.true_and, List.range_eq_range']
  refine up_listI (B := m55_overflightref37_Assignment_B0 r s) (fun i t => some ((List.range' i t.length).all (okS r s))) s hl ?_ ?_ (by omega)
  · intro sf; unfold m55_overflightref37_Assignment_B0; rw [decide_eq_false (Int.lt_irrefl _)]; rfl
  · intro sf i x t h1 h2 h3 ih
    have g1 : s.getD (i : Int).toNat default = s.getD i default := rfl
    have c1 : (0 : Int) ≤ (i : Int) ∧ (i : Int) < (s.length : Int) := by omega
    have c2 : (0 : Int) ≤ (i : Int) ∧ (i : Int) < (r.costs.length : Int) := by have := hv.s4; omega
    have hrow := hv.row i (by omega)
    rw [List.length_cons, all_range']
    have inner : loop1 (m55_overflightref37_Assignment_B1 s (i : Int) sf) (((i : Int) - 0).toNat + 1) 0 = bif (s.take i).any (fun x => decide (s.getD i default = x)) then some false else sf ((i : Int) + 1) := by
      have hti : (s.take i).length = i := by rw [List.length_take]; omega
      refine up_list0 (B := m55_overflightref37_Assignment_B1 s (i : Int) sf) (fun t => bif t.any (fun x => decide (s.getD i default = x)) then some false else sf ((i : Int) + 1)) (s.take i) (by omega) ?_ ?_ (by omega)
      · intro sg; unfold m55_overflightref37_Assignment_B1; rw [hti, decide_eq_false (Int.lt_irrefl _), cond_false, h3]; rfl
      · intro sg k y u j1 j2 j3 ih2
        rw [hti] at j1
        unfold m55_overflightref37_Assignment_B1
        have g2 : s.getD (k : Int).toNat default = y := by
          rw [List.getElem?_take, if_pos j1] at j2; exact getD_of j2
        rw [decide_eq_true (show (k : Int) < (i : Int) by omega), cond_true, ck_eq (by omega), ck_eq c1, g1, g2, j3, ih2]
        by_cases e : y = s.getD i default
        · rw [decide_eq_true e, cond_true, List.any_cons, decide_eq_true e.symm]; rfl
        · rw [decide_eq_false e, cond_false, List.any_cons, decide_eq_false (fun q => e q.symm), Bool.false_or]
    unfold m55_overflightref37_Assignment_B0
    rw [decide_eq_true c1.2, cond_true]
    simp only [jn_eq, ck_eq c1, ck_eq c2, g1, inner]
    unfold okS
    by_cases q1 : s.getD i default < 0
    · rw [decide_eq_true q1]; rfl
    rw [decide_eq_false q1, cond_false]
    by_cases q2 : r.slots ≤ s.getD i default
    · rw [decide_eq_true q2]; rfl
    rw [decide_eq_false q2, cond_false, ck_eq (by rw [Int.toNat_natCast]; omega)]
    have e1 : (r.costs.getD (i : Int).toNat default).getD (s.getD i default).toNat default = cst r (i : Int) (s.getD i default) := rfl
    rw [e1]
    cases decide (cst r (i : Int) (s.getD i default) < 0)
    · rw [cond_false]
      cases (s.take i).any (fun x => decide (s.getD i default = x))
      · rw [cond_false, ih]; rfl
      · rfl
    · rfl
theorem m56_eq (r : XRound) (s : List Int) (hv : Val r) (ha : asgB r s = true) : m56_overflightref37_costs r s = some (cvec r (ownL r) s) := by
  have h8 := hv.n8
  obtain ⟨hlen, hin⟩ := asg_props ha
  have hf := fits_asg hv ha
  have hol := ownL_len r
  unfold m56_overflightref37_costs
  rw [ck_eq (by decide)]
  have hz : ((ownL r).zip s).take s.length = (ownL r).zip s := by rw [List.take_of_length_le (by simp; omega)]
  refine up_listB (B := m56_overflightref37_costs_B0 r s) (fun i c => c = (List.range 8).map fun o : Nat => csum (ownr r) (cst r) (o : Int) (((ownL r).zip s).take i)) (fun i t c => some (cvec r (ownL r) s)) s (by omega) ?_ ?_ (by omega) (by rfl)
  · intro sf c hI; unfold m56_overflightref37_costs_B0; rw [hz] at hI; rw [decide_eq_false (Int.lt_irrefl _)]; simp [hI, cvec]
  · intro sf i c x t h1 h2 h3 hI ih
    unfold m56_overflightref37_costs_B0
    obtain ⟨a1, a2, a3, a4⟩ := hf i (by omega)
    rw [ownL_getD (by omega)] at a1 a2
    have g1 : s.getD (i : Int).toNat default = s.getD i default := rfl
    have hc := fits.cst hv (f := (i : Int)) (s := s.getD i default) ⟨a1, a2, a3, a4⟩
    have hbound : ∀ o, -(1048576 * 20) ≤ csum (ownr r) (cst r) o (((ownL r).zip s).take i) ∧ csum (ownr r) (cst r) o (((ownL r).zip s).take i) ≤ 1048576 * 20 := by
      intro o
      have := csum_bound (own := ownr r) (cost := cst r) (o := o) (b := 1048576) (l := ((ownL r).zip s).take i) (by omega) (fun p hp => by
        obtain ⟨j, hj, rfl⟩ := List.getElem_of_mem (List.mem_of_mem_take hp)
        simp at hj
        have := fits.cst hv (hf j (by omega))
        rw [getD_getElem (by omega), getD_getElem (by omega)] at this
        simp only [List.getElem_zip]; omega)
      have hle : (((ownL r).zip s).take i).length ≤ 20 := by simp; omega
      have : (1048576 : Int) * (((ownL r).zip s).take i).length ≤ 1048576 * 20 := by omega
      omega
    have e1 : (r.costs.getD (i : Int).toNat default).getD (s.getD i default).toNat default = cst r (i : Int) (s.getD i default) := rfl
    have e2 : r.owners.getD (i : Int).toNat default = ownr r (i : Int) := rfl
    have hro := hv.row i (by omega)
    have ho := hv.own i (by omega)
    have e2' : r.owners.getD i default = ownr r (i : Int) := rfl
    rw [e2'] at ho
    have hs4 := hv.s4
    have hcl : c.length = 8 := by rw [hI]; simp
    have c1 : (0 : Int) ≤ (i : Int) ∧ (i : Int) < (s.length : Int) := by omega
    have c2 : (0 : Int) ≤ (i : Int) ∧ (i : Int) < (r.owners.length : Int) := by omega
    have c3 : (0 : Int) ≤ ownr r (i : Int) ∧ ownr r (i : Int) < (c.length : Int) := by omega
    have c4 : (0 : Int) ≤ (i : Int) ∧ (i : Int) < (r.costs.length : Int) := by omega
    have c6 : (0 : Int) ≤ s.getD i default ∧ s.getD i default < ((r.costs.getD (i : Int).toNat default).length : Int) := by rw [Int.toNat_natCast]; omega
    have cs := zip_take_succ (l := ownL r) (m := s) (i := i) (by omega) h1
    rw [ownL_getD (by omega)] at cs
    simp only [decide_eq_true c1.2, cond_true, g1, ck_eq c1, ck_eq c2, e2, ck_eq c3, ck_eq c4, ck_eq c6, e1, h3]
    refine ih _ ?_
    generalize s.getD i default = v at *
    have hk : ((ownr r (i : Int)).toNat : Int) = ownr r (i : Int) := by omega
    have hg : c.getD (ownr r (i : Int)).toNat default = csum (ownr r) (cst r) (ownr r (i : Int)) (((ownL r).zip s).take i) := by rw [hI, getD_map_range (by omega), hk]
    rw [hg, wrap_i64 (by have := hbound (ownr r (i : Int)); omega) (by have := hbound (ownr r (i : Int)); omega), hI]
    refine map_range_set (by omega) ?_ ?_
    · rw [cs, csum_append, hk]; simp [csum]
    · intro j hj; rw [cs, csum_append]; simp [csum]; omega
theorem m31_eq (r : XRound) (s : List Int) (hr : smXRound r) (hl : s.length < 9223372036854775807) : m31_overflightref37_Costs r s = some (bif goodB r s then (cvec r (ownL r) s, 0) else ([], 370)) := by
  unfold m31_overflightref37_Costs goodB
  simp only [jn_eq]
  rw [m54_eq r hr]
  cases hvb : valB r
  · rfl
  have hv := Val.of hvb
  rw [m55_eq r s hv hl]
  cases ha : asgB r s
  · rfl
  · simp [m56_eq r s hv ha]
theorem m41_eq (r : XRound) (hr : smXRound r) : m41_overflightref37_Check r = some (bif valB r then 0 else 370) := by
  unfold m41_overflightref37_Check
  rw [m54_eq r hr]
  cases valB r <;> rfl
theorem m83_eq (r : XRound) (hv : Val r) : m83_overflightref37_Own r = some (ownL r) := by
  have h8 := hv.n8
  unfold m83_overflightref37_Own
  refine up_listB (B := m83_overflightref37_Own_B0 r) (fun i s => s = (List.range i).map fun j : Nat => (j : Int)) (fun _ _ _ => some (ownL r)) r.owners (by omega) ?_ ?_ (by omega) (by rfl)
  · intro sf s hI; unfold m83_overflightref37_Own_B0; rw [decide_eq_false (Int.lt_irrefl _), hI]; rfl
  · intro sf i s x t h1 h2 h3 hI ih
    unfold m83_overflightref37_Own_B0
    rw [decide_eq_true (ipos38 h1), cond_true, ck_eq (by rw [hI]; simp; omega), h3, ih _ (by rw [hI, List.range_succ]; simp)]
theorem asg_own' {r : XRound} (hv : Val r) : asgB r (ownL r) = true := by
  unfold asgB
  simp only [Bool.and_eq_true, decide_eq_true_eq, List.all_eq_true, List.mem_range]
  refine ⟨ownL_len r, fun i hi => ?_⟩
  rw [ownL_len] at hi
  unfold okS
  rw [ownL_getD hi]
  have h3 := hv.s3
  have hd := hv.diag i hi
  have e : cst r (i : Int) (i : Int) = (r.costs.getD i default).getD i default := by unfold cst; simp
  have ha : ((ownL r).take i).any (fun x => decide ((i : Int) = x)) = false := by
    rw [List.any_eq_false]
    intro x hx hc
    have hx' := of_decide_eq_true hc
    obtain ⟨j, hj, hje⟩ := List.getElem_of_mem hx
    rw [List.length_take, ownL_len] at hj
    rw [List.getElem_take] at hje
    have : (ownL r)[j]'(by rw [ownL_len]; omega) = (j : Int) := by simp [ownL]
    omega
  rw [ha, e, decide_eq_false (show ¬ ((i : Int) < 0) by omega), decide_eq_false (show ¬ (r.slots ≤ (i : Int)) by omega), decide_eq_false (show ¬ (r.costs.getD i default).getD i default < 0 by omega)]
  rfl
theorem m65_eq (r : XRound) (s : List Int) (hr : smXRound r) (hl : s.length < 9223372036854775807) : m65_overflightref37_Worse r s = some (bif goodB r s then (worseL r s, 0) else ([], 370)) := by
  unfold m65_overflightref37_Worse goodB
  simp only [jn_eq]
  rw [m54_eq r hr]
  cases hvb : valB r
  · rfl
  have hv := Val.of hvb
  rw [m55_eq r s hv hl]
  cases ha : asgB r s
  · rfl
  simp only [Option.bind_some, Bool.not_true, cond_false, Bool.and_self, cond_true, m56_eq r s hv ha, m83_eq r hv, m56_eq r _ hv (asg_own' hv)]
  unfold worseL
  rw [List.range_eq_range']
  have e1 : (cvec r (ownL r) (ownL r)).length = 8 := by simp [cvec]
  have e2 : (cvec r (ownL r) s).length = 8 := by simp [cvec]
  generalize cvec r (ownL r) (ownL r) = b at *
  generalize cvec r (ownL r) s = a at *
  rw [← e2]
  refine up_listB (B := m65_overflightref37_Worse_B0 a b) (fun i l => l.length ≤ i) (fun i t l => some (l ++ ((List.range' i t.length).filter fun i => decide (b.getD i default < a.getD i default)).map (fun i : Nat => (i : Int)), 0)) a (by omega) ?_ ?_ (by omega) (by exact Nat.le_refl _)
  · intro sf l hI; unfold m65_overflightref37_Worse_B0; simp
  · intro sf i l x t h1 h2 h3 hI ih
    unfold m65_overflightref37_Worse_B0
    have g0 : a.getD (i : Int).toNat default = a.getD i default := rfl
    have g1 : b.getD (i : Int).toNat default = b.getD i default := rfl
    have c1 : (0 : Int) ≤ i ∧ (i : Int) < a.length := by omega
    have c2 : (0 : Int) ≤ i ∧ (i : Int) < b.length := by omega
    have c3 : (l.length + [(i : Int)].length) * 8 ≤ 140737488355328 := by simp; omega
    simp only [decide_eq_true c1.2, cond_true, g0, g1, h3, ck_eq c1, ck_eq c2, ck_eq c3]
    rw [show (x :: t).length = t.length + 1 from rfl, filter_range']
    by_cases q : b.getD i default < a.getD i default
    · rw [decide_eq_true q, cond_true, ih _ (by simp; omega)]; simp
    · rw [decide_eq_false q, cond_false, ih _ (by omega)]; simp
theorem m85_eq (g : List Int) (hl : g.length < 9223372036854775807) : m85_overflightref37_Group g = some (risB g && decide (g ≠ [])) := by
  unfold m85_overflightref37_Group
  have key : loop1 (m85_overflightref37_Group_B0 g) (((g.length : Int) - 0).toNat + 1) 0 = some ((List.range' 0 g.length).all (fun i => !(decide (g.getD i default < 0) || (decide (8 ≤ g.getD i default) || (decide (0 < i) && decide (g.getD i default ≤ g.getD (i - 1) default))))) && decide (g ≠ [])) := by
    refine up_listI (B := m85_overflightref37_Group_B0 g) (fun i t => some ((List.range' i t.length).all (fun i => !(decide (g.getD i default < 0) || (decide (8 ≤ g.getD i default) || (decide (0 < i) && decide (g.getD i default ≤ g.getD (i - 1) default))))) && decide (g ≠ []))) g hl ?_ ?_ (by omega)
    · intro sf; unfold m85_overflightref37_Group_B0
      rw [decide_eq_false (Int.lt_irrefl _), cond_false]
      congr 1
      rw [show (List.range' g.length ([] : List Int).length) = [] from rfl, List.all_nil, Bool.true_and]
      by_cases q : g = []
      · subst q; rfl
      · have := List.length_pos_iff.2 q; rw [decide_eq_true (show (0 : Int) < (g.length : Int) by omega), decide_eq_true q]
    · intro sf i x t h1 h2 h3 ih
      rw [List.length_cons, all_range']
      unfold m85_overflightref37_Group_B0
      have hx : g.getD (i : Int).toNat default = g.getD i default := rfl
      have c1 : (0 : Int) ≤ i ∧ (i : Int) < g.length := by omega
      simp only [decide_eq_true c1.2, cond_true, ck_eq c1, hx, h3, ih, jn_eq]
      generalize (List.range' (i + 1) t.length).all (fun i => !(decide (g.getD i default < 0) || (decide (8 ≤ g.getD i default) || (decide (0 < i) && decide (g.getD i default ≤ g.getD (i - 1) default))))) = rest
      generalize decide (g.getD i default < 0) = b1
      generalize decide (8 ≤ g.getD i default) = b2
      generalize decide (g ≠ []) = b3
      cases b1
      · cases b2
        · by_cases q : 0 < i
          · have w : IntKind.i64.wrap ((i : Int) - 1) = ((i - 1 : Nat) : Int) := (wrap_i64 (by omega) (by omega)).trans (by omega)
            have c2 : (0 : Int) ≤ ((i - 1 : Nat) : Int) ∧ ((i - 1 : Nat) : Int) < g.length := by omega
            have e2 : g.getD ((i - 1 : Nat) : Int).toNat default = g.getD (i - 1) default := rfl
            rw [decide_eq_true (show (0 : Int) < i by omega), decide_eq_true q, w]
            simp only [cond_true, cond_false, ck_eq c2, e2]
            cases decide (g.getD i default ≤ g.getD (i - 1) default) <;> cases rest <;> rfl
          · rw [decide_eq_false (show ¬ (0 : Int) < i by omega), decide_eq_false q]
            cases rest <;> rfl
        · rfl
      · rfl
  rw [key, ← List.range_eq_range']; rfl
theorem m87_eq (r : XRound) (g : List Int) (hv : Val r) (hg : g.length < 9223372036854775807) : m87_overflightref37_Flights r g = some (flB r g) := by
  unfold m87_overflightref37_Flights
  have hn8 := hv.n8
  refine up_listB (B := m87_overflightref37_Flights_B0 r g) (s := ([] : List Int)) (fun i l => l.length ≤ i ∧ l ++ ((List.range' i (r.owners.length - i)).map fun j : Nat => (j : Int)).filter (fun f => g.any fun x => decide (ownr r f = x)) = flB r g) (fun _ _ _ => some (flB r g)) r.owners (by omega) ?_ ?_ (show r.owners.length < ((r.owners.length : Int) - 0).toNat + 1 by omega) ⟨Nat.le_refl _, by simp [flB, ownL, List.range_eq_range']⟩
  · intro sf l hI
    have hI := hI.2
    rw [Nat.sub_self] at hI
    simp only [List.range'_zero, List.map_nil, List.filter_nil, List.append_nil] at hI
    subst hI
    unfold m87_overflightref37_Flights_B0
    rw [decide_eq_false (Int.lt_irrefl _)]; rfl
  · intro sf i l y t h1 h2 h3 hI ih
    unfold m87_overflightref37_Flights_B0
    have c1 : (0 : Int) ≤ i ∧ (i : Int) < r.owners.length := by omega
    have e1 : r.owners.getD (i : Int).toNat default = ownr r i := rfl
    rw [decide_eq_true c1.2, cond_true, ck_eq c1, e1, m84_eq g _ hg, Option.bind_some, h3]
    obtain ⟨k, hk⟩ : ∃ k, r.owners.length - i = k + 1 := ⟨r.owners.length - i - 1, by omega⟩
    obtain ⟨hI1, hI2⟩ := hI
    rw [hk, List.range'_succ, List.map_cons, List.filter_cons] at hI2
    have hk2 : r.owners.length - (i + 1) = k := by omega
    have hany : (g.any fun x => decide (ownr r (i : Int) = x)) = decide (ownr r (i : Int) ∈ g) := by rw [contains_any]; simp
    rw [hany] at hI2
    by_cases q : ownr r (i : Int) ∈ g
    · rw [decide_eq_true q] at hI2 ⊢
      rw [cond_true, ck_eq (by simp; omega)]
      exact ih _ ⟨by simp; omega, by rw [hk2]; simpa using hI2⟩
    · rw [decide_eq_false q] at hI2 ⊢
      rw [cond_false]
      exact ih _ ⟨by omega, by rw [hk2]; simpa using hI2⟩
end Go.Fx
/- Chapter 38: the specification's search, groups and stability. -/
set_option linter.unusedSimpArgs false
set_option linter.unusedVariables false
namespace Go.Fx
open Go Go.RowKit
theorem m95_eq (r : XRound) (g fl s than : List Int) (hv : Val r) (hl : fl.length ≤ 20) (hls : fl.length ≤ s.length) (hf : ∀ i < fl.length, fits r (fl.getD i default) (s.getD i default)) (hg : grp g) (hgl : g.length < 9223372036854775807) (ht : than.length = 8) : m95_overflightref37_less r g fl s than = some (bet r than g fl s) := by
  unfold m95_overflightref37_less
  rw [ck_eq (by decide)]
  have hz : (fl.zip s).take fl.length = fl.zip s := by rw [List.take_of_length_le (by simp; omega)]
  refine up_listB (B := m95_overflightref37_less_B0 r g fl s than) (fun i c => c = (List.range 8).map fun o : Nat => csum (ownr r) (cst r) (o : Int) ((fl.zip s).take i)) (fun i t c => some (bet r than g fl s)) fl (by omega) ?_ ?_ (by omega) (by rfl)
  · intro sf c hI
    have hc : c = cvec r fl s := by rw [hI, hz]; rfl
    subst hc
    unfold m95_overflightref37_less_B0
    rw [decide_eq_false (Int.lt_irrefl _), cond_false]
    have hcl : (cvec r fl s).length = 8 := by simp [cvec]
    refine (up_list0 (B := m95_overflightref37_less_B1 g than (cvec r fl s)) (fun t => some (t.all fun o => decide ((cvec r fl s).getD o.toNat default < than.getD o.toNat default))) g hgl ?_ ?_ (show g.length < ((g.length : Int) - 0).toNat + 1 by omega))
    · intro sg; unfold m95_overflightref37_less_B1; rw [decide_eq_false (Int.lt_irrefl _)]; rfl
    · intro sg i x t h1 h2 h3 ih
      have hx := hg x (List.mem_of_getElem? h2)
      have g1 : g.getD (i : Int).toNat default = x := getD_of h2
      have c1 : (0 : Int) ≤ (i : Int) ∧ (i : Int) < (g.length : Int) := by omega
      have c2 : (0 : Int) ≤ x ∧ x < ((cvec r fl s).length : Int) := by omega
      have c3 : (0 : Int) ≤ x ∧ x < (than.length : Int) := by omega
      unfold m95_overflightref37_less_B1
      simp only [decide_eq_true c1.2, cond_true, ck_eq c1, g1, ck_eq c2, ck_eq c3, h3, ih, List.all_cons]
      by_cases q : than.getD x.toNat default ≤ (cvec r fl s).getD x.toNat default
      · rw [decide_eq_true q, decide_eq_false (show ¬ (cvec r fl s).getD x.toNat default < than.getD x.toNat default by omega)]; rfl
      · rw [decide_eq_false q, decide_eq_true (show (cvec r fl s).getD x.toNat default < than.getD x.toNat default by omega), Bool.true_and, cond_false]
  · intro sf i c x t h1 h2 h3 hI ih
    unfold m95_overflightref37_less_B0
    obtain ⟨a1, a2, a3, a4⟩ := hf i h1
    have g0 : fl.getD (i : Int).toNat default = fl.getD i default := rfl
    have g1 : s.getD (i : Int).toNat default = s.getD i default := rfl
    have hc := fits.cst hv (hf i h1)
    have hbound : ∀ o, -(1048576 * 20) ≤ csum (ownr r) (cst r) o ((fl.zip s).take i) ∧ csum (ownr r) (cst r) o ((fl.zip s).take i) ≤ 1048576 * 20 := by
      intro o
      have := csum_bound (own := ownr r) (cost := cst r) (o := o) (b := 1048576) (l := (fl.zip s).take i) (by omega) (fun p hp => by
        obtain ⟨j, hj, rfl⟩ := List.getElem_of_mem (List.mem_of_mem_take hp)
        simp at hj
        have := fits.cst hv (hf j (by omega))
        rw [getD_getElem (by omega), getD_getElem (by omega)] at this
        simp only [List.getElem_zip]; omega)
      have hle : ((fl.zip s).take i).length ≤ 20 := by simp; omega
      have : (1048576 : Int) * ((fl.zip s).take i).length ≤ 1048576 * 20 := by omega
      omega
    have e1 : (r.costs.getD (fl.getD i default).toNat default).getD (s.getD i default).toNat default = cst r (fl.getD i default) (s.getD i default) := rfl
    have e2 : r.owners.getD (fl.getD i default).toNat default = ownr r (fl.getD i default) := rfl
    have hro := hv.row (fl.getD i default).toNat (by omega)
    have ho := hv.own (fl.getD i default).toNat (by omega)
    rw [e2] at ho
    have hs4 := hv.s4
    have hlen : c.length = 8 := by rw [hI]; simp
    have c1 : (0 : Int) ≤ i ∧ (i : Int) < fl.length := by omega
    have c2 : (0 : Int) ≤ fl.getD i default ∧ fl.getD i default < r.owners.length := ⟨a1, a2⟩
    have c3 : (0 : Int) ≤ ownr r (fl.getD i default) ∧ ownr r (fl.getD i default) < c.length := by omega
    have c4 : (0 : Int) ≤ fl.getD i default ∧ fl.getD i default < r.costs.length := by omega
    have c5 : (0 : Int) ≤ i ∧ (i : Int) < s.length := by omega
    have c6 : (0 : Int) ≤ s.getD i default ∧ s.getD i default < ((r.costs.getD (fl.getD i default).toNat default).length : Int) := by omega
    have cs := zip_take_succ h1 (show i < s.length by omega)
    simp only [decide_eq_true c1.2, cond_true, g0, g1, e1, e2, ck_eq c1, ck_eq c2, ck_eq c3, ck_eq c4, ck_eq c5, ck_eq c6, h3]
    refine ih _ ?_
    generalize fl.getD i default = f at *
    generalize s.getD i default = v at *
    have hk : ((ownr r f).toNat : Int) = ownr r f := by omega
    have hg : c.getD (ownr r f).toNat default = csum (ownr r) (cst r) (ownr r f) ((fl.zip s).take i) := by rw [hI, getD_map_range (by omega), hk]
    rw [hg, wrap_i64 (by have := hbound (ownr r f); omega) (by have := hbound (ownr r f); omega), hI]
    refine map_range_set (by omega) ?_ ?_
    · rw [cs, csum_append, hk]; simp [csum]
    · intro j hj; rw [cs, csum_append]; simp [csum]; omega
theorem search_eq (r : XRound) (g fl than : List Int) (hv : Val r) (hl : fl.length ≤ 8) (hf : ∀ f ∈ fl, 0 ≤ f ∧ f < r.owners.length) (hg : grp g) (hgl : g.length < 9223372036854775807) (ht : than.length = 8) : ∀ (N : Nat) (b : List Int), b.length ≤ fl.length → fl.length - b.length < N → (∀ x ∈ b, x ∈ fl) →
    ∃ x, m86_overflightref37_search_N N r g fl b than = some (x, (dv fl (okf r fl) (fl.length - b.length) b).any (bet r than g fl)) := by
  have h3 := hv.s3
  intro N
  induction N with
  | zero => intro b _ h; omega
  | succ N ih =>
    intro b hb hN hbf
    show ∃ x, m86_overflightref37_search_F (m86_overflightref37_search_N N) r g fl b than = _
    generalize m86_overflightref37_search_N N = FX at ih ⊢
    unfold m86_overflightref37_search_F
    by_cases q : b.length = fl.length
    · have hfit : ∀ i < fl.length, fits r (fl.getD i default) (b.getD i default) := by
        intro i hi
        have h1 := hf _ (getD_mem (l := fl) hi)
        have h2 := hf _ (hbf _ (getD_mem (l := b) (i := i) (by omega)))
        exact ⟨h1.1, h1.2, h2.1, by omega⟩
      rw [decide_eq_true (by omega), cond_true, m95_eq r g fl b than hv (by omega) (by omega) hfit hg hgl ht, show fl.length - b.length = 0 by omega]
      exact ⟨b, by simp [dv]⟩
    · rw [decide_eq_false (by omega), cond_false]
      obtain ⟨k, hk⟩ : ∃ k, fl.length - b.length = k + 1 := ⟨fl.length - b.length - 1, by omega⟩
      rw [hk]
      have main : ∀ (t : List Int) (i f : Nat), fl.drop i = t → i ≤ fl.length → t.length < f →
          ∃ x, loop1 (m86_overflightref37_search_B0 FX r g fl b than) f (i : Int) = some (x, (t.flatMap fun s => bif okf r fl b.length s && !b.contains s then dv fl (okf r fl) k (b ++ [s]) else []).any (bet r than g fl)) := by
        intro t
        induction t with
        | nil =>
          intro i f hd hi hf'
          have he : fl.length ≤ i := by have := congrArg List.length hd; rw [List.length_drop, List.length_nil] at this; omega
          obtain ⟨f, rfl⟩ : ∃ f', f = f' + 1 := ⟨f - 1, by simp at hf'; omega⟩
          refine ⟨[], ?_⟩
          rw [loop1_succ]; unfold m86_overflightref37_search_B0
          rw [decide_eq_false (by omega)]; rfl
        | cons s t iht =>
          intro i f hd hi hf'
          obtain ⟨f, rfl⟩ : ∃ f', f = f' + 1 := ⟨f - 1, by simp at hf'; omega⟩
          have hlt : i < fl.length := by have := congrArg List.length hd; simp at this; omega
          have hx : fl[i] = s := by rw [List.drop_eq_getElem_cons hlt] at hd; exact (List.cons.inj hd).1
          have ht' : fl.drop (i + 1) = t := by rw [List.drop_eq_getElem_cons hlt] at hd; exact (List.cons.inj hd).2
          have hxm : s ∈ fl := by rw [← hx]; exact List.getElem_mem hlt
          have hbm : fl.getD b.length default ∈ fl := getD_mem (by omega)
          have a1 := hf _ hxm
          have a2 := hf _ hbm
          have hrow := hv.row (fl.getD b.length default).toNat (by omega)
          obtain ⟨x', hx'⟩ := iht (i + 1) f ht' (by omega) (by simp at hf'; omega)
          rw [loop1_succ]
          generalize loop1 (m86_overflightref37_search_B0 FX r g fl b than) f = L at hx' ⊢
          unfold m86_overflightref37_search_B0
          have g1 : fl.getD (i : Int).toNat default = s := by rw [Int.toNat_natCast, getD_getElem hlt, hx]
          have c1 : (0 : Int) ≤ i ∧ (i : Int) < fl.length := by omega
          have c2 : (0 : Int) ≤ (b.length : Int) ∧ (b.length : Int) < fl.length := by omega
          have c3 : (0 : Int) ≤ fl.getD b.length default ∧ fl.getD b.length default < r.costs.length := by have := hv.s4; omega
          have c4 : (0 : Int) ≤ s ∧ s < ((r.costs.getD (fl.getD b.length default).toNat default).length : Int) := by omega
          have e1 : (r.costs.getD (fl.getD b.length default).toNat default).getD s.toNat default = cst r (fl.getD b.length default) s := rfl
          have c5 : ((([] : List Int).length + b.length) * 8 ≤ 140737488355328) := by simp; omega
          have c6 : ((b.length + [s].length) * 8 ≤ 140737488355328) := by simp; omega
          simp only [decide_eq_true c1.2, cond_true, jn_eq, ck_eq c1, g1, ck_eq c2, ck_eq c3, ck_eq c4, e1, ck_eq c5, ck_eq c6, List.nil_append, wrapS (show i + 1 < 9223372036854775808 by omega), List.flatMap_cons]
          rw [show (i : Int) + 1 = ((i + 1 : Nat) : Int) by omega, m84_eq b s (by omega), Option.bind_some]
          have hok : okf r fl b.length s = decide (0 ≤ cst r (fl.getD b.length default) s) := rfl
          by_cases hm : s ∈ b
          · rw [decide_eq_true hm, cond_true, hx']
            have : b.contains s = true := by simp [hm]
            refine ⟨x', ?_⟩
            rw [this, Bool.not_true, Bool.and_false, cond_false, List.nil_append]
          · have hnc : b.contains s = false := by simp [hm]
            rw [decide_eq_false hm, cond_false]
            by_cases hneg : cst r (fl.getD b.length default) s < 0
            · refine ⟨x', ?_⟩
              rw [decide_eq_true hneg, cond_true, hx', hok, decide_eq_false (show ¬ 0 ≤ cst r (fl.getD b.length default) s by omega)]; rfl
            · obtain ⟨y, hy⟩ := ih (b ++ [s]) (by simp; omega) (by simp; omega) (fun z hz => by
                rcases List.mem_append.1 hz with h | h
                · exact hbf z h
                · rw [List.mem_singleton.1 h]; exact hxm)
              rw [show fl.length - (b ++ [s]).length = k by simp; omega] at hy
              rw [decide_eq_false hneg, cond_false, hy, Option.bind_some, hok, decide_eq_true (show 0 ≤ cst r (fl.getD b.length default) s by omega), hnc]
              simp only [Bool.not_false, Bool.and_self, cond_true, List.any_append]
              cases (dv fl (okf r fl) k (b ++ [s])).any (bet r than g fl)
              · refine ⟨x', ?_⟩
                rw [cond_false, hx', Bool.false_or]
              · exact ⟨y, rfl⟩
      exact main fl 0 _ rfl (Nat.zero_le _) (by omega)
/-- whether a group does better by itself -/
def blkB (r : XRound) (than g : List Int) : Bool := (devL r (flB r g)).any (bet r than g (flB r g))
theorem m67_eq (r : XRound) (s g : List Int) (hr : smXRound r) (hgood : goodB r s = true) (hg : (risB g && decide (g ≠ [])) = true) (hl : s.length < 9223372036854775807) (hgl : g.length < 9223372036854775807) : ∃ x, m67_overflightref37_Blocks r s g = some (x, blkB r (cvec r (ownL r) s) g, 0) := by
  obtain ⟨hv, ha⟩ := good_props hgood
  have hvb : valB r = true := by unfold goodB at hgood; simp only [Bool.and_eq_true] at hgood; exact hgood.1
  have hgr := (risB_props (by simp only [Bool.and_eq_true] at hg; exact hg.1)).1
  have hn8 := hv.n8
  have hfl := flB_len r g
  obtain ⟨x, hx⟩ := search_eq r g (flB r g) (cvec r (ownL r) s) hv (by omega) (fun f hf => (mem_flB.1 hf).1) hgr hgl (by simp [cvec]) 1000000 [] (by simp) (by simp; omega) (by simp)
  unfold m67_overflightref37_Blocks
  simp only [jn_eq]
  rw [m54_eq r hr, hvb, m55_eq r s hv hl, ha, m85_eq g hgl, hg, m87_eq r g hv hgl, m56_eq r s hv ha]
  simp only [Option.bind_some, Bool.not_true, cond_false]
  have hx' : m86_overflightref37_search r g (flB r g) [] (cvec r (ownL r) s) = some (x, blkB r (cvec r (ownL r) s) g) := hx
  rw [hx', Option.bind_some]
  cases blkB r (cvec r (ownL r) s) g
  · exact ⟨[], rfl⟩
  · exact ⟨x, rfl⟩
/-- the groups of airlines that have flights -/
def gl (r : XRound) : Nat → List (List Int)
  | 0 => [[]]
  | i + 1 => bif hasF r (i : Int) then gl r i ++ (gl r i).map (· ++ [(i : Int)]) else gl r i
theorem mem_gl {r : XRound} : ∀ (i : Nat) (g : List Int), g ∈ gl r i ↔ g.Pairwise (· < ·) ∧ ∀ o ∈ g, 0 ≤ o ∧ o < (i : Int) ∧ hasF r o = true
  | 0, g => by
    simp only [gl, List.mem_singleton]
    constructor
    · rintro rfl; simp
    · rintro ⟨_, h⟩
      cases g with
      | nil => rfl
      | cons o t => have := h o List.mem_cons_self; omega
  | i + 1, g => by
    have ih := fun g => mem_gl (r := r) i g
    unfold gl
    cases hh : hasF r (i : Int)
    · rw [cond_false, ih]
      constructor
      · rintro ⟨h1, h2⟩; exact ⟨h1, fun o ho => by have := h2 o ho; exact ⟨this.1, by omega, this.2.2⟩⟩
      · rintro ⟨h1, h2⟩
        refine ⟨h1, fun o ho => ?_⟩
        obtain ⟨a1, a2, a3⟩ := h2 o ho
        refine ⟨a1, ?_, a3⟩
        by_cases e : o = (i : Int)
        · rw [e, hh] at a3; cases a3
        · omega
    · rw [cond_true, List.mem_append, ih, List.mem_map]
      constructor
      · rintro (⟨h1, h2⟩ | ⟨h, hm, rfl⟩)
        · exact ⟨h1, fun o ho => by have := h2 o ho; exact ⟨this.1, by omega, this.2.2⟩⟩
        · obtain ⟨h1, h2⟩ := (ih h).1 hm
          refine ⟨List.pairwise_append.2 ⟨h1, List.pairwise_singleton _ _, fun a ha b hb => ?_⟩, fun o ho => ?_⟩
          · rw [List.mem_singleton.1 hb]; exact (h2 a ha).2.1
          · rcases List.mem_append.1 ho with ho | ho
            · have := h2 o ho; exact ⟨this.1, by omega, this.2.2⟩
            · rw [List.mem_singleton.1 ho]; exact ⟨by omega, by omega, hh⟩
      · rintro ⟨h1, h2⟩
        rcases List.eq_nil_or_concat g with rfl | ⟨h, z, rfl⟩
        · exact .inl ⟨List.Pairwise.nil, by simp⟩
        · rw [List.concat_eq_append] at h1 h2 ⊢
          obtain ⟨p1, _, p3⟩ := List.pairwise_append.1 h1
          have hz := h2 z (by simp)
          by_cases e : z = (i : Int)
          · subst e
            exact .inr ⟨h, (ih h).2 ⟨p1, fun o ho => by have a := h2 o (List.mem_append_left _ ho); have b := p3 o ho _ (List.mem_singleton.2 rfl); exact ⟨a.1, b, a.2.2⟩⟩, rfl⟩
          · refine .inl ⟨h1, fun o ho => ?_⟩
            have a := h2 o ho
            refine ⟨a.1, ?_, a.2.2⟩
            rcases List.mem_append.1 ho with ho | ho
            · have b := p3 o ho _ (List.mem_singleton.2 rfl); omega
            · rw [List.mem_singleton.1 ho]; omega
theorem gl_head {r : XRound} : ∀ i : Nat, ∃ t, gl r i = [] :: t ∧ ∀ g ∈ t, g ≠ []
  | 0 => ⟨[], rfl, by simp⟩
  | i + 1 => by
    obtain ⟨t, h1, h2⟩ := gl_head (r := r) i
    unfold gl
    rw [h1]
    cases hasF r (i : Int)
    · exact ⟨t, rfl, h2⟩
    · refine ⟨t ++ ([] :: t).map (· ++ [(i : Int)]), rfl, fun g hg => ?_⟩
      rcases List.mem_append.1 hg with hg | hg
      · exact h2 g hg
      · obtain ⟨h, _, rfl⟩ := List.mem_map.1 hg; simp
theorem gl_small {r : XRound} : ∀ i : Nat, (gl r i).length ≤ 2 ^ i ∧ ∀ g ∈ gl r i, g.length ≤ i
  | 0 => by simp [gl]
  | i + 1 => by
    obtain ⟨h1, h2⟩ := gl_small (r := r) i
    unfold gl
    cases hasF r (i : Int)
    · rw [cond_false]; exact ⟨by rw [Nat.pow_succ]; omega, fun g hg => by have := h2 g hg; omega⟩
    · rw [cond_true]
      refine ⟨by rw [List.length_append, List.length_map, Nat.pow_succ]; omega, fun g hg => ?_⟩
      rcases List.mem_append.1 hg with hg | hg
      · have := h2 g hg; omega
      · obtain ⟨h, hm, rfl⟩ := List.mem_map.1 hg
        have := h2 h hm; simp; omega
theorem m66_eq (r : XRound) (hv : Val r) : m66_overflightref37_Groups r = some ((gl r 8).drop 1) := by
  have h8 := hv.n8
  unfold m66_overflightref37_Groups
  refine up_listB (B := m66_overflightref37_Groups_B0 r) (s := [([] : List Int)]) (fun i s => s = gl r i) (fun _ _ _ => some ((gl r 8).drop 1)) (List.range' 0 8) (by rw [List.length_range']; omega) ?_ ?_ (show (List.range' 0 8).length < ((8 : Int) - 0).toNat + 1 by rw [List.length_range']; omega) (by rfl)
  · intro sf s hI
    rw [List.length_range'] at hI ⊢
    subst hI
    obtain ⟨t, ht, _⟩ := gl_head (r := r) 8
    unfold m66_overflightref37_Groups_B0
    rw [decide_eq_false (show ¬ ((8 : Nat) : Int) < 8 by omega), cond_false, ck_eq (by rw [ht]; simp; omega), ← List.length_drop, List.take_length]
  · intro sf i s x t h1 h2 h3 hI ih
    rw [List.length_range'] at h1
    subst hI
    obtain ⟨q1, q2⟩ := gl_small (r := r) i
    have hp : 2 ^ i ≤ 256 := Nat.le_trans (Nat.pow_le_pow_right (n := 2) (by decide) (show i ≤ 8 by omega)) (by decide)
    unfold m66_overflightref37_Groups_B0
    rw [decide_eq_true (show (i : Int) < 8 by omega), cond_true]
    simp only [jn_eq]
    rw [m84_eq r.owners _ (by omega), Option.bind_some, h3]
    have hh : hasF r (i : Int) = decide ((i : Int) ∈ r.owners) := by unfold hasF; rw [contains_any]; simp
    rw [← hh]
    cases hq : hasF r (i : Int)
    · rw [Bool.not_false, cond_true]
      exact ih _ (by show gl r i = gl r (i + 1); conv => rhs; unfold gl; rw [hq, cond_false])
    · rw [Bool.not_true, cond_false]
      refine (up_listB (B := m66_overflightref37_Groups_B1 (gl r i) (i : Int) fun out_2 => sf out_2 ((i : Int) + 1)) (fun k s => s = gl r i ++ ((gl r i).take k).map (· ++ [(i : Int)])) (fun _ _ _ => sf (gl r i ++ (gl r i).map (· ++ [(i : Int)])) ((i : Int) + 1)) (gl r i) (by omega) ?_ ?_ (by omega) (by simp)).trans ?_
      · intro sg s hI
        unfold m66_overflightref37_Groups_B1
        rw [decide_eq_false (Int.lt_irrefl _), cond_false, hI, List.take_length]
      · intro sg k s y u j1 j2 j3 hI ih2
        have hy := q2 y (List.mem_of_getElem? j2)
        have g1 : s.getD (k : Int).toNat default = y := by
          rw [hI, Int.toNat_natCast, List.getD_eq_getElem?_getD, List.getElem?_append_left j1, j2]; rfl
        have hsl : s.length ≤ 512 := by rw [hI]; simp; omega
        have hsk : k < s.length := by rw [hI]; simp; omega
        unfold m66_overflightref37_Groups_B1
        rw [decide_eq_true (ipos38 j1), cond_true, ck_eq (by omega), g1, ck_eq (by simp; omega), ck_eq (by simp; omega), ck_eq (by simp; omega), List.nil_append, j3, ih2]
        rw [hI, List.append_assoc, List.take_add_one, j2]; simp
      · exact ih _ (by conv => rhs; unfold gl; rw [hq, cond_true])
theorem any_st {r : XRound} {s : List Int} (hgood : goodB r s = true) : (((gl r 8).drop 1).any fun g => blkB r (cvec r (ownL r) s) g) = (List.range 256).any (stB r (cvec r (ownL r) s)) := by
  obtain ⟨hv, ha⟩ := good_props hgood
  obtain ⟨t, ht, hne⟩ := gl_head (r := r) 8
  rw [Bool.eq_iff_iff, List.any_eq_true, List.any_eq_true]
  constructor
  · rintro ⟨g, hg, hb⟩
    have hgl : g ∈ gl r 8 := List.mem_of_mem_drop hg
    have hgne : g ≠ [] := by rw [ht] at hg; exact hne g hg
    obtain ⟨p1, p2⟩ := (mem_gl 8 g).1 hgl
    have hgr : grp g := fun o ho => ⟨(p2 o ho).1, by have := (p2 o ho).2.1; omega⟩
    unfold blkB at hb
    obtain ⟨x, hx, hbx⟩ := List.any_eq_true.1 hb
    obtain ⟨b, hb256, rfl⟩ := grp_bits hgr p1
    refine ⟨b, List.mem_range.2 hb256, ?_⟩
    unfold stB
    simp only [Bool.and_eq_true, List.all_eq_true, List.mem_range, Bool.or_eq_true, Bool.not_eq_true', decide_eq_false_iff_not]
    refine ⟨fun o ho => ?_, ?_, ?_⟩
    · cases hbo : bitOn b o
      · left; rfl
      · right; exact (p2 _ (mem_grpOf.2 ⟨by omega, by omega, by rwa [Int.toNat_natCast]⟩)).2.2
    · have := List.length_pos_iff.2 hgne; omega
    · rcases blk_spec r (cvec r (ownL r) s) (grpOf b) with h | ⟨_, h⟩
      · exact h.1
      · rw [h x hx] at hbx; cases hbx
  · rintro ⟨b, hb, hs⟩
    unfold stB at hs
    simp only [Bool.and_eq_true, List.all_eq_true, List.mem_range, Bool.or_eq_true, Bool.not_eq_true', decide_eq_false_iff_not] at hs
    obtain ⟨h1, h2, h3⟩ := hs
    have hgne : grpOf b ≠ [] := fun e => h2 (by rw [e]; rfl)
    refine ⟨grpOf b, ?_, ?_⟩
    · have : grpOf b ∈ gl r 8 := (mem_gl 8 _).2 ⟨grpOf_rising b, fun o ho => by
        obtain ⟨a1, a2, a3⟩ := mem_grpOf.1 ho
        refine ⟨a1, by omega, ?_⟩
        rcases h1 o.toNat (by omega) with h | h
        · rw [a3] at h; cases h
        · rwa [show ((o.toNat : Nat) : Int) = o by omega] at h⟩
      rw [ht] at this ⊢
      rcases List.mem_cons.1 this with h | h
      · exact absurd h hgne
      · exact h
    · rcases blk_spec r (cvec r (ownL r) s) (grpOf b) with h | ⟨h, _⟩
      · exact List.any_eq_true.2 ⟨_, h.2.1, h.2.2⟩
      · rw [h] at h3; cases h3
theorem m44_eq (r : XRound) (s : List Int) (hr : smXRound r) (hl : s.length < 9223372036854775807) : m44_overflightref37_Stable r s = some (bif goodB r s then (stableB r s, 0) else (false, 370)) := by
  unfold m44_overflightref37_Stable
  rw [m65_eq r s hr hl]
  cases hg : goodB r s
  · rfl
  obtain ⟨hv, ha⟩ := good_props hg
  simp only [Option.bind_some, cond_true, ne_eq, not_true_eq_false, decide_false, cond_false]
  unfold stableB
  by_cases hw : worseL r s = []
  rotate_left
  · have := List.length_pos_iff.2 hw
    rw [decide_eq_true (show (0 : Int) < ((worseL r s).length : Int) by omega), decide_eq_false hw]; rfl
  rw [hw, decide_eq_false (show ¬ (0 : Int) < (([] : List Int).length : Int) by decide), cond_false, decide_eq_true rfl, Bool.true_and, m66_eq r hv, Option.bind_some, ← any_st hg]
  have hsm := gl_small (r := r) 8
  have hall : ∀ g ∈ (gl r 8).drop 1, (risB g && decide (g ≠ [])) = true ∧ g.length < 9223372036854775807 := by
    intro g hgm
    obtain ⟨t, ht, hne⟩ := gl_head (r := r) 8
    have hgl : g ∈ gl r 8 := List.mem_of_mem_drop hgm
    have hgne : g ≠ [] := by rw [ht] at hgm; exact hne g hgm
    obtain ⟨p1, p2⟩ := (mem_gl 8 g).1 hgl
    refine ⟨?_, by have := hsm.2 g hgl; omega⟩
    have hgr : grp g := fun o ho => ⟨(p2 o ho).1, by have := (p2 o ho).2.1; omega⟩
    obtain ⟨b, hb256, rfl⟩ := grp_bits hgr p1
    have hall256 : ∀ m : _root_.Fin 256, (risB (grpOf m.val)) = true := by decide +kernel
    have := hall256 ⟨b, hb256⟩
    simp only at this
    rw [this, decide_eq_true hgne]; rfl
  have hGl : ((gl r 8).drop 1).length < 9223372036854775807 := by rw [List.length_drop]; have := hsm.1; omega
  generalize (gl r 8).drop 1 = G at hall hGl ⊢
  refine (up_list0 (B := m44_overflightref37_Stable_B0 r s G) (fun t => some (!(t.any fun g => blkB r (cvec r (ownL r) s) g), 0)) G hGl ?_ ?_ (by omega))
  · intro sf; unfold m44_overflightref37_Stable_B0; rw [decide_eq_false (Int.lt_irrefl _)]; rfl
  · intro sf i g t h1 h2 h3 ih
    have hg2 := hall g (List.mem_of_getElem? h2)
    have g1 : G.getD (i : Int).toNat default = g := getD_of h2
    obtain ⟨x, hx⟩ := m67_eq r s g hr hg hg2.1 hl hg2.2
    unfold m44_overflightref37_Stable_B0
    rw [decide_eq_true (ipos38 h1), cond_true, ck_eq (by omega), g1, hx, Option.bind_some, h3, ih, List.any_cons]
    cases blkB r (cvec r (ownL r) s) g <;> rfl
end Go.Fx
/- Chapter 38: the best round, as the specification finds it. -/
set_option linter.unusedSimpArgs false
set_option linter.unusedVariables false
namespace Go.Fx
open Go Go.RowKit
theorem m13_eq (r : XRound) (s : List Int) (hr : smXRound r) (hl : s.length < 9223372036854775807) : m13_overflightref38_Value r s = some (bif goodB r s then (valV r s, 0) else ([], 370)) := by
  unfold m13_overflightref38_Value
  rw [m31_eq r s hr hl]
  cases hg : goodB r s
  · rfl
  obtain ⟨hv, ha⟩ := good_props hg
  have h8 := hv.n8
  have hlen := (asg_props ha).1
  have hin := asg_in ha
  simp only [Option.bind_some, cond_true, ne_eq, not_true_eq_false, decide_false, cond_false]
  refine (up_list (L := fun n i (p : Int × Int) => loop3 (m13_overflightref38_Value_B0 r s) n p.1 p.2 i) (fun i p => -(1048576 * (i : Int)) ≤ p.1 ∧ p.1 ≤ 1048576 * (i : Int) ∧ 0 ≤ p.2 ∧ p.2 ≤ (i : Int)) (fun i t p => some ([p.1 + vsum r i t, p.2 + vmov i t], 0)) s (by omega) ?_ ?_ _ (0, 0) (by omega) (by simp)).trans (by simp [valV])
  · rintro n ⟨a, c⟩ _
    show loop3 (m13_overflightref38_Value_B0 r s) (n + 1) a c _ = _
    rw [loop3_succ]; unfold m13_overflightref38_Value_B0
    rw [decide_eq_false (Int.lt_irrefl _)]; simp [vsum, vmov]
  · rintro n i ⟨a, c⟩ x t h1 h2 h3 ⟨b1, b2, b3, b4⟩ ih
    simp only at b1 b2 b3 b4
    show loop3 (m13_overflightref38_Value_B0 r s) (n + 1) a c _ = _
    have ih' : ∀ a c : Int, (-(1048576 * ((i + 1 : Nat) : Int)) ≤ a ∧ a ≤ 1048576 * ((i + 1 : Nat) : Int) ∧ 0 ≤ c ∧ c ≤ ((i + 1 : Nat) : Int)) → loop3 (m13_overflightref38_Value_B0 r s) n a c ((i : Int) + 1) = some ([a + vsum r (i + 1) t, c + vmov (i + 1) t], 0) := fun a c h => ih (a, c) h
    rw [loop3_succ]
    generalize loop3 (m13_overflightref38_Value_B0 r s) n = L at ih' ⊢
    have g1 : s.getD (i : Int).toNat default = x := getD_of h2
    obtain ⟨k1, k2⟩ := hin i h1
    have g2 : s.getD i default = x := g1
    rw [g2] at k1 k2
    have hrow := hv.row i (by omega)
    have hc := fits.cst hv (f := (i : Int)) (s := x) ⟨by omega, by omega, k1, k2⟩
    have e1 : (r.costs.getD (i : Int).toNat default).getD x.toNat default = cst r i x := rfl
    have w1 : IntKind.wrap .i64 (a + cst r i x) = a + cst r i x := wrap_i64 (by omega) (by omega)
    have w2 : IntKind.wrap .i64 (c + 1) = c + 1 := wrap_i64 (by omega) (by omega)
    have hci := hv.s4
    have c1 : (0 : Int) ≤ (i : Int) ∧ (i : Int) < (s.length : Int) := by omega
    have c2 : (0 : Int) ≤ (i : Int) ∧ (i : Int) < (r.costs.length : Int) := by omega
    have c3 : (0 : Int) ≤ x ∧ x < ((r.costs.getD (i : Int).toNat default).length : Int) := by rw [Int.toNat_natCast]; omega
    unfold m13_overflightref38_Value_B0
    simp only [decide_eq_true c1.2, cond_true, ck_eq c1, g1, ck_eq c2, ck_eq c3, e1, w1, w2, h3]
    by_cases hm : x = (i : Int)
    · rw [decide_eq_false (fun h => h hm), cond_false, ih' _ _ ⟨by omega, by omega, by omega, by omega⟩]
      simp [vsum, vmov, hm]; omega
    · rw [decide_eq_true hm, cond_true, ih' _ _ ⟨by omega, by omega, by omega, by omega⟩]
      simp [vsum, vmov, hm]; omega
theorem m82_eq (a b : List Int) (hlen : a.length = b.length) (hl : a.length < 9223372036854775807) : m82_overflightref06_Order a b = some (lexC a b) := by
  unfold m82_overflightref06_Order
  refine (up_listI (B := m82_overflightref06_Order_B0 a b) (fun i t => some (lexC t (b.drop i))) a hl ?_ ?_ (by omega)).trans (by simp)
  · intro sf; unfold m82_overflightref06_Order_B0
    rw [decide_eq_false (Int.lt_irrefl _), cond_false, hlen, List.drop_length]; rfl
  · intro sf i x t h1 h2 h3 ih
    have g1 : a.getD (i : Int).toNat default = x := getD_of h2
    have hb' : i < b.length := by omega
    have g2 : b.getD (i : Int).toNat default = b[i] := by simp [hb']
    have c1 : (0 : Int) ≤ (i : Int) ∧ (i : Int) < (a.length : Int) := by omega
    have c2 : (0 : Int) ≤ (i : Int) ∧ (i : Int) < (b.length : Int) := by omega
    unfold m82_overflightref06_Order_B0
    simp only [decide_eq_true c1.2, cond_true, ck_eq c1, ck_eq c2, g1, g2, h3, ih, List.drop_eq_getElem_cons hb']
    rcases Int.lt_trichotomy x b[i] with q | q | q
    · rw [lexC_lt q, decide_eq_true q]; rfl
    · rw [q, lexC_same, decide_eq_false (Int.lt_irrefl _)]; rfl
    · rw [lexC_gt q, decide_eq_false (by omega), decide_eq_true q]; rfl
/-- strictly before, as the specification tests it -/
def befB (r : XRound) (x y : List Int) : Bool := decide (lexC (valV r x) (valV r y) < 0) || (decide (lexC (valV r x) (valV r y) = 0) && decide (lexC x y < 0))
theorem befB_true {r : XRound} {x y : List Int} (h : befB r x y = true) : bef (valV r) x y := by
  unfold befB at h
  simp only [Bool.or_eq_true, Bool.and_eq_true, decide_eq_true_eq] at h
  rcases h with h | ⟨h1, h2⟩
  · exact .inl h
  · exact .inr ⟨h1, by omega⟩
theorem befB_false {r : XRound} {x y : List Int} (h : befB r x y = false) : bef (valV r) y x := by
  unfold befB at h
  simp only [Bool.or_eq_false_iff, Bool.and_eq_false_iff, decide_eq_false_iff_not] at h
  have e1 := lexC_neg (valV r x) (valV r y)
  have e2 := lexC_neg x y
  unfold bef
  obtain ⟨h1, h2⟩ := h
  by_cases q : lexC (valV r x) (valV r y) = 0
  · right; refine ⟨by omega, ?_⟩; rcases h2 with h2 | h2 <;> omega
  · left; omega
theorem m64_eq (r : XRound) (x y : List Int) (hr : smXRound r) (hx : goodB r x = true) (hy : goodB r y = true) : m64_overflightref38_before r x y = some (befB r x y) := by
  obtain ⟨hv, ax⟩ := good_props hx
  obtain ⟨_, ay⟩ := good_props hy
  have lx := asg_len hv ax
  have ly := asg_len hv ay
  unfold m64_overflightref38_before befB
  rw [m13_eq r x hr (by omega), m13_eq r y hr (by omega), hx, hy]
  simp only [Option.bind_some, cond_true]
  rw [m82_eq _ _ (by simp [valV]) (by simp [valV]), Option.bind_some]
  by_cases h1 : lexC (valV r x) (valV r y) < 0
  · rw [decide_eq_true h1]; rfl
  rw [decide_eq_false h1, cond_false, Bool.false_or]
  by_cases h2 : lexC (valV r x) (valV r y) = 0
  · rw [decide_eq_true h2, cond_true, m82_eq x y (by rw [(asg_props ax).1, (asg_props ay).1]) (by omega)]; rfl
  · rw [decide_eq_false h2]; rfl
theorem m59_eq (s : List Int) (v : Int) (hl : s.length < 9223372036854775807) : m59_overflightref38_flightWith s v = some (fidx (fun x => decide (x = v)) 0 s) := by
  unfold m59_overflightref38_flightWith
  refine up_listI (B := m59_overflightref38_flightWith_B0 s v) (fun i t => some (fidx (fun x => decide (x = v)) i t)) s hl ?_ ?_ (by omega)
  · intro sf; unfold m59_overflightref38_flightWith_B0; rw [decide_eq_false (Int.lt_irrefl _)]; rfl
  · intro sf i x t h1 h2 h3 ih
    have g1 : s.getD (i : Int).toNat default = x := getD_of h2
    unfold m59_overflightref38_flightWith_B0
    rw [decide_eq_true (ipos38 h1), cond_true, ck_eq (by omega), g1, h3, ih]
    show _ = some (bif decide (x = v) then (i : Int) else fidx (fun x => decide (x = v)) (i + 1) t)
    cases decide (x = v) <;> rfl
/-- what the search over a list of assignments must answer -/
def SpecB (r : XRound) (A : List (List Int)) (p : List Int × Bool) : Prop :=
  (p = ([], true) ∧ ∀ x ∈ A, stableB r x = false) ∨ ∃ z, p = (z, false) ∧ z ∈ A ∧ stableB r z = true ∧ ∀ w ∈ A, stableB r w = true → bef (valV r) z w
theorem spec_nil (r : XRound) : SpecB r [] ([], true) := .inl ⟨rfl, by simp⟩
theorem spec_one (r : XRound) (x : List Int) : SpecB r [x] (bif stableB r x then (x, false) else ([], true)) := by
  cases h : stableB r x
  · exact .inl ⟨rfl, by simp [h]⟩
  · exact .inr ⟨x, rfl, by simp, h, fun w hw _ => by rw [List.mem_singleton.1 hw]; exact bef_refl _ _⟩
theorem spec_join {r : XRound} {B C : List (List Int)} {o p : List Int × Bool} (hB : SpecB r B o) (hC : SpecB r C p) :
    SpecB r (B ++ C) (bif (!p.2 && (o.2 || befB r p.1 o.1)) then p else o) := by
  rcases hC with ⟨rfl, c2⟩ | ⟨z, rfl, c1, c2, c3⟩
  · simp only [Bool.not_true, Bool.false_and, cond_false]
    rcases hB with ⟨rfl, b2⟩ | ⟨y, rfl, b1, b2, b3⟩
    · exact .inl ⟨rfl, fun x hx => (List.mem_append.1 hx).elim (b2 x) (c2 x)⟩
    · refine .inr ⟨y, rfl, List.mem_append_left _ b1, b2, fun w hw hs => ?_⟩
      rcases List.mem_append.1 hw with hw | hw
      · exact b3 w hw hs
      · rw [c2 w hw] at hs; cases hs
  · simp only [Bool.not_false, Bool.true_and]
    rcases hB with ⟨rfl, b2⟩ | ⟨y, rfl, b1, b2, b3⟩
    · simp only [Bool.true_or, cond_true]
      refine .inr ⟨z, rfl, List.mem_append_right _ c1, c2, fun w hw hs => ?_⟩
      rcases List.mem_append.1 hw with hw | hw
      · rw [b2 w hw] at hs; cases hs
      · exact c3 w hw hs
    · simp only [Bool.false_or]
      cases hbf : befB r z y
      · refine .inr ⟨y, rfl, List.mem_append_left _ b1, b2, fun w hw hs => ?_⟩
        rcases List.mem_append.1 hw with hw | hw
        · exact b3 w hw hs
        · exact bef_trans (befB_false hbf) (c3 w hw hs)
      · refine .inr ⟨z, rfl, List.mem_append_right _ c1, c2, fun w hw hs => ?_⟩
        rcases List.mem_append.1 hw with hw | hw
        · exact bef_trans (befB_true hbf) (b3 w hw hs)
        · exact c3 w hw hs
theorem m42_eq (r : XRound) (hr : smXRound r) (hvb : valB r = true) : ∀ (N : Nat) (b : List Int), b.length ≤ r.owners.length → r.owners.length - b.length < N → (∀ x ∈ dv (slL r) (okA r) (r.owners.length - b.length) b, asgB r x = true) →
    ∃ p, m42_overflightref38_best_N N r b = some p ∧ SpecB r (dv (slL r) (okA r) (r.owners.length - b.length) b) p := by
  have hv := Val.of hvb
  have h8 := hv.n8
  have hs2 := hv.s2
  intro N
  induction N with
  | zero => intro b _ h; omega
  | succ N ih =>
    intro b hb hN hA
    show ∃ p, m42_overflightref38_best_F (m42_overflightref38_best_N N) r b = some p ∧ _
    generalize m42_overflightref38_best_N N = FX at ih ⊢
    unfold m42_overflightref38_best_F
    by_cases q : b.length = r.owners.length
    · rw [show r.owners.length - b.length = 0 by omega] at hA ⊢
      have hab : asgB r b = true := hA b (by simp [dv])
      rw [decide_eq_true (show (b.length : Int) = (r.owners.length : Int) by omega), cond_true, m44_eq r b hr (by omega), good_of hvb hab, cond_true, Option.bind_some]
      refine ⟨bif stableB r b then (b, false) else ([], true), ?_, spec_one r b⟩
      cases stableB r b <;> rfl
    · rw [decide_eq_false (show ¬ (b.length : Int) = (r.owners.length : Int) by omega), cond_false]
      obtain ⟨k, hk⟩ : ∃ k, r.owners.length - b.length = k + 1 := ⟨r.owners.length - b.length - 1, by omega⟩
      rw [hk] at hA ⊢
      have main : ∀ (t : List Int) (i f : Nat) (B : List (List Int)) (o : List Int × Bool), (slL r).drop i = t → i ≤ (slL r).length → t.length < f → SpecB r B o → (∀ y ∈ B, asgB r y = true) →
          ∃ p, loop3 (m42_overflightref38_best_B0 FX r b) f o.1 o.2 (i : Int) = some p ∧ SpecB r (B ++ t.flatMap fun s => bif okA r b.length s && !b.contains s then dv (slL r) (okA r) k (b ++ [s]) else []) p := by
        intro t
        induction t with
        | nil =>
          intro i f B o hd hi hf hS hB
          have he : (slL r).length ≤ i := by have := congrArg List.length hd; rw [List.length_drop, List.length_nil] at this; omega
          rw [slL_len] at he
          obtain ⟨f, rfl⟩ : ∃ f', f = f' + 1 := ⟨f - 1, by simp at hf; omega⟩
          refine ⟨o, ?_, by simpa using hS⟩
          rw [loop3_succ]; unfold m42_overflightref38_best_B0
          rw [decide_eq_false (by omega)]; rfl
        | cons x t iht =>
          intro i f B o hd hi hf hS hB
          obtain ⟨f, rfl⟩ : ∃ f', f = f' + 1 := ⟨f - 1, by simp at hf; omega⟩
          have hlt : i < (slL r).length := by have := congrArg List.length hd; simp at this; omega
          have hx : (slL r)[i] = x := by rw [List.drop_eq_getElem_cons hlt] at hd; exact (List.cons.inj hd).1
          have ht : (slL r).drop (i + 1) = t := by rw [List.drop_eq_getElem_cons hlt] at hd; exact (List.cons.inj hd).2
          have hxi : x = (i : Int) := by rw [← hx]; simp [slL]
          have hxm : x ∈ slL r := by rw [← hx]; exact List.getElem_mem hlt
          rw [slL_len] at hlt
          subst hxi
          have hrow := hv.row b.length (by omega)
          have hc4 := hv.s4
          have iht' := fun B o hS hB => iht (i + 1) f B o ht (by rw [slL_len]; omega) (by simp at hf; omega) hS hB
          rw [loop3_succ]
          generalize loop3 (m42_overflightref38_best_B0 FX r b) f = L at iht' ⊢
          unfold m42_overflightref38_best_B0
          have c1 : (0 : Int) ≤ (b.length : Int) ∧ (b.length : Int) < (r.costs.length : Int) := by omega
          have c2 : (0 : Int) ≤ (i : Int) ∧ (i : Int) < ((r.costs.getD b.length default).length : Int) := by omega
          have e1 : (r.costs.getD b.length default).getD (i : Int).toNat default = cst r (b.length : Int) (i : Int) := rfl
          have hin : decide (0 ≤ fidx (fun x => decide (x = (i : Int))) 0 b) = b.contains (i : Int) := by
            rw [fidx_any, ← contains_any]; congr 1; funext x; by_cases e : x = (i : Int)
            · rw [decide_eq_true e, decide_eq_true e.symm]
            · rw [decide_eq_false e, decide_eq_false (fun h => e h.symm)]
          have c5 : ((([] : List Int).length + b.length) * 8 ≤ 140737488355328) := by simp; omega
          have c6 : ((b.length + [(i : Int)].length) * 8 ≤ 140737488355328) := by simp; omega
          rw [decide_eq_true (show (i : Int) < r.slots by omega), cond_true, m59_eq b (i : Int) (by omega)]
          simp only [Option.bind_some, jn_eq, hin, ck_eq c1, ck_eq c2, e1, wrapS (show i + 1 < 9223372036854775808 by omega), ck_eq c5, ck_eq c6, List.nil_append, List.flatMap_cons]
          rw [show (i : Int) + 1 = ((i + 1 : Nat) : Int) by omega]
          have hsub : ∀ y ∈ (bif okA r b.length (i : Int) && !b.contains (i : Int) then dv (slL r) (okA r) k (b ++ [(i : Int)]) else []), asgB r y = true := fun y hy => hA y (by
            unfold dv; exact List.mem_flatMap.2 ⟨(i : Int), hxm, hy⟩)
          cases hcon : b.contains (i : Int)
          rotate_left
          · obtain ⟨p, k1, k2⟩ := iht' B o hS hB
            refine ⟨p, by rw [cond_true, cond_true, k1], ?_⟩
            simpa using k2
          rw [cond_false]
          rw [hcon] at hsub
          by_cases hneg : cst r (b.length : Int) (i : Int) < 0
          · have hok : okA r b.length (i : Int) = false := decide_eq_false (by omega)
            obtain ⟨p, k1, k2⟩ := iht' B o hS hB
            refine ⟨p, by rw [decide_eq_true hneg, cond_true, k1], ?_⟩
            rw [hok]; simpa using k2
          · have hok : okA r b.length (i : Int) = true := decide_eq_true (by omega)
            rw [hok] at hsub ⊢
            simp only [Bool.not_false, Bool.and_self, cond_true] at hsub ⊢
            have hlk : r.owners.length - (b ++ [(i : Int)]).length = k := by simp; omega
            obtain ⟨p1, j1, j2⟩ := ih (b ++ [(i : Int)]) (by simp; omega) (by simp; omega) (by rw [hlk]; exact hsub)
            rw [hlk] at j2
            rw [decide_eq_false hneg, cond_false, j1, Option.bind_some]
            have hjoin := spec_join hS j2
            have hB' : ∀ y ∈ B ++ dv (slL r) (okA r) k (b ++ [(i : Int)]), asgB r y = true := fun y hy => (List.mem_append.1 hy).elim (hB y) (hsub y)
            obtain ⟨p, k1, k2⟩ := iht' _ _ hjoin hB'
            refine ⟨p, ?_, by rw [← List.append_assoc]; exact k2⟩
            rw [← k1]
            cases h1 : p1.2
            · rw [Bool.not_false, cond_true]
              cases h2 : o.2
              · rcases hS with ⟨rfl, _⟩ | ⟨y, rfl, s1, s2, s3⟩
                · cases h2
                rcases j2 with ⟨rfl, _⟩ | ⟨z, rfl, t1, t2, t3⟩
                · cases h1
                simp only [cond_false, Bool.not_false, Bool.true_and, Bool.false_or]
                rw [m64_eq r z y hr (good_of hvb (hsub z t1)) (good_of hvb (hB y s1)), Option.bind_some]
                cases befB r z y <;> rfl
              · simp only [cond_true, Bool.true_or, Bool.and_self, h1]
            · rw [Bool.not_true, cond_false]
              simp only [Bool.false_and, cond_false]
      obtain ⟨p, k1, k2⟩ := main (slL r) 0 ((r.slots - 0).toNat + 1) [] ([], true) rfl (Nat.zero_le _) (by rw [slL_len]; omega) (spec_nil r) (by simp)
      exact ⟨p, k1, k2⟩
theorem m19_eq (r : XRound) (hr : smXRound r) : m19_overflightref38_Best r = some (bif valB r then bestM r else ([], 370)) := by
  unfold m19_overflightref38_Best
  rw [m41_eq r hr]
  cases hvb : valB r
  · rfl
  simp only [Option.bind_some, cond_true, ne_eq, not_true_eq_false, decide_false, cond_false]
  obtain ⟨p, h1, h2⟩ := m42_eq r hr hvb 1000000 [] (by simp) (by have := (Val.of hvb).n8; simp; omega) (fun x hx => mem_asgL.1 hx)
  have h1' : m42_overflightref38_best r [] = some p := h1
  rw [h1', Option.bind_some]
  have h2 : SpecB r (asgL r) p := h2
  unfold bestM
  rcases h2 with ⟨rfl, a2⟩ | ⟨z, rfl, a1, a2, a3⟩
  · rcases bestR_spec r with ⟨b1, b2⟩ | ⟨y, b1, b2, b3, b4⟩
    · rw [b1]; rfl
    · have := a2 y (mem_asgL.2 b3); rw [b2] at this; cases this
  · rcases bestR_spec r with ⟨b1, b2⟩ | ⟨y, b1, b2, b3, b4⟩
    · have := b2 z a1; rw [a2] at this; cases this
    · rw [b1, bef_anti (b4 z (mem_asgL.1 a1) a2) (a3 y (mem_asgL.2 b3) b2)]; rfl
theorem m21_eq (r : XRound) (s : List Int) (hr : smXRound r) (hl : s.length < 9223372036854775807) : m21_overflightref38_Verify r s = some (bif goodB r s then (bif stableB r s && decide (bestR r = some s) then 0 else 380) else 370) := by
  unfold m21_overflightref38_Verify
  rw [m44_eq r s hr hl, m19_eq r hr]
  cases hg : goodB r s
  · rfl
  have hvb : valB r = true := by unfold goodB at hg; simp only [Bool.and_eq_true] at hg; exact hg.1
  have hv := Val.of hvb
  simp only [Option.bind_some, cond_true, ne_eq, not_true_eq_false, decide_false, cond_false, jn_eq, hvb]
  cases hs : stableB r s
  · rfl
  simp only [Bool.not_true, cond_false, Bool.true_and]
  rcases bestR_spec r with ⟨b1, b2⟩ | ⟨z, b1, b2, b3, b4⟩
  · have := b2 s (mem_asgL.2 (good_props hg).2); rw [hs] at this; cases this
  · unfold bestM; rw [b1]
    simp only [decide_false, not_true_eq_false, cond_false]
    rw [m16_eq z s (by have := asg_len hv b3; omega), Option.bind_some]
    by_cases e : z = s
    · subst e; simp
    · rw [decide_eq_false e, decide_eq_false (fun h => e (Option.some.inj h))]; rfl
theorem ClearingBestSpec_law (r : XRound) (s : List Int) (hr : smXRound r) (hs : SmL (InK .i64) s) : m4_overflightlaw38_ClearingBestSpec r s = some true := by
  have ls : s.length < 9223372036854775807 := by have := hs.1; omega
  unfold m4_overflightlaw38_ClearingBestSpec
  rw [sane38, m11_eq r hr]
  simp only [Option.bind_some, Bool.not_true, cond_false, jn_eq]
  cases (fewB r && (decide ((r.owners.length : Int) ≤ 5) && decide (r.slots ≤ 6)))
  · rfl
  simp only [Bool.not_true, cond_false]
  cases decide (20 < (s.length : Int))
  rotate_left
  · rfl
  simp only [cond_false]
  rw [m18_eq r hr, m19_eq r hr]
  simp only [Option.bind_some]
  have hbl : (bif valB r then bestM r else ([], 370)).1.length ≤ 8 := by
    cases hvb : valB r
    · exact Nat.zero_le _
    · rw [cond_true]
      rcases bestR_spec r with ⟨b1, _⟩ | ⟨z, b1, b2, b3, b4⟩
      · unfold bestM; rw [b1]; exact Nat.zero_le _
      · unfold bestM; rw [b1]; exact asg_len (Val.of hvb) b3
  generalize (bif valB r then bestM r else ([], 370)) = B at hbl ⊢
  rw [m16_eq B.1 B.1 (by omega), m20_eq r s hr ls, m21_eq r s hr ls, m20_eq r B.1 hr (by omega), m21_eq r B.1 hr (by omega)]
  simp
end Go.Fx
namespace Go.Proofs.Ytnenhpedfcngbaa.lawClearingBestSpec
open Go Go.Proofs Go.ChangeShapes Go.WideShapes Go.ChangeAt Go.RowKit Go.Fx
open Go.ChangeMaps (open_string shut_string)
set_option linter.unusedVariables false
set_option maxRecDepth 100000
theorem own : ownKnob Try.prog.godebug = none := by kernel_rfl
theorem laidOut : laidOutB Try.prog = true := by kernel_rfl
set_option maxRecDepth 100000 in
set_option maxHeartbeats 1000000 in
theorem lifted (os : Os) (started : os.Started) (H : Type) (enc : TypeId × Value → H) :
    ReturnsInHanded {} Try.checked os 4 .any (Rows.clearingBestSpecSpec.pre6 enc Try.prog Try.f4 Rows.clearingBestSpecRow.domain false) (Rows.clearingBestSpecSpec.post enc Try.prog Try.f4 false true false false) := by
  refine returnsInHanded_of_change_sized (C := Try.checked) own started (by kernel_rfl) Try.func4
    (ChangeSpec.witness6 (enc := enc) (C := Try.checked) false ⟨#[], #[.agg #[(.int .i64 0), (.slice none 0 0), (.slice none 0 0)], (.slice none 0 0)], []⟩ 8 (by kernel_rfl) (by kernel_rfl) (by kernel_rfl) (by kernel_rfl)) ?_
  intro W base args ds gs before hval0 hW hcnd hsz _
  have hval : ∀ (j : Nat) t v, Try.f4.params[j]? = some t → args[j]? = some v → Value.okWide Try.prog W .any base t v := hval0
  have hW' := hW
  obtain ⟨p, q, hA0, hV, rfl, hfz, hnd⟩ := hW
  have hA : DataW.TrodAll enc Try.prog W 0 (fun _ => true) true Try.f4.params.toList args.toList ds p := hA0
  rw [Try.params4] at hA hval
  obtain ⟨v0, vs0, d0, ds0, p0, q0, hargs, rfl, rfl, h0, r0⟩ := trodAll_cons hA
  obtain ⟨v1, vs1, d1, ds1, p1, q1, rfl, rfl, rfl, h1, r1⟩ := trodAll_cons r0
  obtain ⟨rfl, rfl, rfl⟩ := trodAll_nil r1
  obtain rfl : args = #[v0, v1] := by cases args; simp_all
  obtain ⟨rfl, rfl⟩ := trodVars_none hV
  have k0 := h0
  have lt0 : ∀ x ∈ p0, x.block < W.heap.size := by obtain ⟨m, hm⟩ := k0; exact DataW.trod_lt m _ _ _ hm
  obtain ⟨fu0, hf0⟩ := h0
  obtain ⟨r_, rr0, sm0⟩ := rd25.2 _ _ _ hf0
  replace sm0 := sm0 (fun n hn => by have := List.all_eq_true.1 hsz n (DataW.weights_mem_each (j := 0) (t := 25) rfl rfl n hn); simpa using this)
  obtain ⟨⟨cs0⟩, rfl, _⟩ := okWide_struct Try.underlying25 (hval 0 25 v0 rfl rfl)
  replace rr0 : rXRound.rd W [] cs0 r_ := rr0
  obtain ⟨_, _, rfl, ⟨rfl, r_r__slots⟩, ⟨_, _, rfl, ⟨a_r__owners, c_r__owners, rfl, f_r__owners⟩, ⟨a_r__costs, c_r__costs, rfl, f_r__costs⟩⟩⟩ := rr0
  have k1 := h1
  have lt1 : ∀ x ∈ p1, x.block < W.heap.size := by obtain ⟨m, hm⟩ := k1; exact DataW.trod_lt m _ _ _ hm
  obtain ⟨fu1, hf1⟩ := h1
  obtain ⟨slots, rr1, sm1⟩ := rd22.2 _ _ _ hf1
  replace sm1 := sm1 (fun n hn => by have := List.all_eq_true.1 hsz n (DataW.weights_mem_each (j := 1) (t := 22) rfl rfl n hn); simpa using this)
  obtain ⟨b1, l1, c1, rfl⟩ := okWide_slice Try.underlying22 (hval 1 22 v1 rfl rfl)
  replace rr1 : (rSl (rInt .i64)).rd W [] [.slice b1 l1 c1] slots := rr1
  obtain ⟨a_slots, c_slots, e1, f_slots⟩ := un_sl rr1
  simp only [Value.slice.injEq] at e1
  obtain ⟨rfl, rfl, rfl⟩ := e1
  have hm : m4_overflightlaw38_ClearingBestSpec r_ slots = some true := ClearingBestSpec_law _ _ sm0 sm1
  have hc := Fn.calls (c4_overflightlaw38_ClearingBestSpec (r_ := r_) (slots := slots) (w := W) (O := []) (by simp) r_r__slots f_r__owners f_r__costs f_slots hm)
  clear hA0 hval0
  refine Calls.mono hc ?_
  rintro e W' ⟨v, rfl, bel, hv⟩
  replace bel := bel.below; obtain rfl : v = .bool true := hv
  exact ⟨_, rfl, _, _, _, [], _, [], hW', trodAll_mk1 (shut_bool Try.underlying4 _), (trodAll_cons_mk (Below.trod laidOut (by kernel_rfl) (of_decide_eq_true (by kernel_rfl)) k0 bel lt0) (trodAll_cons_mk (Below.trod laidOut (by kernel_rfl) (of_decide_eq_true (by kernel_rfl)) k1 bel lt1) trodAll_mk0)), rfl, bel.frame _, fun h => by cases h⟩
theorem over : Rows.clearingBestSpecRow.holds Try.pinned (OpenSpec.ofChange Rows.clearingBestSpecSpec) :=
  OpenClaim.holds_of_wide 4 Try.f4 rfl rfl rfl rfl rfl rfl rfl ⟨rfl, rfl, rfl, rfl, rfl⟩ rfl rfl rfl rfl rfl (by kernel_rfl) Try.func4 (by kernel_rfl)
    (of_decide_eq_true (by kernel_rfl)) (by unfold Func.isWrapper; first | (rw [if_pos (by decide +kernel)]; kernel_rfl) | (rw [if_neg (by decide +kernel)]; exact ⟨rfl, rfl⟩))
    (fun os started H enc _ => lifted os started H enc)
theorem proved : Rows.ClearingBestSpecSaid := over
end Go.Proofs.Ytnenhpedfcngbaa.lawClearingBestSpec
