/- The law ClearingFirst holds for every round and every assignment. -/
import Derived.Test.YtnenhpedfcngbaaFirst4
import Derived.Test.YtnenhpedfcngbaaRows
import Derived.WalkKit
import Derived.ShutString
/- Chapter 37: stable assignments, members, better. -/
set_option linter.unusedSimpArgs false
set_option linter.unusedVariables false
namespace Go.Fx
open Go Go.RowKit
def bitOn (b o : Nat) : Bool := !decide ((Go.bits .and .i64 ((b : Int) / 2 ^ min o (IntKind.bits .i64)) 1) = 0)
def grpOf (b : Nat) : List Int := ((List.range 8).filter (bitOn b)).map fun o : Nat => (o : Int)
theorem grpOf_grp (b : Nat) : grp (grpOf b) := by
  intro o ho
  unfold grpOf at ho
  simp only [List.mem_map, List.mem_filter, List.mem_range] at ho
  obtain ⟨a, ⟨h, _⟩, rfl⟩ := ho; omega
def hasF (r : XRound) (o : Int) : Bool := r.owners.any fun x => decide (o = x)
/-- group b blocks -/
def stB (r : XRound) (than : List Int) (b : Nat) : Bool := ((List.range 8).all fun o : Nat => !bitOn b o || hasF r o) && (!decide (((grpOf b).length : Int) = 0) && (blk r than (grpOf b)).2)
theorem m23_loop (r : XRound) (than : List Int) (hv : Val r) (ht : than.length = 8) : loop1 (m23_coalition_Stable_B0 r than) (((256 : Int) - 0).toNat + 1) 0 = some (!(List.range 256).any (stB r than), 0) := by
  rw [List.range_eq_range']
  refine (up_listI (fun i t => some (!(List.range' i t.length).any (stB r than), 0)) (List.range' 0 256) (by rw [List.length_range']; omega) ?_ ?_ (show (List.range' 0 256).length < ((256 : Int) - 0).toNat + 1 by rw [List.length_range']; omega)).trans (by rw [List.length_range'])
  · intro sf; unfold m23_coalition_Stable_B0; rw [List.length_range']; rfl
  · intro sf b x t h1 h2 h3 ih
    rw [List.length_range'] at h1
    rw [List.length_cons, any_range']
    unfold m23_coalition_Stable_B0
    rw [decide_eq_true (show (b : Int) < 256 by omega), cond_true, jn_eq, h3, ih]
    generalize (List.range' (b + 1) t.length).any (stB r than) = rest
    refine (up_listB (s := ([] : List Int)) (fun i s => s = ((List.range i).filter (bitOn b)).map fun o : Nat => (o : Int)) (fun i t s => bif (List.range' i t.length).all (fun o : Nat => !bitOn b o || hasF r o) then (bif (!decide (((grpOf b).length : Int) = 0) && (blk r than (grpOf b)).2) then some (false, 0) else some (!rest, 0)) else some (!rest, 0)) (List.range' 0 8) (by rw [List.length_range']; omega) ?_ ?_ (show (List.range' 0 8).length < ((8 : Int) - 0).toNat + 1 by rw [List.length_range']; omega) (by rfl)).trans ?_
    · intro sg s hI
      rw [List.length_range'] at hI ⊢
      have hI : s = grpOf b := hI
      subst hI
      unfold m23_coalition_Stable_B1
      rw [m49_eq r than _ hv ht (grpOf_grp b) (by have := List.length_filter_le (bitOn b) (List.range 8); unfold grpOf; simp at this ⊢; omega)]
      rw [show (List.range' 8 ([] : List Nat).length).all (fun o : Nat => !bitOn b o || hasF r o) = true from rfl]
      rw [decide_eq_false (show ¬ ((8 : Nat) : Int) < 8 by omega), Option.bind_some, cond_false]
      cases decide (((grpOf b).length : Int) = 0) <;> cases (blk r than (grpOf b)).2 <;> rfl
    · intro sg o s y u j1 j2 j3 hI ih2
      rw [List.length_range'] at j1
      rw [List.length_cons, all_range']
      unfold m23_coalition_Stable_B1
      have c1 : (0 : Int) ≤ o := by omega
      have c2 : (s.length + [(o : Int)].length) * 8 ≤ 140737488355328 := by
        have := List.length_filter_le (bitOn b) (List.range o)
        rw [hI]; simp at this ⊢; omega
      have hb : decide ((Go.bits .and .i64 ((b : Int) / 2 ^ min (o : Int).toNat (IntKind.bits .i64)) 1) = 0) = !bitOn b o := by unfold bitOn; rw [Bool.not_not, Int.toNat_natCast]
      rw [decide_eq_true (show (o : Int) < 8 by omega), cond_true, ck_eq c1, hb, j3]
      have hI' : ∀ s', s' = s ++ (([o].filter (bitOn b)).map fun o : Nat => (o : Int)) → s' = ((List.range (o + 1)).filter (bitOn b)).map fun o : Nat => (o : Int) := by
        intro s' h; rw [h, hI, List.range_succ, List.filter_append, List.map_append]
      have hm := m48_eq r.owners (o : Int) (by have := hv.n8; omega)
      rw [hm]
      have hh : hasF r o = r.owners.any fun x => decide ((o : Int) = x) := rfl
      rw [← hh]
      cases hbo : bitOn b o
      · rw [Bool.not_false, cond_true, ih2 _ (hI' _ (by rw [List.filter_cons, hbo]; simp))]
        rfl
      · rw [Bool.not_true, cond_false, Option.bind_some]
        cases hasF r o
        · rfl
        · rw [Bool.not_true, cond_false, ck_eq c2, ih2 _ (hI' _ (by rw [List.filter_cons, hbo]; simp))]
          rfl
    · rw [List.length_range']
      unfold stB
      rw [List.range_eq_range']
      cases (List.range' 0 8).all (fun o : Nat => !bitOn b o || hasF r o) <;> cases (!decide (((grpOf b).length : Int) = 0) && (blk r than (grpOf b)).2) <;> rfl
def stableB (r : XRound) (s : List Int) : Bool := decide (worseL r s = []) && !(List.range 256).any (stB r (cvec r (ownL r) s))
theorem m23_eq (r : XRound) (s : List Int) (hs : smXRound r) (hl : s.length < 9223372036854775807) : m23_coalition_Stable r s = some (bif goodB r s then (stableB r s, 0) else (false, 370)) := by
  unfold m23_coalition_Stable
  rw [m27_eq r s hs hl]
  cases hg : goodB r s
  · rfl
  obtain ⟨hv, ha⟩ := good_props hg
  simp only [cond_true, Option.bind_some, jn_eq]
  rw [m47_eq r hv, Option.bind_some, cvec_asg hv ha, Option.bind_some, m23_loop r _ hv (by simp [cvec])]
  unfold stableB
  by_cases q : worseL r s = []
  · rw [q]; rfl
  · have : (0 : Int) < (worseL r s).length := by have := List.length_pos_iff.2 q; omega
    rw [decide_eq_true this, decide_eq_false q]; rfl
end Go.Fx



/- Chapter 37: what blocks is not stable. -/
set_option linter.unusedSimpArgs false
set_option linter.unusedVariables false
namespace Go.Fx
open Go Go.RowKit
end Go.Fx



/- The chapter's examples. -/
namespace Go.Fx
open Go Go.RowKit
theorem sane38 : m10_overflightlaw38_sane = some true := by kernel_rfl
end Go.Fx



/- Chapter 38: values, assignments, the best one. -/
set_option linter.unusedSimpArgs false
set_option linter.unusedVariables false
namespace Go.Fx
open Go Go.RowKit
theorem ipos38 {l n : Nat} (h : n < l) : ((n : Int) < (l : Int)) := by omega
/-- by the first place that differs -/
def lexC : List Int → List Int → Int
  | [], [] => 0
  | [], _ :: _ => -1
  | _ :: _, [] => 1
  | x :: s, y :: t => if x < y then -1 else if y < x then 1 else lexC s t
theorem lexC_self : ∀ a, lexC a a = 0
  | [] => rfl
  | x :: s => by unfold lexC; rw [if_neg (by omega), if_neg (by omega)]; exact lexC_self s
theorem lexC_lt {x y : Int} {s t : List Int} (h : x < y) : lexC (x :: s) (y :: t) = -1 := if_pos h
theorem lexC_gt {x y : Int} {s t : List Int} (h : y < x) : lexC (x :: s) (y :: t) = 1 := (if_neg (by omega)).trans (if_pos h)
theorem lexC_same {x : Int} {s t : List Int} : lexC (x :: s) (x :: t) = lexC s t := (if_neg (Int.lt_irrefl x)).trans (if_neg (Int.lt_irrefl x))
theorem lexC_neg : ∀ a b, lexC a b = - lexC b a
  | [], [] => by simp [lexC]
  | [], _ :: _ => by simp [lexC]
  | _ :: _, [] => by simp [lexC]
  | x :: s, y :: t => by
    rcases Int.lt_trichotomy x y with h | rfl | h
    · rw [lexC_lt h, lexC_gt h]
    · rw [lexC_same, lexC_same]; exact lexC_neg s t
    · rw [lexC_lt h, lexC_gt h]; rfl
theorem lexC_trans : ∀ a b c, lexC a b ≤ 0 → lexC b c ≤ 0 → lexC a c ≤ 0 ∧ (lexC a c = 0 → lexC a b = 0 ∧ lexC b c = 0)
  | [], [], [], _, _ => by simp [lexC]
  | [], _ :: _, [], _, h2 => by simp [lexC] at h2
  | [], _, _ :: _, h1, h2 => by simp [lexC]
  | _ :: _, [], c, h1, h2 => by simp [lexC] at h1
  | x :: s, y :: t, [], h1, h2 => by simp [lexC] at h2
  | x :: s, y :: t, z :: u, h1, h2 => by
    rcases Int.lt_trichotomy x y with q1 | rfl | q1
    · rcases Int.lt_trichotomy y z with q2 | rfl | q2
      · rw [lexC_lt (show x < z by omega)]; simp
      · rw [lexC_lt q1]; simp
      · rw [lexC_gt q2] at h2; omega
    · rcases Int.lt_trichotomy x z with q2 | rfl | q2
      · rw [lexC_lt q2]; simp
      · rw [lexC_same] at h1 h2 ⊢; rw [lexC_same, lexC_same]; exact lexC_trans s t u h1 h2
      · rw [lexC_gt q2] at h2; omega
    · rw [lexC_gt q1] at h1; omega
theorem m63_eq (x y : Int) : m63_cmp_Compare x y = some (if x < y then -1 else if y < x then 1 else 0) := by
  unfold m63_cmp_Compare m81_cmp_isNaN
  simp only [ne_eq, not_true_eq_false, decide_false, Option.bind_some, cond_false]
  by_cases h1 : x < y
  · simp [h1]
  · by_cases h2 : y < x
    · simp [h1, h2]
    · simp [h1, h2]
theorem m39_eq (a b : List Int) (hl : a.length < 9223372036854775807) : m39_slices_Compareint_int_ a b = some (lexC a b) := by
  unfold m39_slices_Compareint_int_
  refine (up_list (L := fun n i (_ : Unit) => loop1 (m39_slices_Compareint_int__B0 a b) n i) (fun i _ => i ≤ b.length) (fun i t _ => some (lexC t (b.drop i))) a hl ?_ ?_ _ () (by omega) (Nat.zero_le _))
  · intro n _ h
    simp only [loop1_succ]
    unfold m39_slices_Compareint_int__B0
    rw [decide_eq_false (Int.lt_irrefl _), cond_false]
    by_cases h2 : a.length < b.length
    · rw [decide_eq_true (ipos38 h2), cond_true, List.drop_eq_getElem_cons h2]; rfl
    · rw [decide_eq_false (by omega), cond_false, List.drop_eq_nil_of_le (by omega)]; rfl
  · intro n i _ x t h1 h2 h3 h ih
    simp only [loop1_succ]
    generalize loop1 (m39_slices_Compareint_int__B0 a b) n = L at ih ⊢
    unfold m39_slices_Compareint_int__B0
    have g1 : a.getD (i : Int).toNat default = x := getD_of h2
    rw [decide_eq_true (ipos38 h1), cond_true, ck_eq (by omega), g1]
    by_cases h4 : b.length ≤ i
    · rw [decide_eq_true (by omega), cond_true, List.drop_eq_nil_of_le h4]; rfl
    · have h5 : i < b.length := by omega
      have g2 : b.getD (i : Int).toNat default = b[i] := by simp [h5]
      rw [decide_eq_false (by omega), cond_false, ck_eq (by omega), g2, m63_eq, Option.bind_some, List.drop_eq_getElem_cons h5, h3, ih () (by omega)]
      rcases Int.lt_trichotomy x b[i] with q | q | q
      · rw [lexC_lt q, if_pos q]; rfl
      · rw [q, lexC_same, if_neg (by omega), if_neg (by omega)]; rfl
      · rw [lexC_gt q, if_neg (by omega), if_pos q]; rfl
/-- costs and moves from place i on -/
def vsum (r : XRound) : Nat → List Int → Int
  | _, [] => 0
  | i, x :: t => cst r i x + vsum r (i + 1) t
def vmov : Nat → List Int → Int
  | _, [] => 0
  | i, x :: t => (if x = (i : Int) then 0 else 1) + vmov (i + 1) t
def valV (r : XRound) (s : List Int) : List Int := [vsum r 0 s, vmov 0 s]
theorem m30_eq (r : XRound) (s : List Int) (hv : Val r) (hl : s.length = r.owners.length) (hs : ∀ i < s.length, 0 ≤ s.getD i default ∧ s.getD i default < r.slots) : m30_clearing_value r s = some (valV r s) := by
  have h8 := hv.n8
  unfold m30_clearing_value
  refine (up_listB (B := m30_clearing_value_B0 r s) (σ := List Int) (fun i v => ∃ a c : Int, v = [a, c] ∧ -(1048576 * (i : Int)) ≤ a ∧ a ≤ 1048576 * (i : Int) ∧ 0 ≤ c ∧ c ≤ (i : Int)) (fun i t v => some [v.getD 0 default + vsum r i t, v.getD 1 default + vmov i t]) s (by omega) ?_ ?_ (by omega) ⟨0, 0, rfl, by simp⟩).trans (by simp [valV])
  · rintro sf v ⟨a, c, rfl, _⟩
    unfold m30_clearing_value_B0
    rw [decide_eq_false (Int.lt_irrefl _)]; simp [vsum, vmov]
  · rintro sf i v x t h1 h2 h3 ⟨a, c, rfl, b1, b2, b3, b4⟩ ih
    have g1 : s.getD (i : Int).toNat default = x := getD_of h2
    obtain ⟨k1, k2⟩ := hs i h1
    have g2 : s.getD i default = x := g1
    rw [g2] at k1 k2
    have hrow := hv.row i (by omega)
    have hc := fits.cst hv (f := (i : Int)) (s := x) ⟨by omega, by omega, k1, k2⟩
    have e1 : (r.costs.getD (i : Int).toNat default).getD x.toNat default = cst r i x := rfl
    have w1 : IntKind.wrap .i64 (a + cst r i x) = a + cst r i x := wrap_i64 (by omega) (by omega)
    have w2 : IntKind.wrap .i64 (c + 1) = c + 1 := wrap_i64 (by omega) (by omega)
    have hci := hv.s4
    have c1 : (0 : Int) ≤ (i : Int) ∧ (i : Int) < (s.length : Int) := by omega
    have c2 : (0 : Int) ≤ (i : Int) ∧ (i : Int) < (r.costs.length : Int) := by omega
    have c3 : (0 : Int) ≤ x ∧ x < ((r.costs.getD (i : Int).toNat default).length : Int) := by rw [Int.toNat_natCast]; omega
    have c4 : (0 : Int) ≤ 0 ∧ 0 < (([a, c] : List Int).length : Int) := by simp
    have c5 : (0 : Int) ≤ 1 ∧ 1 < (([a + cst r i x, c] : List Int).length : Int) := by simp
    unfold m30_clearing_value_B0
    simp only [decide_eq_true c1.2, cond_true, ck_eq c1, g1, ck_eq c2, ck_eq c3, ck_eq c4, e1, show ([a, c] : List Int).getD 0 default = a from rfl, w1, show ([a, c] : List Int).set 0 (a + cst r i x) = [a + cst r i x, c] from rfl, ck_eq c5, show ([a + cst r i x, c] : List Int).getD 1 default = c from rfl, w2, show ([a + cst r i x, c] : List Int).set 1 (c + 1) = [a + cst r i x, c + 1] from rfl, h3]
    by_cases hm : x = (i : Int)
    · rw [decide_eq_false (fun h => h hm), cond_false, ih _ ⟨_, _, rfl, by omega, by omega, by omega, by omega⟩]
      simp [vsum, vmov, hm]; omega
    · rw [decide_eq_true hm, cond_true, ih _ ⟨_, _, rfl, by omega, by omega, by omega, by omega⟩]
      simp [vsum, vmov, hm]; omega
theorem asg_in {r : XRound} {s : List Int} (h : asgB r s = true) : ∀ i < s.length, 0 ≤ s.getD i default ∧ s.getD i default < r.slots := fun i hi => by
  obtain ⟨b1, b2, _⟩ := (asg_props h).2 i hi; exact ⟨b1, b2⟩
theorem val_good {r : XRound} {s : List Int} (h : goodB r s = true) : m30_clearing_value r s = some (valV r s) := by
  obtain ⟨hv, ha⟩ := good_props h
  exact m30_eq r s hv (asg_props ha).1 (asg_in ha)
theorem m12_eq (r : XRound) (s : List Int) (hs : smXRound r) (hl : s.length < 9223372036854775807) : m12_clearing_Value r s = some (bif goodB r s then (valV r s, 0) else ([], 370)) := by
  unfold m12_clearing_Value
  rw [m22_eq r s hs hl]
  cases hg : goodB r s
  · rfl
  · simp [val_good hg]
/-- all slots, in order -/
def slL (r : XRound) : List Int := (List.range r.slots.toNat).map fun i : Nat => (i : Int)
def okA (r : XRound) (n : Nat) (s : Int) : Bool := decide (0 ≤ cst r n s)
/-- all assignments, in order -/
def asgL (r : XRound) : List (List Int) := dv (slL r) (okA r) r.owners.length []
theorem slL_len (r : XRound) : (slL r).length = r.slots.toNat := by simp [slL]
theorem mem_slL {r : XRound} {s : Int} : s ∈ slL r ↔ 0 ≤ s ∧ s < r.slots := by
  unfold slL
  simp only [List.mem_map, List.mem_range]
  constructor
  · rintro ⟨i, h, rfl⟩; omega
  · rintro ⟨h1, h2⟩; exact ⟨s.toNat, by omega, by omega⟩
theorem mem_asgL {r : XRound} {s : List Int} : s ∈ asgL r ↔ asgB r s = true := by
  unfold asgL
  rw [mem_dv]
  constructor
  · rintro ⟨t, ht0, ht, hg⟩
    rw [List.nil_append] at ht0
    rw [ht0]
    rw [gd_get] at hg
    unfold asgB
    simp only [Bool.and_eq_true, decide_eq_true_eq, List.all_eq_true, List.mem_range]
    refine ⟨ht, fun i hi => ?_⟩
    obtain ⟨h1, h2, h3, h4⟩ := hg i hi
    have h5 := mem_slL.1 h1
    have h6 := of_decide_eq_true h2
    rw [List.length_nil, Nat.zero_add] at h6
    unfold okS
    simp only [Bool.not_eq_true', Bool.or_eq_false_iff, decide_eq_false_iff_not, List.any_eq_false, decide_eq_true_eq]
    refine ⟨by omega, by omega, by omega, fun x hx e => ?_⟩
    obtain ⟨j, hj, rfl⟩ := List.getElem_of_mem hx
    rw [List.length_take] at hj
    have := h4 j (by omega)
    rw [List.getElem_take] at e
    rw [getD_getElem (show j < t.length by omega)] at this
    exact this e.symm
  · intro h
    obtain ⟨h1, h2⟩ := asg_props h
    refine ⟨s, by simp, h1, gd_get.2 fun i hi => ?_⟩
    obtain ⟨b1, b2, b3, b4⟩ := h2 i hi
    refine ⟨mem_slL.2 ⟨b1, b2⟩, ?_, by simp, b4⟩
    rw [List.length_nil, Nat.zero_add]
    exact decide_eq_true b3
theorem contains_snoc {b : List Int} {i s : Int} (e : ¬ i = s) : (b ++ [i]).contains s = b.contains s := by
  rw [Bool.eq_iff_iff]
  simp only [List.contains_eq_mem, decide_eq_true_eq, List.mem_append, List.mem_singleton]
  exact ⟨fun h => h.elim id (fun h => absurd h.symm e), .inl⟩
theorem asg_eq (r : XRound) (hv : Val r) : ∀ (N : Nat) (b : List Int) (mp : List (Int × Bool)), b.length ≤ r.owners.length → r.owners.length - b.length < N → (∀ s, (mget mp s).getD false = b.contains s) →
    ∃ mp', (∀ s, (mget mp' s).getD false = b.contains s) ∧ fixO (fun fx x => m61_clearing_assignments_1_1 x.1 r x.2 fx) N (b, mp) = some (dv (slL r) (okA r) (r.owners.length - b.length) b, mp') := by
  have h8 := hv.n8
  have hs2 := hv.s2
  intro N
  induction N with
  | zero => intro b mp _ h; omega
  | succ N ih =>
    intro b mp hb hN hI
    show ∃ mp', _ ∧ m61_clearing_assignments_1_1 b r mp (fixO (fun fx x => m61_clearing_assignments_1_1 x.1 r x.2 fx) N) = _
    generalize fixO (fun fx x => m61_clearing_assignments_1_1 x.1 r x.2 fx) N = FX at ih ⊢
    unfold m61_clearing_assignments_1_1
    by_cases q : b.length = r.owners.length
    · rw [decide_eq_true (by omega), cond_true, show r.owners.length - b.length = 0 by omega]
      exact ⟨mp, hI, rfl⟩
    · rw [decide_eq_false (by omega), cond_false]
      obtain ⟨k, hk⟩ : ∃ k, r.owners.length - b.length = k + 1 := ⟨r.owners.length - b.length - 1, by omega⟩
      rw [hk]
      have main : ∀ (t : List Int) (i f : Nat) (mp : List (Int × Bool)), (slL r).drop i = t → i ≤ (slL r).length → t.length < f → (∀ s, (mget mp s).getD false = b.contains s) →
          ∃ mp', (∀ s, (mget mp' s).getD false = b.contains s) ∧ loop2 (m61_clearing_assignments_1_1_B0 b r FX) f (i : Int) mp = some (t.flatMap fun s => bif okA r b.length s && !b.contains s then dv (slL r) (okA r) k (b ++ [s]) else [], mp') := by
        intro t
        induction t with
        | nil =>
          intro i f mp hd hi hf hI
          have he : (slL r).length ≤ i := by have := congrArg List.length hd; rw [List.length_drop, List.length_nil] at this; omega
          rw [slL_len] at he
          obtain ⟨f, rfl⟩ : ∃ f', f = f' + 1 := ⟨f - 1, by simp at hf; omega⟩
          refine ⟨mp, hI, ?_⟩
          rw [loop2_succ]; unfold m61_clearing_assignments_1_1_B0
          rw [decide_eq_false (by omega)]; rfl
        | cons x t iht =>
          intro i f mp hd hi hf hI
          obtain ⟨f, rfl⟩ : ∃ f', f = f' + 1 := ⟨f - 1, by simp at hf; omega⟩
          have hlt : i < (slL r).length := by have := congrArg List.length hd; simp at this; omega
          have hx : (slL r)[i] = x := by rw [List.drop_eq_getElem_cons hlt] at hd; exact (List.cons.inj hd).1
          have ht : (slL r).drop (i + 1) = t := by rw [List.drop_eq_getElem_cons hlt] at hd; exact (List.cons.inj hd).2
          have hxi : x = (i : Int) := by rw [← hx]; simp [slL]
          rw [slL_len] at hlt
          subst hxi
          have hrow := hv.row b.length (by omega)
          have hc4 := hv.s4
          rw [loop2_succ]
          have iht' := fun mp h => iht (i + 1) f mp ht (by rw [slL_len]; omega) (by simp at hf; omega) h
          generalize loop2 (m61_clearing_assignments_1_1_B0 b r FX) f = L at iht' ⊢
          unfold m61_clearing_assignments_1_1_B0
          have c1 : (0 : Int) ≤ (b.length : Int) ∧ (b.length : Int) < (r.costs.length : Int) := by omega
          have c2 : (0 : Int) ≤ (i : Int) ∧ (i : Int) < ((r.costs.getD b.length default).length : Int) := by omega
          have e1 : (r.costs.getD b.length default).getD (i : Int).toNat default = cst r (b.length : Int) (i : Int) := rfl
          rw [decide_eq_true (show (i : Int) < r.slots by omega), cond_true]
          simp only [jn_eq, ck_eq c1, ck_eq c2, hI, e1, wrapS (show i + 1 < 9223372036854775808 by omega), List.flatMap_cons]
          rw [show (i : Int) + 1 = ((i + 1 : Nat) : Int) by omega]
          cases hcon : b.contains (i : Int)
          · rw [cond_false]
            by_cases hneg : cst r (b.length : Int) (i : Int) < 0
            · have hok : okA r b.length (i : Int) = false := decide_eq_false (by omega)
              obtain ⟨mp', k1, k2⟩ := iht' mp hI
              refine ⟨mp', k1, ?_⟩
              rw [decide_eq_true hneg, cond_true, k2, hok]; rfl
            · have hok : okA r b.length (i : Int) = true := decide_eq_true (by omega)
              have hclip : m62_slices_Clipint_int_ b = some b := by unfold m62_slices_Clipint_int_; rw [ck_eq (by omega)]; simp
              obtain ⟨m1, j1, j2⟩ := ih (b ++ [(i : Int)]) (mput mp (i : Int) true) (by simp; omega) (by simp; omega) (fun s => by
                rw [mget_put]
                by_cases e : (i : Int) = s
                · subst e; simp
                · rw [if_neg e, hI, contains_snoc e])
              obtain ⟨mp', k1, k2⟩ := iht' (mput m1 (i : Int) false) (fun s => by
                rw [mget_put]
                by_cases e : (i : Int) = s
                · subst e; rw [if_pos rfl, hcon]; rfl
                · rw [if_neg e, j1, contains_snoc e])
              refine ⟨mp', k1, ?_⟩
              rw [decide_eq_false hneg, cond_false, hclip, Option.bind_some, ck_eq (by simp; omega), ck_eq (by simp), j2, hok]
              rw [show r.owners.length - (b ++ [(i : Int)]).length = k by simp; omega]
              show aplM (some _) _ = _
              unfold aplM
              simp only [Option.bind_some, k2, Option.map_some, Bool.not_false, Bool.and_self, cond_true]
          · obtain ⟨mp', k1, k2⟩ := iht' mp hI
            refine ⟨mp', k1, ?_⟩
            rw [cond_true, cond_true, k2]; simp
      obtain ⟨mp', k1, k2⟩ := main (slL r) 0 ((r.slots - 0).toNat + 1) mp rfl (Nat.zero_le _) (by rw [slL_len]; omega) hI
      exact ⟨mp', k1, k2⟩
theorem m38_eq (r : XRound) (hv : Val r) : m38_clearing_assignments r = some (asgL r) := by
  obtain ⟨mp', h1, h2⟩ := asg_eq r hv 1000000 [] [] (by simp) (by have := hv.n8; simp; omega) (fun s => by simp [mget])
  unfold m38_clearing_assignments m60_clearing_assignments_1
  have h2' : fixO (fun fx37 x38 => m61_clearing_assignments_1_1 x38.1 r x38.2 fx37) 1000000 (([] : List Int), ([] : List (Int × Bool))) = some (asgL r, mp') := h2
  rw [h2']
  simp [aplI]
end Go.Fx



/- Chapter 38: the best assignment. -/
set_option linter.unusedSimpArgs false
set_option linter.unusedVariables false
namespace Go.Fx
open Go Go.RowKit
theorem lexC_pre : ∀ (b s t : List Int), lexC (b ++ s) (b ++ t) = lexC s t
  | [], _, _ => rfl
  | x :: b, s, t => by rw [List.cons_append, List.cons_append, lexC_same]; exact lexC_pre b s t
theorem dv_sorted {fl : List Int} {ok : Nat → Int → Bool} (hf : fl.Pairwise (· < ·)) : ∀ (k : Nat) (b : List Int), (dv fl ok k b).Pairwise fun x y => lexC x y < 0
  | 0, b => by simp [dv]
  | k + 1, b => by
    unfold dv
    rw [List.pairwise_flatMap]
    refine ⟨fun s hs => ?_, hf.imp fun {s s'} hlt x hx y hy => ?_⟩
    · cases (ok b.length s && !b.contains s)
      · exact List.Pairwise.nil
      · exact dv_sorted hf k _
    · cases h1 : (ok b.length s && !b.contains s)
      · rw [h1] at hx; cases hx
      cases h2 : (ok b.length s' && !b.contains s')
      · rw [h2] at hy; cases hy
      rw [h1, cond_true, mem_dv] at hx
      rw [h2, cond_true, mem_dv] at hy
      obtain ⟨t, rfl, _⟩ := hx
      obtain ⟨t', rfl, _⟩ := hy
      rw [List.append_assoc, List.append_assoc, lexC_pre]
      have : lexC (s :: t) (s' :: t') = -1 := lexC_lt hlt
      rw [List.singleton_append, List.singleton_append, this]; decide
theorem slL_sorted (r : XRound) : (slL r).Pairwise (· < ·) := by
  unfold slL
  rw [List.pairwise_map]
  exact List.pairwise_lt_range.imp fun h => by omega
theorem asgL_sorted (r : XRound) : (asgL r).Pairwise fun x y => lexC x y < 0 := dv_sorted (slL_sorted r) _ _
/-- before, in the published order -/
def bef (v : List Int → List Int) (z w : List Int) : Prop := lexC (v z) (v w) < 0 ∨ lexC (v z) (v w) = 0 ∧ lexC z w ≤ 0
theorem bef_refl (v : List Int → List Int) (z : List Int) : bef v z z := .inr ⟨lexC_self _, by rw [lexC_self]; exact Int.le_refl _⟩
theorem bef_trans {v : List Int → List Int} {x y z : List Int} (h1 : bef v x y) (h2 : bef v y z) : bef v x z := by
  have a1 : lexC (v x) (v y) ≤ 0 := by rcases h1 with h | h <;> omega
  have a2 : lexC (v y) (v z) ≤ 0 := by rcases h2 with h | h <;> omega
  obtain ⟨b1, b2⟩ := lexC_trans _ _ _ a1 a2
  by_cases h0 : lexC (v x) (v z) = 0
  · obtain ⟨c1, c2⟩ := b2 h0
    refine .inr ⟨h0, ?_⟩
    have d1 : lexC x y ≤ 0 := by rcases h1 with h | h <;> omega
    have d2 : lexC y z ≤ 0 := by rcases h2 with h | h <;> omega
    exact (lexC_trans _ _ _ d1 d2).1
  · exact .inl (by omega)
def btr (v : List Int → List Int) : Option (List Int) → List Int → Bool
  | none, _ => true
  | some y, x => decide (lexC (v x) (v y) < 0)
/-- the first of the least that are allowed -/
def pick (v : List Int → List Int) (p : List Int → Bool) : Option (List Int) → List (List Int) → Option (List Int)
  | acc, [] => acc
  | acc, x :: t => pick v p (bif btr v acc x && p x then some x else acc) t
theorem pick_spec {v : List Int → List Int} {p : List Int → Bool} : ∀ (L : List (List Int)) (acc : Option (List Int)), L.Pairwise (fun x y => lexC x y < 0) → (∀ y, acc = some y → p y = true ∧ ∀ x ∈ L, lexC y x < 0) →
    (pick v p acc L = none ∧ acc = none ∧ ∀ x ∈ L, p x = false) ∨ ∃ z, pick v p acc L = some z ∧ p z = true ∧ (z ∈ L ∨ acc = some z) ∧ (∀ w ∈ L, p w = true → bef v z w) ∧ ∀ y, acc = some y → bef v z y
  | [], none, _, _ => .inl ⟨rfl, rfl, by simp⟩
  | [], some y, _, h => .inr ⟨y, rfl, (h y rfl).1, .inr rfl, by simp, fun y' e => by cases e; exact bef_refl v y⟩
  | x :: t, acc, hL, h => by
    have hL' := List.pairwise_cons.1 hL
    unfold pick
    cases hc : (btr v acc x && p x)
    · rw [cond_false]
      rcases pick_spec t acc hL'.2 (fun y e => ⟨(h y e).1, fun w hw => (h y e).2 w (List.mem_cons_of_mem _ hw)⟩) with ⟨a1, a2, a3⟩ | ⟨z, a1, a2, a3, a4, a5⟩
      · refine .inl ⟨a1, a2, fun w hw => ?_⟩
        rcases List.mem_cons.1 hw with rfl | hw
        · subst a2; exact hc
        · exact a3 w hw
      · refine .inr ⟨z, a1, a2, a3.imp (List.mem_cons_of_mem _) id, fun w hw hp => ?_, a5⟩
        rcases List.mem_cons.1 hw with rfl | hw
        · cases acc with
          | none => rw [hp] at hc; exact absurd (show (true && true) = false from hc) (by decide)
          | some y =>
            rw [hp, Bool.and_true] at hc
            have h1 : ¬ lexC (v w) (v y) < 0 := of_decide_eq_false (p := lexC (v w) (v y) < 0) hc
            have e1 := lexC_neg (v y) (v w)
            have h2 := (h y rfl).2 w List.mem_cons_self
            refine bef_trans (a5 y rfl) ?_
            unfold bef; omega
        · exact a4 w hw hp
    · rw [cond_true]
      have hp : p x = true := by simp only [Bool.and_eq_true] at hc; exact hc.2
      rcases pick_spec t (some x) hL'.2 (fun y e => by cases e; exact ⟨hp, hL'.1⟩) with ⟨a1, a2, a3⟩ | ⟨z, a1, a2, a3, a4, a5⟩
      · cases a2
      · refine .inr ⟨z, a1, a2, .inl ?_, fun w hw hp => ?_, fun y e => ?_⟩
        · rcases a3 with a3 | a3
          · exact List.mem_cons_of_mem _ a3
          · cases a3; exact List.mem_cons_self
        · rcases List.mem_cons.1 hw with rfl | hw
          · exact a5 _ rfl
          · exact a4 w hw hp
        · subst e
          simp only [Bool.and_eq_true] at hc
          exact bef_trans (a5 x rfl) (.inl (of_decide_eq_true (p := lexC (v x) (v y) < 0) hc.1))
/-- the best stable assignment -/
def bestR (r : XRound) : Option (List Int) := pick (valV r) (stableB r) none (asgL r)
theorem bestR_spec (r : XRound) : (bestR r = none ∧ ∀ x ∈ asgL r, stableB r x = false) ∨ ∃ z, bestR r = some z ∧ stableB r z = true ∧ asgB r z = true ∧ ∀ w, asgB r w = true → stableB r w = true → bef (valV r) z w := by
  rcases pick_spec (v := valV r) (p := stableB r) (asgL r) none (asgL_sorted r) (by simp) with ⟨a1, _, a3⟩ | ⟨z, a1, a2, a3, a4, _⟩
  · exact .inl ⟨a1, a3⟩
  · refine .inr ⟨z, a1, a2, ?_, fun w hw => a4 w (mem_asgL.2 hw)⟩
    rcases a3 with a3 | a3
    · exact mem_asgL.1 a3
    · cases a3
def bestM (r : XRound) : List Int × Int := match bestR r with | none => ([], 380) | some x => (x, 0)
theorem asg_len {r : XRound} {s : List Int} (hv : Val r) (h : asgB r s = true) : s.length ≤ 8 := by rw [(asg_props h).1]; exact hv.n8
theorem m18_eq (r : XRound) (hr : smXRound r) : m18_clearing_Best r = some (bif valB r then bestM r else ([], 370)) := by
  unfold m18_clearing_Best
  rw [m25_eq r hr]
  cases hvb : valB r
  · rfl
  have hv := Val.of hvb
  simp only [Option.bind_some, cond_true, ne_eq, not_true_eq_false, decide_false, cond_false, jn_eq, m38_eq r hv]
  have main : ∀ (L : List (List Int)) (acc : Option (List Int)), (∀ x ∈ L, asgB r x = true) →
      rng3 (m18_clearing_Best_B0 r) (fun (v_1 : List Int) (v_1n : Bool) (v_2 : List Int) => bif v_1n then some (([] : List Int), (380 : Int)) else some (v_2, 0)) L (match acc with | none => [] | some y => valV r y) (match acc with | none => true | some _ => false) (match acc with | none => [] | some y => y) =
        some (match pick (valV r) (stableB r) acc L with | none => ([], 380) | some x => (x, 0)) := by
    intro L
    induction L with
    | nil =>
      intro acc _
      rw [rng3_nil]
      cases acc <;> rfl
    | cons x t ih =>
      intro acc hL
      have ha := hL x List.mem_cons_self
      have hg : goodB r x = true := by unfold goodB; rw [hvb, ha]; rfl
      have hxl := asg_len hv ha
      have ih' := fun acc => ih acc fun w hw => hL w (List.mem_cons_of_mem _ hw)
      rw [rng3_cons]
      generalize rng3 (m18_clearing_Best_B0 r) (fun (v_1 : List Int) (v_1n : Bool) (v_2 : List Int) => bif v_1n then some (([] : List Int), (380 : Int)) else some (v_2, 0)) t = sf at ih' ⊢
      have hcl : m40_slices_Cloneint_int_ x = some x := by unfold m40_slices_Cloneint_int_; rw [ck_eq (by simp; omega)]; rfl
      have h2 : 0 < (valV r x).length := by simp [valV]
      unfold m18_clearing_Best_B0 pick btr
      simp only [val_good hg, Option.bind_some, jn_eq, m23_eq r x hr (by omega), hg, cond_true, decide_true, hcl, ck_eq h2]
      cases acc with
      | none =>
        simp only [Bool.not_true, cond_false, Bool.true_and]
        cases hs : stableB r x
        · exact ih' none
        · exact ih' (some x)
      | some y =>
        simp only [Bool.not_false, cond_true]
        rw [m39_eq _ _ (by simp [valV]), Option.bind_some]
        by_cases hc : 0 ≤ lexC (valV r x) (valV r y)
        · rw [decide_eq_true hc, cond_true, decide_eq_false (show ¬ lexC (valV r x) (valV r y) < 0 by omega), Bool.false_and, cond_false]
          exact ih' (some y)
        · rw [decide_eq_false hc, cond_false, decide_eq_true (show lexC (valV r x) (valV r y) < 0 by omega), Bool.true_and]
          cases hs : stableB r x
          · exact ih' (some y)
          · exact ih' (some x)
  exact main (asgL r) none fun x hx => mem_asgL.1 hx
theorem m11_eq (r : XRound) (hr : smXRound r) : m11_overflightref38_Few r = some (fewB r && (decide ((r.owners.length : Int) ≤ 5) && decide (r.slots ≤ 6))) := by
  unfold m11_overflightref38_Few
  rw [m29_eq r hr]
  cases fewB r
  · rfl
  · rw [Option.bind_some, cond_true]
    cases decide ((r.owners.length : Int) ≤ 5) <;> rfl
theorem good_of {r : XRound} {s : List Int} (hvb : valB r = true) (h : asgB r s = true) : goodB r s = true := by unfold goodB; rw [hvb, h]; rfl
end Go.Fx



/- ClearingFirst. -/
set_option linter.unusedSimpArgs false
set_option linter.unusedVariables false
namespace Go.Fx
open Go Go.RowKit
theorem m24_eq (a b : List Int) (hl : a.length = b.length) (h : a.length < 9223372036854775807) : m24_vector_Compare a b = some (lexC a b, 0) := by
  unfold m24_vector_Compare
  rw [decide_eq_false (show ¬ (a.length : Int) ≠ (b.length : Int) by omega), cond_false, m39_eq a b h]; rfl
theorem ClearingFirst_law (r : XRound) (s : List Int) (hr : smXRound r) (hs : SmL (InK .i64) s) : m8_overflightlaw38_ClearingFirst r s = some true := by
  have ls : s.length < 9223372036854775807 := by have := hs.1; omega
  unfold m8_overflightlaw38_ClearingFirst
  rw [sane38, m11_eq r hr]
  simp only [Option.bind_some, Bool.not_true, cond_false, jn_eq]
  cases (fewB r && (decide ((r.owners.length : Int) ≤ 5) && decide (r.slots ≤ 6)))
  · rfl
  simp only [Bool.not_true, cond_false]
  cases decide (20 < (s.length : Int))
  rotate_left
  · rfl
  simp only [cond_false]
  rw [m18_eq r hr, m23_eq r s hr ls]
  simp only [Option.bind_some]
  cases hg : goodB r s
  · have hfin : (bif decide (((false : Bool), (370 : Int)).2 ≠ 0) then (some true : Option Bool) else some false) = some true := rfl
    cases hvb : valB r
    · rfl
    · have hv := Val.of hvb
      rw [cond_true]
      rcases bestR_spec r with ⟨b1, b2⟩ | ⟨z, b1, b2, b3, b4⟩
      · unfold bestM; rw [b1]; rfl
      · have hz : goodB r z = true := good_of hvb b3
        have hzl := asg_len hv b3
        unfold bestM; rw [b1]
        simp only [decide_true, cond_true]
        rw [m23_eq r z hr (by omega), hz, b2]; rfl
  have hvb : valB r = true := by unfold goodB at hg; simp only [Bool.and_eq_true] at hg; exact hg.1
  have hv := Val.of hvb
  have has : asgB r s = true := (good_props hg).2
  rw [hvb, cond_true]
  rcases bestR_spec r with ⟨b1, b2⟩ | ⟨z, b1, b2, b3, b4⟩
  · have : stableB r s = false := b2 s (mem_asgL.2 has)
    unfold bestM; rw [b1, this]; rfl
  · have hz : goodB r z = true := good_of hvb b3
    have hzl := asg_len hv b3
    unfold bestM; rw [b1]
    simp only [decide_true, cond_true]
    rw [m23_eq r z hr (by omega), hz, b2]
    simp only [Option.bind_some, cond_true, ne_eq, not_true_eq_false, decide_false, cond_false, Bool.not_true]
    cases hst : stableB r s
    · rfl
    simp only [Bool.not_true, cond_false]
    rw [m12_eq r z hr (by omega), m12_eq r s hr ls, hz, hg]
    simp only [Option.bind_some, cond_true]
    rw [m24_eq _ _ (by simp [valV]) (by simp [valV]), m24_eq z s (by rw [(asg_props b3).1, (asg_props has).1]) (by omega)]
    simp only [Option.bind_some, decide_true, cond_true]
    rcases b4 s has hst with h | ⟨h1, h2⟩
    · rw [decide_eq_true h]; rfl
    · rw [h1, decide_eq_true h2]; rfl
end Go.Fx



namespace Go.Proofs.Ytnenhpedfcngbaa.lawClearingFirst
open Go Go.Proofs Go.ChangeShapes Go.WideShapes Go.ChangeAt Go.RowKit Go.Fx
open Go.ChangeMaps (open_string shut_string)
set_option linter.unusedVariables false
set_option maxRecDepth 100000
theorem own : ownKnob Try.prog.godebug = none := by kernel_rfl
theorem laidOut : laidOutB Try.prog = true := by kernel_rfl
set_option maxRecDepth 100000 in
set_option maxHeartbeats 1000000 in
theorem lifted (os : Os) (started : os.Started) (H : Type) (enc : TypeId × Value → H) :
    ReturnsInHanded {} Try.checked os 8 .any (Rows.clearingFirstSpec.pre6 enc Try.prog Try.f8 Rows.clearingFirstRow.domain false) (Rows.clearingFirstSpec.post enc Try.prog Try.f8 false true false false) := by
  refine returnsInHanded_of_change_sized (C := Try.checked) own started (by kernel_rfl) Try.func8
    (ChangeSpec.witness6 (enc := enc) (C := Try.checked) false ⟨#[], #[.agg #[(.int .i64 0), (.slice none 0 0), (.slice none 0 0)], (.slice none 0 0)], []⟩ 8 (by kernel_rfl) (by kernel_rfl) (by kernel_rfl) (by kernel_rfl)) ?_
  intro W base args ds gs before hval0 hW hcnd hsz _
  have hval : ∀ (j : Nat) t v, Try.f8.params[j]? = some t → args[j]? = some v → Value.okWide Try.prog W .any base t v := hval0
  have hW' := hW
  obtain ⟨p, q, hA0, hV, rfl, hfz, hnd⟩ := hW
  have hA : DataW.TrodAll enc Try.prog W 0 (fun _ => true) true Try.f8.params.toList args.toList ds p := hA0
  rw [Try.params8] at hA hval
  obtain ⟨v0, vs0, d0, ds0, p0, q0, hargs, rfl, rfl, h0, r0⟩ := trodAll_cons hA
  obtain ⟨v1, vs1, d1, ds1, p1, q1, rfl, rfl, rfl, h1, r1⟩ := trodAll_cons r0
  obtain ⟨rfl, rfl, rfl⟩ := trodAll_nil r1
  obtain rfl : args = #[v0, v1] := by cases args; simp_all
  obtain ⟨rfl, rfl⟩ := trodVars_none hV
  have k0 := h0
  have lt0 : ∀ x ∈ p0, x.block < W.heap.size := by obtain ⟨m, hm⟩ := k0; exact DataW.trod_lt m _ _ _ hm
  obtain ⟨fu0, hf0⟩ := h0
  obtain ⟨r_, rr0, sm0⟩ := rd25.2 _ _ _ hf0
  replace sm0 := sm0 (fun n hn => by have := List.all_eq_true.1 hsz n (DataW.weights_mem_each (j := 0) (t := 25) rfl rfl n hn); simpa using this)
  obtain ⟨⟨cs0⟩, rfl, _⟩ := okWide_struct Try.underlying25 (hval 0 25 v0 rfl rfl)
  replace rr0 : rXRound.rd W [] cs0 r_ := rr0
  obtain ⟨_, _, rfl, ⟨rfl, r_r__slots⟩, ⟨_, _, rfl, ⟨a_r__owners, c_r__owners, rfl, f_r__owners⟩, ⟨a_r__costs, c_r__costs, rfl, f_r__costs⟩⟩⟩ := rr0
  have k1 := h1
  have lt1 : ∀ x ∈ p1, x.block < W.heap.size := by obtain ⟨m, hm⟩ := k1; exact DataW.trod_lt m _ _ _ hm
  obtain ⟨fu1, hf1⟩ := h1
  obtain ⟨slots, rr1, sm1⟩ := rd22.2 _ _ _ hf1
  replace sm1 := sm1 (fun n hn => by have := List.all_eq_true.1 hsz n (DataW.weights_mem_each (j := 1) (t := 22) rfl rfl n hn); simpa using this)
  obtain ⟨b1, l1, c1, rfl⟩ := okWide_slice Try.underlying22 (hval 1 22 v1 rfl rfl)
  replace rr1 : (rSl (rInt .i64)).rd W [] [.slice b1 l1 c1] slots := rr1
  obtain ⟨a_slots, c_slots, e1, f_slots⟩ := un_sl rr1
  simp only [Value.slice.injEq] at e1
  obtain ⟨rfl, rfl, rfl⟩ := e1
  have hm : m8_overflightlaw38_ClearingFirst r_ slots = some true := ClearingFirst_law _ _ sm0 sm1
  have hc := Fn.calls (c8_overflightlaw38_ClearingFirst (r_ := r_) (slots := slots) (w := W) (O := []) (by simp) r_r__slots f_r__owners f_r__costs f_slots hm)
  clear hA0 hval0
  refine Calls.mono hc ?_
  rintro e W' ⟨v, rfl, bel, hv⟩
  replace bel := bel.below; obtain rfl : v = .bool true := hv
  exact ⟨_, rfl, _, _, _, [], _, [], hW', trodAll_mk1 (shut_bool Try.underlying4 _), (trodAll_cons_mk (Below.trod laidOut (by kernel_rfl) (of_decide_eq_true (by kernel_rfl)) k0 bel lt0) (trodAll_cons_mk (Below.trod laidOut (by kernel_rfl) (of_decide_eq_true (by kernel_rfl)) k1 bel lt1) trodAll_mk0)), rfl, bel.frame _, fun h => by cases h⟩
theorem over : Rows.clearingFirstRow.holds Try.pinned (OpenSpec.ofChange Rows.clearingFirstSpec) :=
  OpenClaim.holds_of_wide 8 Try.f8 rfl rfl rfl rfl rfl rfl rfl ⟨rfl, rfl, rfl, rfl, rfl⟩ rfl rfl rfl rfl rfl (by kernel_rfl) Try.func8 (by kernel_rfl)
    (of_decide_eq_true (by kernel_rfl)) (by unfold Func.isWrapper; first | (rw [if_pos (by decide +kernel)]; kernel_rfl) | (rw [if_neg (by decide +kernel)]; exact ⟨rfl, rfl⟩))
    (fun os started H enc _ => lifted os started H enc)
theorem proved : Rows.ClearingFirstSaid := over
end Go.Proofs.Ytnenhpedfcngbaa.lawClearingFirst


