/- Stuck names the first pair without a path, for every airspace. -/
import Derived.Test.YtolafciahogceaaStuck4
import Derived.Test.YtolafciahogceaaRows
import Derived.WalkKit
import Derived.ShutString
/- Chapter 10: the program's divisions are those of the document; splits and merges. -/
set_option linter.unusedSimpArgs false
set_option linter.unusedVariables false
set_option linter.unusedSectionVars false
namespace Go.Fx
open Go Go.RowKit
/-! masks -/
theorem testBit_or_pow {x k w : Nat} : (x ||| 2 ^ k).testBit w = (x.testBit w || decide (k = w)) := by
  rw [Nat.testBit_or]
  by_cases e : k = w
  · subst e; simp
  · rw [Nat.testBit_two_pow_of_ne e, decide_eq_false e]
theorem secGo_sound {nv : Nat} : ∀ {t : List Int} {x y : Nat}, secGo nv x t = some y → (∀ v ∈ t, 0 ≤ v ∧ v < nv) ∧ t.Nodup ∧ (∀ v ∈ t, x.testBit v.toNat = false) ∧ ∀ w, y.testBit w = (x.testBit w || decide ((w : Int) ∈ t)) := by
  intro t
  induction t with
  | nil => intro x y h; cases h; simp
  | cons v t ih =>
    intro x y h
    unfold secGo at h
    cases hc : (decide (v < 0) || (decide ((nv : Int) ≤ v) || x.testBit v.toNat))
    · rw [hc, cond_false] at h
      simp only [Bool.or_eq_false_iff, decide_eq_false_iff_not] at hc
      obtain ⟨h1, h2, h3, h4⟩ := ih h
      have h3' : ∀ u ∈ t, x.testBit u.toNat = false ∧ ¬ v.toNat = u.toNat := fun u hu => by
        have := h3 u hu; rw [testBit_or_pow, Bool.or_eq_false_iff, decide_eq_false_iff_not] at this; exact this
      refine ⟨?_, ?_, ?_, ?_⟩
      · intro u hu
        rcases List.mem_cons.1 hu with rfl | hu
        · omega
        · exact h1 u hu
      · exact List.nodup_cons.2 ⟨fun hm => (h3' v hm).2 rfl, h2⟩
      · intro u hu
        rcases List.mem_cons.1 hu with rfl | hu
        · exact hc.2.2
        · exact (h3' u hu).1
      · intro w
        rw [h4 w, testBit_or_pow, Bool.or_assoc]
        congr 1
        rw [Bool.eq_iff_iff]
        simp only [Bool.or_eq_true, decide_eq_true_eq, List.mem_cons]
        constructor
        · rintro (h | h)
          · left; omega
          · exact .inr h
        · rintro (h | h)
          · left; omega
          · exact .inr h
    · rw [hc] at h; cases h
theorem secGo_comp {nv : Nat} : ∀ {t : List Int} {x : Nat}, (∀ v ∈ t, 0 ≤ v ∧ v < (nv : Int)) → t.Nodup → (∀ v ∈ t, x.testBit v.toNat = false) → ∃ y, secGo nv x t = some y := by
  intro t
  induction t with
  | nil => intro x _ _ _; exact ⟨x, rfl⟩
  | cons v t ih =>
    intro x h1 h2 h3
    have hv := h1 v (by simp)
    have hn := List.nodup_cons.1 h2
    obtain ⟨y, hy⟩ := ih (x := x ||| 2 ^ v.toNat) (fun u hu => h1 u (by simp [hu])) hn.2 fun u hu => by
      rw [testBit_or_pow, h3 u (by simp [hu]), Bool.false_or, decide_eq_false_iff_not]
      intro e
      have hu' := h1 u (by simp [hu])
      exact hn.1 (by rw [show v = u by omega]; exact hu)
    refine ⟨y, ?_⟩
    unfold secGo
    rw [decide_eq_false (show ¬ v < 0 by omega), decide_eq_false (show ¬ (nv : Int) ≤ v by omega), h3 v (by simp)]
    exact hy
theorem secV_sound {nv : Nat} {l : List Int} {y : Nat} (h : secV nv l = some y) : l ≠ [] ∧ idxOk nv l ∧ ∀ w, y.testBit w = decide ((w : Int) ∈ l) := by
  unfold secV at h
  cases h1 : secGo nv 0 l with
  | none => rw [h1] at h; cases h
  | some x =>
    rw [h1, Option.bind_some] at h
    split at h
    · cases h
    · rename_i hx
      cases h
      obtain ⟨a1, a2, _, a4⟩ := secGo_sound h1
      refine ⟨fun e => ?_, ⟨a1, a2⟩, fun w => by rw [a4 w, Nat.zero_testBit, Bool.false_or]⟩
      subst e; cases h1; exact hx rfl
theorem secV_comp {nv : Nat} {l : List Int} (h1 : l ≠ []) (h2 : idxOk nv l) : ∃ y, secV nv l = some y := by
  obtain ⟨y, hy⟩ := secGo_comp (nv := nv) (x := 0) h2.1 h2.2 fun v _ => Nat.zero_testBit _
  unfold secV
  rw [hy, Option.bind_some]
  refine ⟨y, if_neg ?_⟩
  rintro rfl
  obtain ⟨_, _, _, a4⟩ := secGo_sound hy
  obtain ⟨v, hv⟩ := List.exists_mem_of_ne_nil l h1
  have := a4 v.toNat
  have h0 := (h2.1 v hv).1
  rw [Nat.zero_testBit, Bool.false_or, show ((v.toNat : Nat) : Int) = v by omega, decide_eq_true hv] at this
  cases this
structure Masks (a : XAirspace) (L : List Nat) : Prop where
  len : L.length = a.sectors.length
  bit : ∀ i < a.sectors.length, ∀ w, (L.getD i 0).testBit w = decide ((w : Int) ∈ (a.sectors.getD i default).volumes)
theorem setsGo_sound {nv : Nat} : ∀ {l : List XSector} {L : List Nat}, setsGo nv l = some L → (∀ s ∈ l, s.volumes ≠ [] ∧ idxOk nv s.volumes) ∧ ∀ i < l.length, ∀ w, (L.getD i 0).testBit w = decide ((w : Int) ∈ (l.getD i default).volumes) := by
  intro l
  induction l with
  | nil => intro L h; simp
  | cons s t ih =>
    intro L h
    unfold setsGo at h
    cases h1 : secV nv s.volumes with
    | none => rw [h1] at h; cases h
    | some x =>
      rw [h1, Option.bind_some] at h
      cases h2 : setsGo nv t with
      | none => rw [h2] at h; cases h
      | some M =>
        rw [h2, Option.map_some] at h
        cases h
        obtain ⟨i1, i2⟩ := ih h2
        obtain ⟨a1, a2, a3⟩ := secV_sound h1
        refine ⟨fun z hz => ?_, fun i hi w => ?_⟩
        · rcases List.mem_cons.1 hz with rfl | hz
          · exact ⟨a1, a2⟩
          · exact i1 z hz
        · cases i with
          | zero => exact a3 w
          | succ i => exact i2 i (by simpa using hi) w
theorem setsGo_comp {nv : Nat} : ∀ {l : List XSector}, (∀ s ∈ l, s.volumes ≠ [] ∧ idxOk nv s.volumes) → ∃ L, setsGo nv l = some L := by
  intro l
  induction l with
  | nil => intro _; exact ⟨[], rfl⟩
  | cons s t ih =>
    intro h
    obtain ⟨L, hL⟩ := ih fun z hz => h z (by simp [hz])
    obtain ⟨y, hy⟩ := secV_comp (h s (by simp)).1 (h s (by simp)).2
    exact ⟨y :: L, by unfold setsGo; rw [hy, hL]; rfl⟩
/-! configurations -/
def orK (secs : List Nat) (x : Nat) (c : List Int) : Nat := c.foldl (fun x s => x ||| secs.getD s.toNat 0) x
def putK (secs : List Nat) (d : List (Int × Bool)) (c : List Int) : List (Int × Bool) := c.foldl (fun d s => mput d (secs.getD s.toNat 0 : Nat) true) d
theorem or_and_zero {x m y : Nat} : (x ||| m) &&& y = 0 ↔ x &&& y = 0 ∧ m &&& y = 0 := by
  rw [Nat.and_or_distrib_right, Nat.or_eq_zero_iff]
theorem and_zero {x y : Nat} : x &&& y = 0 ↔ ∀ w, x.testBit w = true → y.testBit w = false := by
  constructor
  · intro h w hx
    have : (x &&& y).testBit w = false := by rw [h]; exact Nat.zero_testBit w
    rw [Nat.testBit_and, hx, Bool.true_and] at this; exact this
  · intro h
    refine Nat.eq_of_testBit_eq fun w => ?_
    rw [Nat.testBit_and, Nat.zero_testBit]
    cases hx : x.testBit w
    · rfl
    · rw [h w hx]; rfl
theorem cfgGo_sound {secs : List Nat} : ∀ {t : List Int} {x : Nat} {d : List (Int × Bool)} {p : Nat × List (Int × Bool)}, cfgGo secs x d t = some p → (∀ s ∈ t, 0 ≤ s ∧ s < (secs.length : Int)) ∧ t.Pairwise (fun s u => secs.getD s.toNat 0 &&& secs.getD u.toNat 0 = 0) ∧ (∀ s ∈ t, x &&& secs.getD s.toNat 0 = 0) ∧ p = (orK secs x t, putK secs d t) := by
  intro t
  induction t with
  | nil => intro x d p h; cases h; simp [orK, putK]
  | cons s t ih =>
    intro x d p h
    unfold cfgGo at h
    cases hc : (decide (s < 0) || (decide ((secs.length : Int) ≤ s) || decide (x &&& secs.getD s.toNat 0 ≠ 0)))
    · rw [hc, cond_false] at h
      simp only [Bool.or_eq_false_iff, decide_eq_false_iff_not, ne_eq, Decidable.not_not] at hc
      obtain ⟨h1, h2, h3, h4⟩ := ih h
      refine ⟨?_, ?_, ?_, h4⟩
      · intro u hu
        rcases List.mem_cons.1 hu with rfl | hu
        · omega
        · exact h1 u hu
      · exact List.pairwise_cons.2 ⟨fun u hu => (or_and_zero.1 (h3 u hu)).2, h2⟩
      · intro u hu
        rcases List.mem_cons.1 hu with rfl | hu
        · exact hc.2.2
        · exact (or_and_zero.1 (h3 u hu)).1
    · rw [hc] at h; cases h
theorem cfgGo_comp {secs : List Nat} : ∀ {t : List Int} {x : Nat} {d : List (Int × Bool)}, (∀ s ∈ t, 0 ≤ s ∧ s < (secs.length : Int)) → t.Pairwise (fun s u => secs.getD s.toNat 0 &&& secs.getD u.toNat 0 = 0) → (∀ s ∈ t, x &&& secs.getD s.toNat 0 = 0) → cfgGo secs x d t = some (orK secs x t, putK secs d t) := by
  intro t
  induction t with
  | nil => intro x d _ _ _; rfl
  | cons s t ih =>
    intro x d h1 h2 h3
    have hp := List.pairwise_cons.1 h2
    have hs := h1 s (by simp)
    unfold cfgGo
    rw [decide_eq_false (show ¬ s < 0 by omega), decide_eq_false (show ¬ (secs.length : Int) ≤ s by omega), decide_eq_false (show ¬ (x &&& secs.getD s.toNat 0 ≠ 0) from fun h => h (h3 s (by simp)))]
    exact ih (fun u hu => h1 u (by simp [hu])) hp.2 fun u hu => or_and_zero.2 ⟨h3 u (by simp [hu]), hp.1 u hu⟩
theorem orK_bit {secs : List Nat} {w : Nat} : ∀ {c : List Int} {x : Nat}, (orK secs x c).testBit w = (x.testBit w || c.any fun s => (secs.getD s.toNat 0).testBit w) := by
  intro c
  induction c with
  | nil => intro x; simp [orK]
  | cons s t ih =>
    intro x
    show (orK secs (x ||| secs.getD s.toNat 0) t).testBit w = _
    rw [ih, Nat.testBit_or, List.any_cons, Bool.or_assoc]
theorem count_le_one {α : Type} {p : α → Bool} : ∀ {l : List α}, l.Pairwise (fun a b => ¬ (p a = true ∧ p b = true)) → l.countP p ≤ 1 := by
  intro l
  induction l with
  | nil => intro _; simp
  | cons a t ih =>
    intro h
    have hp := List.pairwise_cons.1 h
    rw [List.countP_cons]
    by_cases ha : p a = true
    · have : t.countP p = 0 := List.countP_eq_zero.2 fun b hb hpb => hp.1 b hb ⟨ha, hpb⟩
      rw [this, if_pos ha]; exact Nat.le_refl _
    · rw [if_neg ha]; exact ih hp.2
theorem two_count {α : Type} {p : α → Bool} {A : List α} {a b : α} (ha : a ∈ A) (hb : b ∈ A) (hne : a ≠ b) (pa : p a = true) (pb : p b = true) : 2 ≤ A.countP p := by
  obtain ⟨l1, l2, rfl⟩ := List.append_of_mem ha
  rw [List.countP_append, List.countP_cons, pa]
  rcases List.mem_append.1 hb with h | h
  · have : 0 < l1.countP p := List.countP_pos_iff.2 ⟨b, h, pb⟩; simp; omega
  · rcases List.mem_cons.1 h with h | h
    · exact absurd h.symm hne
    · have : 0 < l2.countP p := List.countP_pos_iff.2 ⟨b, h, pb⟩; simp; omega
section cfg
variable {a : XAirspace} {secs : List Nat} (hm : Masks a secs) (hsec : ∀ s ∈ a.sectors, s.volumes ≠ [] ∧ idxOk a.volumes.length s.volumes)
include hm hsec
theorem bit_has {s : Int} (h : 0 ≤ s ∧ s < (a.sectors.length : Int)) (v : Nat) : (secs.getD s.toNat 0).testBit v = hasV a v s := by
  rw [hm.bit s.toNat (by omega) v]; rfl
theorem bit_lt {s : Int} (h : 0 ≤ s ∧ s < (a.sectors.length : Int)) {v : Nat} (hb : (secs.getD s.toNat 0).testBit v = true) : v < a.volumes.length := by
  rw [hm.bit s.toNat (by omega) v, decide_eq_true_eq] at hb
  have hmem : a.sectors.getD s.toNat default ∈ a.sectors := by rw [show a.sectors.getD s.toNat default = a.sectors[s.toNat]'(by omega) by simp [show s.toNat < a.sectors.length by omega]]; exact List.getElem_mem _
  have := (hsec _ hmem).2.1 _ hb
  omega
theorem bit_ex {s : Int} (h : 0 ≤ s ∧ s < (a.sectors.length : Int)) : ∃ v < a.volumes.length, (secs.getD s.toNat 0).testBit v = true := by
  have hmem : a.sectors.getD s.toNat default ∈ a.sectors := by rw [show a.sectors.getD s.toNat default = a.sectors[s.toNat]'(by omega) by simp [show s.toNat < a.sectors.length by omega]]; exact List.getElem_mem _
  obtain ⟨h1, h2⟩ := hsec _ hmem
  obtain ⟨v, hv⟩ := List.exists_mem_of_ne_nil _ h1
  have := h2.1 v hv
  refine ⟨v.toNat, by omega, ?_⟩
  rw [hm.bit s.toNat (by omega), show ((v.toNat : Nat) : Int) = v by omega, decide_eq_true hv]
theorem all_bits (x : Nat) : x = 2 ^ a.volumes.length - 1 ↔ ∀ w, x.testBit w = decide (w < a.volumes.length) := by
  constructor
  · rintro rfl w; exact Nat.testBit_two_pow_sub_one _ _
  · intro h; exact Nat.eq_of_testBit_eq fun w => by rw [h w, Nat.testBit_two_pow_sub_one]
theorem cfgV_sound {c : List Int} {d : List (Int × Bool)} (h : cfgV a.volumes.length secs c = some d) : divOk a c ∧ d = putK secs [] c := by
  unfold cfgV at h
  cases h1 : cfgGo secs 0 [] c with
  | none => rw [h1] at h; cases h
  | some p =>
    rw [h1, Option.bind_some] at h
    split at h
    · rename_i hp
      cases h
      obtain ⟨a1, a2, _, a4⟩ := cfgGo_sound h1
      subst a4
      have hall := (all_bits hm hsec _).1 hp
      rw [hm.len] at a1
      refine ⟨⟨⟨a1, ?_⟩, fun v hv => ?_⟩, rfl⟩
      · refine a2.imp_of_mem fun {s u} hs hu hd e => ?_
        subst e
        obtain ⟨v, _, hb⟩ := bit_ex hm hsec (a1 _ hs)
        have := and_zero.1 hd v hb
        rw [hb] at this; cases this
      · have h2 : c.countP (hasV a v) ≤ 1 := count_le_one (a2.imp_of_mem fun {s u} hs hu hd hh => by
          have := and_zero.1 hd v (by rw [bit_has hm hsec (a1 _ hs)]; exact hh.1)
          rw [bit_has hm hsec (a1 _ hu), hh.2] at this; cases this)
        have h3 : 0 < c.countP (hasV a v) := by
          have := hall v
          rw [orK_bit, Nat.zero_testBit, Bool.false_or, decide_eq_true hv, List.any_eq_true] at this
          obtain ⟨s, hs, hb⟩ := this
          exact List.countP_pos_iff.2 ⟨s, hs, by rw [← bit_has hm hsec (a1 _ hs)]; exact hb⟩
        omega
    · cases h
theorem div_disj {c : List Int} (h : divOk a c) : c.Pairwise (fun s u => secs.getD s.toNat 0 &&& secs.getD u.toNat 0 = 0) := by
  refine List.Pairwise.imp_of_mem (R := fun a b => a ≠ b) (fun {s u} hs hu hne => and_zero.2 fun w hw => ?_) h.1.2
  have hlt := bit_lt hm hsec (h.1.1 _ hs) hw
  cases hb : (secs.getD u.toNat 0).testBit w
  · rfl
  · have := two_count (p := hasV a w) hs hu hne (by rw [← bit_has hm hsec (h.1.1 _ hs)]; exact hw) (by rw [← bit_has hm hsec (h.1.1 _ hu)]; exact hb)
    have := h.2 w hlt
    omega
theorem cfgV_comp {c : List Int} (h : divOk a c) : cfgV a.volumes.length secs c = some (putK secs [] c) := by
  unfold cfgV
  rw [cfgGo_comp (x := 0) (d := []) (by rw [hm.len]; exact h.1.1) (div_disj hm hsec h) (fun s _ => Nat.zero_and _), Option.bind_some]
  refine if_pos ((all_bits hm hsec _).2 fun w => ?_)
  rw [orK_bit, Nat.zero_testBit, Bool.false_or, Bool.eq_iff_iff, List.any_eq_true, decide_eq_true_eq]
  constructor
  · rintro ⟨s, hs, hb⟩; exact bit_lt hm hsec (h.1.1 _ hs) hb
  · intro hw
    have := h.2 w hw
    obtain ⟨s, hs, hp⟩ := List.countP_pos_iff.1 (show 0 < c.countP (hasV a w) by omega)
    exact ⟨s, hs, by rw [bit_has hm hsec (h.1.1 _ hs)]; exact hp⟩
theorem divGo_sound : ∀ {l : List XConfig} {L : List (List (Int × Bool))}, divGo a.volumes.length secs l = some L → (∀ c ∈ l, divOk a c.sectors) ∧ L = l.map fun c => putK secs [] c.sectors := by
  intro l
  induction l with
  | nil => intro L h; cases h; simp
  | cons c t ih =>
    intro L h
    unfold divGo at h
    cases h1 : cfgV a.volumes.length secs c.sectors with
    | none => rw [h1] at h; cases h
    | some d =>
      rw [h1, Option.bind_some] at h
      cases h2 : divGo a.volumes.length secs t with
      | none => rw [h2] at h; cases h
      | some M =>
        rw [h2, Option.map_some] at h
        cases h
        obtain ⟨i1, i2⟩ := ih h2
        obtain ⟨a1, a2⟩ := cfgV_sound hm hsec h1
        subst a2 i2
        refine ⟨fun z hz => ?_, rfl⟩
        rcases List.mem_cons.1 hz with rfl | hz
        · exact a1
        · exact i1 z hz
theorem divGo_comp : ∀ {l : List XConfig}, (∀ c ∈ l, divOk a c.sectors) → divGo a.volumes.length secs l = some (l.map fun c => putK secs [] c.sectors) := by
  intro l
  induction l with
  | nil => intro _; rfl
  | cons c t ih =>
    intro h
    unfold divGo
    rw [cfgV_comp hm hsec (h c (by simp)), ih fun z hz => h z (by simp [hz])]
    rfl
end cfg
theorem divV_ok {a : XAirspace} (h : OKa a) : ∃ secs, Masks a secs ∧ divV a = some (a.configs.map fun c => putK secs [] c.sectors) := by
  obtain ⟨L, hL⟩ := setsGo_comp h.sec
  have hm : Masks a L := ⟨(setsGo_lt hL).2, (setsGo_sound hL).2⟩
  refine ⟨L, hm, ?_⟩
  unfold divV
  have : shapeB a = true := by unfold shapeB; rw [decide_eq_true h.nv1, decide_eq_true h.nc1]; rfl
  rw [this, cond_true, hL, Option.bind_some, divGo_comp hm h.sec h.cfg]
theorem divV_bad {a : XAirspace} (h : ¬ OKa a) : divV a = none := by
  cases e : divV a with
  | none => rfl
  | some D =>
    exfalso
    unfold divV at e
    cases hs : shapeB a
    · rw [hs] at e; cases e
    · rw [hs, cond_true] at e
      cases h1 : setsGo a.volumes.length a.sectors with
      | none => rw [h1] at e; cases e
      | some L =>
        rw [h1, Option.bind_some] at e
        have hsec := (setsGo_sound h1).1
        have hm : Masks a L := ⟨(setsGo_lt h1).2, (setsGo_sound h1).2⟩
        unfold shapeB at hs
        simp only [Bool.and_eq_true, decide_eq_true_eq] at hs
        exact h ⟨hs.1, hs.2, hsec, (divGo_sound hm hsec e).1⟩
theorem divV_some {a : XAirspace} : (divV a).isSome = okB a := by
  by_cases h : OKa a
  · obtain ⟨secs, _, e⟩ := divV_ok h
    rw [e, okB_true.2 h]; rfl
  · rw [divV_bad h, okB_false h]; rfl
/-! the maps -/
def keysOf (d : List (Int × Bool)) : List Nat := d.map fun p => p.1.toNat
structure MapT (d : List (Int × Bool)) : Prop where
  ris : Ris d
  tru : ∀ p ∈ d, p.2 = true ∧ 0 ≤ p.1
  len : d.length ≤ 10
theorem putK_ris {secs : List Nat} : ∀ {c : List Int} {d : List (Int × Bool)}, Ris d → Ris (putK secs d c) := by
  intro c
  induction c with
  | nil => intro d h; exact h
  | cons s t ih => intro d h; exact ih (mput_ris h _ _)
theorem putK_mem {secs : List Nat} {p : Int × Bool} : ∀ {c : List Int} {d : List (Int × Bool)}, Ris d → (∀ q ∈ d, q.2 = true) → (p ∈ putK secs d c ↔ p ∈ d ∨ ∃ s ∈ c, p = (((secs.getD s.toNat 0 : Nat) : Int), true)) := by
  intro c
  induction c with
  | nil => intro d h ht; simp [putK]
  | cons s t ih =>
    intro d h ht
    have ht' : ∀ q ∈ mput d (secs.getD s.toNat 0 : Nat) true, q.2 = true := fun q hq => by
      rcases (mput_mem h _ _ q).1 hq with e | ⟨e, _⟩
      · rw [e]
      · exact ht q e
    show p ∈ putK secs (mput d (secs.getD s.toNat 0 : Nat) true) t ↔ _
    rw [ih (mput_ris h _ _) ht', mput_mem h]
    constructor
    · rintro ((h1 | ⟨h1, _⟩) | ⟨u, hu, h1⟩)
      · exact .inr ⟨s, by simp, h1⟩
      · exact .inl h1
      · exact .inr ⟨u, by simp [hu], h1⟩
    · rintro (h1 | ⟨u, hu, h1⟩)
      · by_cases e : p.1 = ((secs.getD s.toNat 0 : Nat) : Int)
        · refine .inl (.inl ?_)
          obtain ⟨k, b⟩ := p
          have := ht _ h1
          simp only at e this
          rw [e, this]
        · exact .inl (.inr ⟨h1, e⟩)
      · rcases List.mem_cons.1 hu with rfl | hu
        · exact .inl (.inl h1)
        · exact .inr ⟨u, hu, h1⟩
theorem ris_keys {d : List (Int × Bool)} (h : Ris d) (hn : ∀ p ∈ d, 0 ≤ p.1) : (keysOf d).Nodup := by
  unfold keysOf
  rw [List.nodup_iff_pairwise_ne, List.pairwise_map]
  exact List.Pairwise.imp_of_mem (fun {p q} hp hq hlt => by have := hn p hp; have := hn q hq; omega) h
section keys
variable {a : XAirspace} {secs : List Nat} (hm : Masks a secs) (hsec : ∀ s ∈ a.sectors, s.volumes ≠ [] ∧ idxOk a.volumes.length s.volumes) {c : List Int} (h : divOk a c)
include hm hsec h
omit hm hsec h in
theorem keys_mem {m : Nat} : m ∈ keysOf (putK secs [] c) ↔ ∃ s ∈ c, m = secs.getD s.toNat 0 := by
  unfold keysOf
  simp only [List.mem_map, putK_mem (d := []) List.Pairwise.nil (by simp), List.not_mem_nil, false_or]
  constructor
  · rintro ⟨p, ⟨s, hs, rfl⟩, rfl⟩; exact ⟨s, hs, by simp⟩
  · rintro ⟨s, hs, rfl⟩; exact ⟨_, ⟨s, hs, rfl⟩, Int.toNat_natCast _⟩
omit hm hsec h in
theorem put_tru {p : Int × Bool} (hp : p ∈ putK secs [] c) : p.2 = true ∧ 0 ≤ p.1 := by
  rw [putK_mem (d := []) List.Pairwise.nil (by simp)] at hp
  rcases hp with hp | ⟨s, _, rfl⟩
  · cases hp
  · exact ⟨rfl, Int.natCast_nonneg _⟩
omit hm hsec h in
theorem put_nodup : (keysOf (putK secs [] c)).Nodup := ris_keys (putK_ris List.Pairwise.nil) fun p hp => (put_tru hp).2
theorem keys_len : (keysOf (putK secs [] c)).length = c.length := by
  have hn : (c.map fun s => secs.getD s.toNat 0).Nodup := by
    rw [List.nodup_iff_pairwise_ne, List.pairwise_map]
    refine List.Pairwise.imp_of_mem (fun {s u} hs hu hd e => ?_) (div_disj hm hsec h)
    obtain ⟨v, _, hb⟩ := bit_ex hm hsec (h.1.1 _ hs)
    have := and_zero.1 hd v hb
    rw [← e, hb] at this; cases this
  have hp : (keysOf (putK secs [] c)).Perm (c.map fun s => secs.getD s.toNat 0) := (List.perm_ext_iff_of_nodup put_nodup hn).2 fun m => by
    rw [keys_mem, List.mem_map]
    exact ⟨fun ⟨s, hs, e⟩ => ⟨s, hs, e.symm⟩, fun ⟨s, hs, e⟩ => ⟨s, hs, e.symm⟩⟩
  rw [hp.length_eq, List.length_map]
theorem keys_part : Part a.volumes.length (keysOf (putK secs [] c)) := by
  have u1 : ∀ {s u : Int} {v : Nat}, s ∈ c → u ∈ c → (secs.getD s.toNat 0).testBit v = true → (secs.getD u.toNat 0).testBit v = true → s = u := fun {s u v} hs hu h1 h2 => by
    refine Classical.byContradiction fun hne => ?_
    have := two_count (p := hasV a v) hs hu hne (by rw [← bit_has hm hsec (h.1.1 _ hs)]; exact h1) (by rw [← bit_has hm hsec (h.1.1 _ hu)]; exact h2)
    have := h.2 v (bit_lt hm hsec (h.1.1 _ hs) h1)
    omega
  refine ⟨put_nodup, fun m hmm => ?_, fun m hmm v hv => ?_, fun v hv => ?_, fun m hmm m' hmm' v h1 h2 => ?_⟩
  · obtain ⟨s, hs, rfl⟩ := keys_mem.1 hmm
    exact bit_ex hm hsec (h.1.1 _ hs)
  · obtain ⟨s, hs, rfl⟩ := keys_mem.1 hmm
    exact bit_lt hm hsec (h.1.1 _ hs) hv
  · have := h.2 v hv
    obtain ⟨s, hs, hp⟩ := List.countP_pos_iff.1 (show 0 < c.countP (hasV a v) by omega)
    exact ⟨_, keys_mem.2 ⟨s, hs, rfl⟩, by rw [bit_has hm hsec (h.1.1 _ hs)]; exact hp⟩
  · obtain ⟨s, hs, rfl⟩ := keys_mem.1 hmm
    obtain ⟨u, hu, rfl⟩ := keys_mem.1 hmm'
    rw [u1 hs hu h1 h2]
theorem put_map (hl : c.length ≤ 10) : MapT (putK secs [] c) := ⟨putK_ris List.Pairwise.nil, fun p hp => put_tru hp, by have := keys_len hm hsec h; unfold keysOf at this; rw [List.length_map] at this; omega⟩
theorem tog_iff {v w : Nat} (hv : v < a.volumes.length) : tog (keysOf (putK secs [] c)) v w ↔ ∃ s ∈ c, hasV a v s = true ∧ hasV a w s = true := by
  constructor
  · rintro ⟨m, hmm, h1, h2⟩
    obtain ⟨s, hs, rfl⟩ := keys_mem.1 hmm
    rw [bit_has hm hsec (h.1.1 _ hs)] at h1 h2
    exact ⟨s, hs, h1, h2⟩
  · rintro ⟨s, hs, h1, h2⟩
    exact ⟨_, keys_mem.2 ⟨s, hs, rfl⟩, by rw [bit_has hm hsec (h.1.1 _ hs)]; exact h1, by rw [bit_has hm hsec (h.1.1 _ hs)]; exact h2⟩
end keys
/-! steps -/
def stepN (A B : Nat) : Bool := decide ((A = 0 ∧ B = 0) ∨ (A = 1 ∧ B = 2) ∨ (A = 2 ∧ B = 1))
def stepB (d o : List (Int × Bool)) : Bool := stepN (miss (keysOf d) (keysOf o)) (miss (keysOf o) (keysOf d))
theorem stepB_iff {d o : List (Int × Bool)} : stepB d o = true ↔ stepK (keysOf d) (keysOf o) := by unfold stepB stepN stepK; rw [decide_eq_true_iff]
theorem get_key {o : List (Int × Bool)} (ho : MapT o) {n : Int} (hn : 0 ≤ n) : (mget o n).getD false = decide (n.toNat ∈ keysOf o) := by
  rw [Bool.eq_iff_iff, decide_eq_true_eq]
  unfold keysOf
  rw [List.mem_map]
  constructor
  · intro h
    cases e : mget o n with
    | none => rw [e] at h; cases h
    | some b => exact ⟨_, mget_some e, rfl⟩
  · rintro ⟨p, hp, e⟩
    have := ho.tru p hp
    obtain ⟨k, b⟩ := p
    simp only at e this
    have hk : k = n := by omega
    subst hk
    rw [mget_of ho.ris hp, this.1]; rfl
theorem m43_eq (d o : List (Int × Bool)) (hd : MapT d) (ho : MapT o) : m43_configs_missing d o = some ((miss (keysOf d) (keysOf o) : Nat) : Int) := by
  unfold m43_configs_missing
  show mrng (m43_configs_missing_B0 o) m43_configs_missing_K0 d 0 = _
  rw [mrng_fold (f := fun p n => bif !((mget o p.1).getD false) then IntKind.wrap .i64 (n + 1) else n)]
  · have : ∀ (l : List (Int × Bool)) (n : Nat), n + l.length ≤ 100 → l.foldl (fun n p => bif !((mget o p.1).getD false) then IntKind.wrap .i64 (n + 1) else n) (n : Int) = ((n + l.countP (fun p => !((mget o p.1).getD false)) : Nat) : Int) := by
      intro l
      induction l with
      | nil => intro n _; simp
      | cons p t ih =>
        intro n hn
        simp only [List.length_cons] at hn
        rw [List.foldl_cons, List.countP_cons]
        cases (!((mget o p.1).getD false))
        · rw [cond_false, ih n (by omega)]; simp
        · rw [cond_true, wrapS (by omega)]
          have := ih (n + 1) (by omega)
          rw [show ((n + 1 : Nat) : Int) = (n : Int) + 1 by omega] at this
          rw [this]; simp; omega
    have h1 := this d 0 (by have := hd.len; omega)
    unfold m43_configs_missing_K0
    rw [show (0 : Int) = ((0 : Nat) : Int) from rfl, h1]
    congr 2
    rw [Nat.zero_add]
    unfold miss keysOf
    rw [List.countP_map]
    refine List.countP_congr fun p hp => ?_
    have := get_key ho (hd.tru p hp).2
    rw [this]
    unfold keysOf
    simp
  · intro sf x hx s
    unfold m43_configs_missing_B0
    cases (!((mget o x.1).getD false)) <;> rfl
  · intro x _ y _ s
    cases (!((mget o x.1).getD false)) <;> cases (!((mget o y.1).getD false)) <;> rfl
theorem m36_eq (d o : List (Int × Bool)) (hd : MapT d) (ho : MapT o) : m36_configs_step d o = some (stepB d o) := by
  unfold m36_configs_step
  rw [m43_eq d o hd ho, m43_eq o d ho hd]
  simp only [Option.bind_some, jn_eq]
  unfold stepB stepN
  generalize miss (keysOf d) (keysOf o) = A
  generalize miss (keysOf o) (keysOf d) = B
  by_cases h0 : A = 0
  · subst h0
    by_cases k : B = 0
    · subst k; rfl
    · have : ¬ ((B : Int) = 0) := by omega
      simp [this, k]
  by_cases h1 : A = 1
  · subst h1
    by_cases k : B = 2
    · subst k; rfl
    · have : ¬ ((B : Int) = 2) := by omega
      simp [this, k]
  by_cases h2 : A = 2
  · subst h2
    by_cases k : B = 1
    · subst k; rfl
    · have : ¬ ((B : Int) = 1) := by omega
      simp [this, k]
  · have k0 : ¬ ((A : Int) = 0) := by omega
    have k1 : ¬ ((A : Int) = 1) := by omega
    have k2 : ¬ ((A : Int) = 2) := by omega
    simp [k0, k1, k2, h0, h1, h2]
end Go.Fx



/- Chapter 10: steps, of the program and of the document. -/
set_option linter.unusedSimpArgs false
set_option linter.unusedVariables false
namespace Go.Fx
open Go Go.RowKit
def lay (a : XAirspace) : List (List (Int × Bool)) := (divV a).getD []
structure LayOk (a : XAirspace) : Prop where
  nv1 : 1 ≤ a.volumes.length
  nc1 : 1 ≤ a.configs.length
  len : (lay a).length = a.configs.length
  map : ∀ i < a.configs.length, MapT ((lay a).getD i default)
  part : ∀ i < a.configs.length, Part a.volumes.length (keysOf ((lay a).getD i default))
  klen : ∀ i < a.configs.length, (keysOf ((lay a).getD i default)).length = (a.configs.getD i default).sectors.length
  togs : ∀ i < a.configs.length, ∀ v < a.volumes.length, ∀ w, tog (keysOf ((lay a).getD i default)) v w ↔ ∃ s ∈ (a.configs.getD i default).sectors, hasV a v s = true ∧ hasV a w s = true
  cfg : ∀ i < a.configs.length, divOk a (a.configs.getD i default).sectors
theorem lay_ok {a : XAirspace} (hf : Few10 a) (h : OKa a) : LayOk a ∧ divV a = some (lay a) := by
  obtain ⟨secs, hm, e⟩ := divV_ok h
  have el : lay a = a.configs.map fun c => putK secs [] c.sectors := by unfold lay; rw [e]; rfl
  have gi : ∀ i, i < a.configs.length → (lay a).getD i default = putK secs [] (a.configs.getD i default).sectors ∧ a.configs.getD i default ∈ a.configs := fun i hi => by
    have h2 : a.configs.getD i default = a.configs[i] := by simp [hi]
    rw [el, h2]
    exact ⟨by simp [hi], List.getElem_mem _⟩
  refine ⟨⟨h.nv1, h.nc1, by rw [el, List.length_map], fun i hi => ?_, fun i hi => ?_, fun i hi => ?_, fun i hi v hv w => ?_, fun i hi => h.cfg _ (gi i hi).2⟩, by rw [el]; exact e⟩
  · rw [(gi i hi).1]; exact put_map hm h.sec (h.cfg _ (gi i hi).2) (hf.cl _ (gi i hi).2)
  · rw [(gi i hi).1]; exact keys_part hm h.sec (h.cfg _ (gi i hi).2)
  · rw [(gi i hi).1]; exact keys_len hm h.sec (h.cfg _ (gi i hi).2)
  · rw [(gi i hi).1]; exact tog_iff hm h.sec (h.cfg _ (gi i hi).2) hv
def adjN (a : XAirspace) (i j : Nat) : Bool := decide (i ≠ j) && stepB ((lay a).getD i default) ((lay a).getD j default)
theorem adjN_symm (a : XAirspace) (i j : Nat) : adjN a i j = adjN a j i := by
  unfold adjN
  rw [show decide (i ≠ j) = decide (j ≠ i) by rw [Bool.eq_iff_iff]; simp only [decide_eq_true_eq]; exact ⟨Ne.symm, Ne.symm⟩]
  congr 1
  rw [Bool.eq_iff_iff, stepB_iff, stepB_iff]; exact stepK_symm
def inR (a : XAirspace) (n : Int) : Bool := decide (0 ≤ n) && decide (n < (a.configs.length : Int))
theorem inR_true {a : XAirspace} {n : Int} : inR a n = true ↔ 0 ≤ n ∧ n < (a.configs.length : Int) := by unfold inR; simp
theorem m31_ok {a : XAirspace} (hf : Few10 a) (h : OKa a) : m31_configs_divisions a = some (lay a, true) := by
  rw [m31_eq a hf, (lay_ok hf h).2]; rfl
theorem m31_bad {a : XAirspace} (hf : Few10 a) (h : ¬ OKa a) : m31_configs_divisions a = some ([], false) := by
  rw [m31_eq a hf, divV_bad h]; rfl
theorem m15_eq' (a : XAirspace) (hf : Few10 a) : m15_configs_Check a = some (bif okB a then 0 else 100) := by rw [m15_eq a hf, divV_some]
/-! the document's -/
end Go.Fx



set_option linter.unusedVariables false
set_option linter.unusedSimpArgs false
set_option maxRecDepth 100000
set_option maxHeartbeats 0
namespace Go.Fx
open Go Go.RowKit Go.Proofs
end Go.Fx



set_option linter.unusedVariables false
set_option linter.unusedSimpArgs false
set_option maxRecDepth 100000
set_option maxHeartbeats 0
namespace Go.Fx
open Go Go.RowKit Go.Proofs
end Go.Fx



set_option linter.unusedVariables false
set_option linter.unusedSimpArgs false
set_option maxRecDepth 100000
set_option maxHeartbeats 0
namespace Go.Fx
open Go Go.RowKit Go.Proofs
end Go.Fx



/- Chapter 10: distances, what is reached, and the ways. -/
set_option linter.unusedSimpArgs false
set_option linter.unusedVariables false
namespace Go.Fx
open Go Go.RowKit
def natI (l : List Nat) : List Int := l.map fun (x : Nat) => (x : Int)
theorem natI_append (a b : List Nat) : natI (a ++ b) = natI a ++ natI b := List.map_append
theorem natI_len (a : List Nat) : (natI a).length = a.length := List.length_map _
theorem nodup_len {n : Nat} : ∀ {q : List Nat}, q.Nodup → (∀ x ∈ q, x < n) → q.length ≤ n := by
  induction n with
  | zero => intro q _ h; cases q with
    | nil => exact Nat.le_refl _
    | cons x t => exact absurd (h x (by simp)) (Nat.not_lt_zero _)
  | succ n ih =>
    intro q hn h
    by_cases hm : n ∈ q
    · have h1 := ih (q := q.erase n) (hn.erase _) fun x hx => by
        have hx' := (List.Nodup.mem_erase_iff hn).1 hx
        have := h x hx'.2
        omega
      rw [List.length_erase_of_mem hm] at h1
      omega
    · have := ih hn fun x hx => by
        have h1 := h x hx
        have : x ≠ n := fun e => hm (e ▸ hx)
        omega
      omega
/-! the program's neighbours -/
theorem m38_eq (a : XAirspace) (L : LayOk a) (hn : a.configs.length ≤ 7) (c : Nat) (hc : c < a.configs.length) : m38_configs_next (lay a) c = some (natI ((List.range a.configs.length).filter (adjN a c))) := by
  have hl := L.len
  have h1 : m45_configs_next_1 (lay a) c = some (natI ((List.range a.configs.length).filter (adjN a c))) := by
    unfold m45_configs_next_1
    refine (up_listI (B := m45_configs_next_1_B0 (lay a) c) (fun i t => some (natI ((List.range' i t.length).filter (adjN a c)))) (lay a) (by omega) ?_ ?_ (by omega)).trans (by rw [hl, List.range_eq_range'])
    · intro sf; unfold m45_configs_next_1_B0
      simp only [Int.lt_irrefl, decide_false, cond_false]; rfl
    · intro sf i x t h1 h2 h3 ih
      have hi : i < a.configs.length := by omega
      unfold m45_configs_next_1_B0
      rw [List.length_cons, List.range'_succ, List.filter_cons]
      simp only [decide_eq_true (ipos h1), cond_true, h3, ih, Int.toNat_natCast]
      by_cases e : i = c
      · subst e
        rw [decide_eq_false (show ¬ ((i : Int) ≠ i) from fun h => h rfl), cond_false]
        have : adjN a i i = false := by unfold adjN; simp
        rw [this]; rfl
      · have e2 : adjN a c i = stepB ((lay a).getD c default) ((lay a).getD i default) := by unfold adjN; rw [decide_eq_true (Ne.symm e), Bool.true_and]
        rw [decide_eq_true (show (i : Int) ≠ c by omega), cond_true, ck_eq (by omega), ck_eq (by omega), m36_eq _ _ (L.map c hc) (L.map i hi), Option.bind_some, ← e2]
        cases adjN a c i <;> rfl
  unfold m38_configs_next
  rw [h1]; rfl
/-! distances -/
theorem m34_fold (adj : Nat → Nat → Bool) {n to c : Nat} (hn : n ≤ 7) (v : List Int) (hv : v.getD 0 default = (c : Int)) (K : List Int → List Int → Option (List Int)) : ∀ (k m : Nat) (d : List Int) (q : List Nat), m + k = n → BJ adj n to c m d q →
    rng2 (m34_configs_distances_B1 v) K (natI ((List.range' m k).filter (adj c))) (natI q) d = K (natI ((List.range' m k).foldl (bstep adj c) (d, q)).2) ((List.range' m k).foldl (bstep adj c) (d, q)).1 := by
  intro k
  induction k with
  | zero => intro m d q _ _; simp only [List.range'_zero, List.filter_nil, List.foldl_nil]; exact rng2_nil
  | succ k ih =>
    intro m d q e h
    have hq := nodup_len h.nd fun x hx => (h.qmem x hx).1
    have hs := h.step (show m < n by omega)
    rw [List.range'_succ, List.filter_cons, List.foldl_cons]
    have hd := h.len
    have hm : m < d.length := by omega
    have hc : c < d.length := by have := h.cn; omega
    have hb : bstep adj c (d, q) m = bif adj c m && decide (d.getD m default < 0) then (d.set m (d.getD c default + 1), q ++ [m]) else (d, q) := rfl
    rw [hb] at hs ⊢
    by_cases ha : adj c m = true
    · rw [if_pos ha]
      show rng2 _ K ((m : Int) :: natI _) _ _ = _
      rw [rng2_cons]
      generalize hR : rng2 (m34_configs_distances_B1 v) K (natI ((List.range' (m + 1) k).filter (adj c))) = R
      unfold m34_configs_distances_B1
      simp only [hv, Int.toNat_natCast]
      have k1 : (0 : Int) ≤ (m : Int) ∧ (m : Int) < (d.length : Int) := by omega
      have k2 : (0 : Int) ≤ (c : Int) ∧ (c : Int) < (d.length : Int) := by omega
      simp only [ck_eq k1, ck_eq k2]
      by_cases hu : d.getD m default < 0
      · rw [ha, Bool.true_and, decide_eq_true hu, cond_true] at hs ⊢
        have := h.bound c h.cn; have := vc_le n d; have := h.cv
        rw [decide_eq_false (show ¬ 0 ≤ d.getD m default by omega), cond_false, ck_eq (by rw [natI_len]; simp; omega), wrap_i64 (by omega) (by omega), ← hR]
        have := ih (m + 1) _ _ (by omega) hs
        rw [natI_append] at this
        exact this
      · rw [decide_eq_false hu, Bool.and_false, cond_false] at hs ⊢
        rw [decide_eq_true (show 0 ≤ d.getD m default by omega), cond_true, ← hR]
        exact ih (m + 1) _ _ (by omega) hs
    · have ha' : adj c m = false := by simpa using ha
      rw [if_neg ha]
      rw [ha', Bool.false_and, cond_false] at hs ⊢
      exact ih (m + 1) _ _ (by omega) hs
theorem m34_loop (a : XAirspace) (L : LayOk a) (hn : a.configs.length ≤ 7) {to : Nat} : ∀ (f : Nat) (d : List Int) (q : List Nat), BI (adjN a) a.configs.length to d q → 2 * (a.configs.length - vc a.configs.length d) + q.length < f →
    loop2 (m34_configs_distances_B0 (lay a)) f (natI q) d = some (bfs (adjN a) a.configs.length f d q) := by
  intro f
  induction f with
  | zero => intro d q _ h; omega
  | succ f ih =>
    intro d q h hf
    rw [loop2_succ]
    cases q with
    | nil => unfold m34_configs_distances_B0; rfl
    | cons c q =>
      generalize hR : loop2 (m34_configs_distances_B0 (lay a)) f = R at ih ⊢
      unfold m34_configs_distances_B0 bfs
      have hc := h.qmem c (by simp)
      have e0 : (natI (c :: q)).getD 0 default = (c : Int) := rfl
      have e1 : (natI (c :: q)).length = q.length + 1 := by rw [natI_len]; rfl
      rw [e1, decide_eq_true (show (0 : Int) < ((q.length + 1 : Nat) : Int) by omega), cond_true, ck_eq (by omega), ck_eq (by omega), e0, m38_eq a L hn c hc.1, Option.bind_some]
      simp only [jn_eq]
      have e2 : (natI (c :: q)).drop 1 = natI q := rfl
      rw [e2, List.range_eq_range', m34_fold (adjN a) hn (natI (c :: q)) e0 _ _ 0 d q (by omega) (BJ.start h)]
      have hm := fold_meas (adj := adjN a) (n := a.configs.length) c a.configs.length 0 d q h.len (by omega) fun i _ => hc.2
      have hr := h.round
      rw [List.range_eq_range'] at hr
      exact ih _ _ hr (by have := hm.1; simp only [List.length_cons] at hf; omega)
def distL (a : XAirspace) (to : Nat) : List Int := bfs (adjN a) a.configs.length 1000000 (start a.configs.length to) [to]
theorem dist_ok (a : XAirspace) (hn : a.configs.length ≤ 7) {to : Nat} (ht : to < a.configs.length) : Dist (adjN a) a.configs.length to (distL a to) := bfs_dist ht (by omega)
theorem rep10_1 : m42_slices_Repeatint_int_ [(-1)] ((1 : Nat) : Int) = some (List.replicate 1 (-1)) := by kernel_rfl
theorem rep10_2 : m42_slices_Repeatint_int_ [(-1)] ((2 : Nat) : Int) = some (List.replicate 2 (-1)) := by kernel_rfl
theorem rep10_3 : m42_slices_Repeatint_int_ [(-1)] ((3 : Nat) : Int) = some (List.replicate 3 (-1)) := by kernel_rfl
theorem rep10_4 : m42_slices_Repeatint_int_ [(-1)] ((4 : Nat) : Int) = some (List.replicate 4 (-1)) := by kernel_rfl
theorem rep10_5 : m42_slices_Repeatint_int_ [(-1)] ((5 : Nat) : Int) = some (List.replicate 5 (-1)) := by kernel_rfl
theorem rep10_6 : m42_slices_Repeatint_int_ [(-1)] ((6 : Nat) : Int) = some (List.replicate 6 (-1)) := by kernel_rfl
theorem rep10_7 : m42_slices_Repeatint_int_ [(-1)] ((7 : Nat) : Int) = some (List.replicate 7 (-1)) := by kernel_rfl
theorem rep10_eq (n : Nat) (h1 : 1 ≤ n) (h : n ≤ 7) : m42_slices_Repeatint_int_ [(-1)] (n : Int) = some (List.replicate n (-1)) := by
  have : n = 1 ∨ n = 2 ∨ n = 3 ∨ n = 4 ∨ n = 5 ∨ n = 6 ∨ n = 7 := by omega
  rcases this with rfl | rfl | rfl | rfl | rfl | rfl | rfl
  · exact rep10_1
  · exact rep10_2
  · exact rep10_3
  · exact rep10_4
  · exact rep10_5
  · exact rep10_6
  · exact rep10_7
theorem m34_eq (a : XAirspace) (L : LayOk a) (hn : a.configs.length ≤ 7) (to : Nat) (ht : to < a.configs.length) : m34_configs_distances (lay a) to = some (distL a to) := by
  unfold m34_configs_distances
  rw [L.len, rep10_eq _ L.nc1 hn, Option.bind_some, ck_eq (by simp; omega)]
  have hv := vc_le a.configs.length (start a.configs.length to)
  exact m34_loop a L hn 1000000 _ [to] (start_inv _ ht) (by simp only [List.length_cons, List.length_nil]; omega)
/-! the document's distances -/
end Go.Fx



set_option linter.unusedVariables false
set_option linter.unusedSimpArgs false
set_option maxRecDepth 100000
set_option maxHeartbeats 0
namespace Go.Fx
open Go Go.RowKit Go.Proofs
end Go.Fx



set_option linter.unusedVariables false
set_option linter.unusedSimpArgs false
set_option maxRecDepth 100000
set_option maxHeartbeats 0
namespace Go.Fx
open Go Go.RowKit Go.Proofs
end Go.Fx



/- Chapter 10: what is reached, ways, and what is stuck. -/
set_option linter.unusedSimpArgs false
set_option linter.unusedVariables false
namespace Go.Fx
open Go Go.RowKit
theorem distL_len (a : XAirspace) (hn : a.configs.length ≤ 7) {to : Nat} (ht : to < a.configs.length) : (distL a to).length = a.configs.length := (dist_ok a hn ht).len
def posL (a : XAirspace) (f : Nat) : List Nat := (List.range a.configs.length).filter fun i => decide (0 ≤ (distL a f).getD i default)
noncomputable def reachM (a : XAirspace) (f : Int) : List Int × Int := bif okB a && inR a f then (natI (posL a f.toNat), 0) else ([], 100)
theorem m17_loop (d : List Int) (hd : d.length ≤ 100) : loop2 (m17_configs_Reach_B0 d) (((d.length : Int) - 0).toNat + 1) [] 0 = some (natI ((List.range d.length).filter fun i => decide (0 ≤ d.getD i default)), 0) := by
  refine (up_listB (B := m17_configs_Reach_B0 d) (σ := List Int) (fun i s => s.length ≤ i) (fun i t s => some (s ++ natI ((List.range' i t.length).filter fun i => decide (0 ≤ d.getD i default)), 0)) d (by omega) ?_ ?_ (by omega) (Nat.le_refl _)).trans (by rw [List.range_eq_range']; rfl)
  · intro sf s _; unfold m17_configs_Reach_B0
    rw [decide_eq_false (Int.lt_irrefl _), cond_false]
    show _ = some (s ++ [], 0)
    rw [List.append_nil]
  · intro sf i s x t h1 h2 h3 hs ih
    unfold m17_configs_Reach_B0
    rw [show (x :: t).length = t.length + 1 from rfl, List.range'_succ, List.filter_cons]
    simp only [decide_eq_true (ipos h1), cond_true, h3, Int.toNat_natCast]
    rw [ck_eq (by omega)]
    by_cases e : 0 ≤ d.getD i default
    · rw [decide_eq_true e, cond_true, ck_eq (by simp; omega), ih _ (by simp; omega), if_pos rfl, List.append_assoc]; rfl
    · rw [decide_eq_false e, cond_false, ih _ (by omega)]; rfl
theorem inR_false1 {a : XAirspace} {n : Int} (h : n < 0) : inR a n = false := by unfold inR; rw [decide_eq_false (show ¬ 0 ≤ n by omega)]; rfl
theorem inR_false2 {a : XAirspace} {n : Int} (h : (a.configs.length : Int) ≤ n) : inR a n = false := by unfold inR; rw [decide_eq_false (show ¬ n < (a.configs.length : Int) by omega), Bool.and_false]
theorem m17_eq (a : XAirspace) (hf : Few10 a) (f : Int) : m17_configs_Reach a f = some (reachM a f) := by
  have hn := hf.nc
  unfold m17_configs_Reach reachM
  by_cases h : OKa a
  · obtain ⟨L, _⟩ := lay_ok hf h
    rw [m31_ok hf h, okB_true.2 h]
    simp only [Option.bind_some, jn_eq, Bool.not_true, cond_false, L.len, Bool.true_and]
    by_cases f1 : f < 0
    · rw [decide_eq_true f1, inR_false1 f1]; rfl
    by_cases f2 : (a.configs.length : Int) ≤ f
    · rw [decide_eq_false f1, decide_eq_true f2, inR_false2 f2]; rfl
    rw [decide_eq_false f1, decide_eq_false f2, inR_true.2 ⟨by omega, by omega⟩]
    obtain ⟨i, rfl⟩ : ∃ i : Nat, f = i := ⟨f.toNat, by omega⟩
    have hi : i < a.configs.length := by omega
    simp only [cond_false, cond_true, Int.toNat_natCast]
    have hd := distL_len a hn hi
    rw [m34_eq a L hn i hi, Option.bind_some, m17_loop _ (by omega), hd]
    rfl
  · rw [m31_bad hf h, okB_false h]; rfl
/-! ways -/
def nxt (a : XAirspace) (d : List Int) (c : Nat) : Nat := ((List.range a.configs.length).find? fun i => adjN a c i && decide (d.getD i default = d.getD c default - 1)).getD 0
def pathN (a : XAirspace) (d : List Int) : Nat → Nat → List Nat
  | 0, _ => []
  | k + 1, c => nxt a d c :: pathN a d k (nxt a d c)
section ways
variable {a : XAirspace} {to : Nat} {d : List Int} (D : Dist (adjN a) a.configs.length to d)
include D
theorem dist_zero {c : Nat} (hc : c < a.configs.length) : d.getD c default = 0 ↔ c = to := by
  constructor
  · intro h
    refine Classical.byContradiction fun hne => ?_
    obtain ⟨j, hj, _, h1, h2⟩ := D.pred c hc (by omega) hne
    omega
  · rintro rfl; exact D.to0
theorem nxt_spec {c : Nat} (hc : c < a.configs.length) (h0 : 0 < d.getD c default) : nxt a d c < a.configs.length ∧ adjN a c (nxt a d c) = true ∧ d.getD (nxt a d c) default = d.getD c default - 1 ∧ (List.range a.configs.length).find? (fun i => adjN a c i && decide (d.getD i default = d.getD c default - 1)) = some (nxt a d c) ∧ ∀ j < nxt a d c, (adjN a c j && decide (d.getD j default = d.getD c default - 1)) = false := by
  have hne : c ≠ to := fun e => by rw [e, D.to0] at h0; omega
  obtain ⟨j, hj, ha, h1, h2⟩ := D.pred c hc (by omega) hne
  cases e : (List.range a.configs.length).find? (fun i => adjN a c i && decide (d.getD i default = d.getD c default - 1)) with
  | none =>
    rw [List.find?_eq_none] at e
    have := e j (List.mem_range.2 hj)
    rw [adjN_symm, ha, Bool.true_and, decide_eq_true (show d.getD j default = d.getD c default - 1 by omega)] at this
    simp at this
  | some x =>
    have ex : nxt a d c = x := by unfold nxt; rw [e]; rfl
    have h3 := List.find?_range_eq_some.1 e
    have h4 : ∀ j < x, (!(adjN a c j && decide (d.getD j default = d.getD c default - 1))) = true := h3.2.2
    simp only [Bool.and_eq_true, decide_eq_true_eq] at h3
    rw [ex]
    exact ⟨List.mem_range.1 h3.2.1, h3.1.1, h3.1.2, rfl, fun j hj => by have := h4 j hj; rwa [Bool.not_eq_true'] at this⟩
end ways
theorem m22_inner {n : Nat} (d : List Int) (hd : d.length = n) (k K : Int → Option (List Int × Bool × Int)) (c : Nat) (hc : c < n) (h0 : 0 ≤ d.getD c default) (h1 : d.getD c default < 100) : ∀ (l : List Nat), (∀ x ∈ l, x < n) →
    rng1 (m22_configs_Path_B1 d k) K (natI l) c = match l.find? (fun i => decide (d.getD i default = d.getD c default - 1)) with
      | some i => k (i : Int)
      | none => K (c : Int) := by
  intro l
  induction l with
  | nil => intro _; exact rng1_nil
  | cons x t ih =>
    intro h
    have hx := h x (by simp)
    have ih := ih fun y hy => h y (by simp [hy])
    show rng1 _ K ((x : Int) :: natI t) _ = _
    rw [rng1_cons]
    generalize rng1 (m22_configs_Path_B1 d k) K (natI t) = R at ih ⊢
    unfold m22_configs_Path_B1
    rw [ck_eq (by omega), ck_eq (by omega), wrap_i64 (by simp only [Int.toNat_natCast]; omega) (by simp only [Int.toNat_natCast]; omega), List.find?_cons]
    simp only [Int.toNat_natCast]
    cases decide (d.getD x default = d.getD c default - 1)
    · exact ih
    · rfl
theorem m22_loop (a : XAirspace) (L : LayOk a) (hn : a.configs.length ≤ 7) {to : Nat} {d : List Int} (D : Dist (adjN a) a.configs.length to d) : ∀ (k fuel : Nat) (l : List Int) (c : Nat), k < fuel → c < a.configs.length → d.getD c default = (k : Int) → l.length + k ≤ 100 →
    loop2 (m22_configs_Path_B0 to (lay a, true) d) fuel l c = some (l ++ natI (pathN a d k c), true, 0) := by
  intro k
  induction k with
  | zero =>
    intro fuel l c hfu hc hk hl
    obtain ⟨g, rfl⟩ : ∃ g, fuel = g + 1 := ⟨fuel - 1, by omega⟩
    rw [loop2_succ]
    have e := (dist_zero D hc).1 hk
    unfold m22_configs_Path_B0
    rw [decide_eq_false (show ¬ (c : Int) ≠ (to : Int) by omega), cond_false]
    show _ = some (l ++ [], true, 0)
    rw [List.append_nil]
  | succ k ih =>
    intro fuel l c hfu hc hk hl
    obtain ⟨g, rfl⟩ : ∃ g, fuel = g + 1 := ⟨fuel - 1, by omega⟩
    rw [loop2_succ]
    have hne : c ≠ to := fun e => by have := (dist_zero D hc).2 e; omega
    have hb := D.bound c hc
    obtain ⟨s1, s2, s3, s4, _⟩ := nxt_spec D hc (by omega)
    have ih := ih g (l ++ [((nxt a d c : Nat) : Int)]) (nxt a d c) (by omega) s1 (by omega) (by simp; omega)
    generalize loop2 (m22_configs_Path_B0 to (lay a, true) d) g = R at ih ⊢
    unfold m22_configs_Path_B0
    rw [decide_eq_true (show (c : Int) ≠ (to : Int) by omega), cond_true]
    simp only [jn_eq]
    rw [m38_eq a L hn c hc, Option.bind_some, m22_inner d D.len _ _ c hc (by omega) (by omega) _ (fun x hx => List.mem_range.1 (List.mem_filter.1 hx).1), List.find?_filter]
    have e : (fun i => decide (adjN a c i = true ∧ decide (d.getD i default = d.getD c default - 1) = true)) = (fun i => adjN a c i && decide (d.getD i default = d.getD c default - 1)) := by
      funext i; rw [Bool.eq_iff_iff, decide_eq_true_iff, Bool.and_eq_true]
    rw [e, s4]
    show ck _ _ = _
    rw [ck_eq (by simp; omega), ih, List.append_assoc]
    rfl
noncomputable def pathM (a : XAirspace) (f t : Int) : List Int × Bool × Int :=
  bif okB a && (inR a f && inR a t) then (bif decide (0 ≤ (distL a t.toNat).getD f.toNat default) then (natI (f.toNat :: pathN a (distL a t.toNat) ((distL a t.toNat).getD f.toNat default).toNat f.toNat), true, 0) else ([], false, 0)) else ([], false, 100)
theorem m22_eq (a : XAirspace) (hf : Few10 a) (f t : Int) : m22_configs_Path a f t = some (pathM a f t) := by
  have hn := hf.nc
  unfold m22_configs_Path pathM
  by_cases h : OKa a
  · obtain ⟨L, _⟩ := lay_ok hf h
    rw [m31_ok hf h, okB_true.2 h]
    simp only [Option.bind_some, jn_eq, Bool.not_true, cond_false, L.len, Bool.true_and]
    by_cases f1 : f < 0
    · rw [decide_eq_true f1, inR_false1 f1]; rfl
    by_cases f2 : (a.configs.length : Int) ≤ f
    · rw [decide_eq_false f1, decide_eq_true f2, inR_false2 f2]; rfl
    by_cases t1 : t < 0
    · rw [decide_eq_false f1, decide_eq_false f2, decide_eq_true t1, inR_false1 t1, Bool.and_false]; rfl
    by_cases t2 : (a.configs.length : Int) ≤ t
    · rw [decide_eq_false f1, decide_eq_false f2, decide_eq_false t1, decide_eq_true t2, inR_false2 t2, Bool.and_false]; rfl
    rw [decide_eq_false f1, decide_eq_false f2, decide_eq_false t1, decide_eq_false t2, inR_true.2 ⟨by omega, by omega⟩, inR_true.2 ⟨by omega, by omega⟩]
    obtain ⟨i, rfl⟩ : ∃ i : Nat, f = i := ⟨f.toNat, by omega⟩
    obtain ⟨j, rfl⟩ : ∃ j : Nat, t = j := ⟨t.toNat, by omega⟩
    have hi : i < a.configs.length := by omega
    have hj : j < a.configs.length := by omega
    simp only [cond_false, cond_true, Bool.and_self]
    have D := dist_ok a hn hj
    have hb := D.bound i hi
    rw [m34_eq a L hn j hj, Option.bind_some, ck_eq (by have := D.len; omega)]
    rw [show ((i : Nat) : Int).toNat = i from rfl, show ((j : Nat) : Int).toNat = j from rfl]
    by_cases hd : (distL a j).getD i default < 0
    · rw [decide_eq_true hd, decide_eq_false (show ¬ 0 ≤ (distL a j).getD i default by omega)]; rfl
    · rw [decide_eq_false hd, decide_eq_true (show 0 ≤ (distL a j).getD i default by omega), cond_false, cond_true]
      rw [m22_loop a L hn D ((distL a j).getD i default).toNat 1000000 [(i : Int)] i (by omega) hi (by omega) (by rw [List.length_cons, List.length_nil]; omega)]
      rfl
  · rw [m31_bad hf h, okB_false h]; rfl
end Go.Fx



/- Chapter 10: what is stuck; who reaches whom. -/
set_option linter.unusedSimpArgs false
set_option linter.unusedVariables false
namespace Go.Fx
open Go Go.RowKit
theorem sane10 : m11_overflightlaw10_sane = some true := by kernel_rfl
/-- one reaches another one -/
noncomputable def conB (a : XAirspace) (f t : Int) : Bool := okB a && (inR a f && (inR a t && decide (0 ≤ (distL a f.toNat).getD t.toNat default)))
theorem conB_conn {a : XAirspace} (hn : a.configs.length ≤ 7) {i j : Nat} (hok : OKa a) (hi : i < a.configs.length) (hj : j < a.configs.length) : conB a i j = true ↔ Conn (adjN a) a.configs.length i j := by
  unfold conB
  rw [okB_true.2 hok, inR_true.2 ⟨by omega, by omega⟩, inR_true.2 ⟨by omega, by omega⟩]
  simp only [Bool.true_and, decide_eq_true_eq, Int.toNat_natCast]
  exact (dist_ok a hn hi).conn hj
theorem conn_symm {a : XAirspace} {i j : Nat} (h : Conn (adjN a) a.configs.length i j) : Conn (adjN a) a.configs.length j i := h.symm fun i _ j _ => adjN_symm a i j
/-! stuck -/
def lost (a : XAirspace) (f : Nat) : Option Nat := (List.range a.configs.length).find? fun i => decide ((distL a f).getD i default < 0)
noncomputable def stuckM (a : XAirspace) : Int × Int × Bool × Int := bif okB a then (match lost a 0 with
  | some i => (0, (i : Int), true, 0)
  | none => (0, 0, false, 0)) else (0, 0, false, 100)
theorem lost_some {a : XAirspace} {f x : Nat} (h : lost a f = some x) : x < a.configs.length ∧ (distL a f).getD x default < 0 ∧ ∀ j < x, 0 ≤ (distL a f).getD j default := by
  have h3 := List.find?_range_eq_some.1 h
  refine ⟨List.mem_range.1 h3.2.1, by simpa using h3.1, fun j hj => ?_⟩
  have : (!decide ((distL a f).getD j default < 0)) = true := h3.2.2 j hj
  rw [Bool.not_eq_true', decide_eq_false_iff_not] at this; omega
theorem lost_none {a : XAirspace} {f : Nat} (h : lost a f = none) : ∀ i < a.configs.length, 0 ≤ (distL a f).getD i default := by
  intro i hi
  have := List.find?_eq_none.1 h i (List.mem_range.2 hi)
  simp only [decide_eq_true_eq] at this; omega
theorem m24_eq (a : XAirspace) (hf : Few10 a) : m24_configs_Stuck a = some (stuckM a) := by
  have hn := hf.nc
  unfold m24_configs_Stuck stuckM
  by_cases h : OKa a
  · obtain ⟨L, _⟩ := lay_ok hf h
    have h0 : 0 < a.configs.length := L.nc1
    have D := dist_ok a hn h0
    rw [m31_ok hf h, okB_true.2 h, Option.bind_some, Bool.not_true, cond_false, cond_true]
    have := m34_eq a L hn 0 h0
    rw [show ((0 : Nat) : Int) = 0 from rfl] at this
    rw [this, Option.bind_some]
    obtain ⟨n, e1, e2, e3, e4⟩ := m39_eq (distL a 0) (-1) (by rw [D.len]; omega)
    rw [e1, Option.bind_some]
    cases hl : lost a 0 with
    | none =>
      have := lost_none hl
      have hneg : ¬ 0 ≤ n := fun h => by
        obtain ⟨h1, h2, _⟩ := e4 h
        have := this n.toNat (by rw [← D.len]; exact h2)
        omega
      rw [decide_eq_false hneg]; rfl
    | some x =>
      obtain ⟨h1, h2, h3⟩ := lost_some hl
      have hge := D.ge x h1
      have hmem : (-1 : Int) ∈ distL a 0 := by
        have hx : x < (distL a 0).length := by rw [D.len]; exact h1
        have : (distL a 0)[x] = -1 := by rw [show (distL a 0)[x] = (distL a 0).getD x default by simp [hx]]; omega
        rw [← this]; exact List.getElem_mem _
      have hnn := e2.2 hmem
      obtain ⟨g1, g2, g3⟩ := e4 hnn
      have : n = (x : Int) := by
        have a1 : ¬ n.toNat < x := fun hlt => by have := h3 _ hlt; omega
        have a2 : ¬ x < n.toNat := fun hlt => g3 x hlt (by omega)
        omega
      rw [decide_eq_true hnn, cond_true, this]
  · rw [m31_bad hf h, okB_false h]; rfl
end Go.Fx



set_option linter.unusedVariables false
set_option linter.unusedSimpArgs false
set_option maxRecDepth 100000
set_option maxHeartbeats 0
namespace Go.Fx
open Go Go.RowKit Go.Proofs
end Go.Fx



/- ConfigsUndone. -/
set_option linter.unusedSimpArgs false
set_option linter.unusedVariables false
namespace Go.Fx
open Go Go.RowKit
theorem conB_symm {a : XAirspace} (hn : a.configs.length ≤ 7) (f t : Int) : conB a f t = conB a t f := by
  have key : ∀ f t, conB a f t = true → conB a t f = true := by
    intro f t h
    have h' := h
    unfold conB at h'
    simp only [Bool.and_eq_true] at h'
    have r1 := inR_true.1 h'.2.1
    have r2 := inR_true.1 h'.2.2.1
    obtain ⟨i, rfl⟩ : ∃ i : Nat, f = i := ⟨f.toNat, by omega⟩
    obtain ⟨j, rfl⟩ : ∃ j : Nat, t = j := ⟨t.toNat, by omega⟩
    have hok := okB_true.1 h'.1
    exact (conB_conn hn hok (by omega) (by omega)).2 (conn_symm ((conB_conn hn hok (by omega) (by omega)).1 h))
  rw [Bool.eq_iff_iff]; exact ⟨key f t, key t f⟩
end Go.Fx



/- ConfigsStuck. -/
set_option linter.unusedSimpArgs false
set_option linter.unusedVariables false
namespace Go.Fx
open Go Go.RowKit
theorem path_is {a : XAirspace} (hn : a.configs.length ≤ 7) (hok : OKa a) {i j : Nat} (hi : i < a.configs.length) (hj : j < a.configs.length) : (pathM a i j).2 = (conB a i j, 0) := by
  have hcon : conB a i j = decide (0 ≤ (distL a j).getD i default) := by
    rw [conB_symm hn]
    unfold conB
    rw [okB_true.2 hok, inR_true.2 ⟨by omega, by omega⟩, inR_true.2 ⟨by omega, by omega⟩]; rfl
  unfold pathM
  rw [okB_true.2 hok, inR_true.2 ⟨by omega, by omega⟩, inR_true.2 ⟨by omega, by omega⟩, hcon]
  simp only [Bool.and_self, cond_true, Int.toNat_natCast]
  cases decide (0 ≤ (distL a j).getD i default) <;> rfl
theorem stuck_loop (a : XAirspace) (F : Few10 a) (hok : OKa a) (x : Nat) (ok : Bool) (h1 : ok = false → x = 0) (h2 : ok = false → ∀ i < a.configs.length, ∀ j < a.configs.length, conB a i j = true)
    (h3 : ok = true → x < a.configs.length ∧ conB a 0 x = false ∧ ∀ j < x, conB a 0 j = true) :
    loop1 (m9_overflightlaw10_ConfigsStuck_B0 a ((0 : Int), (x : Int), ok, (0 : Int))) (((a.configs.length : Int) - 0).toNat + 1) 0 = some true := by
  have hn := F.nc
  refine up_list0 (B := m9_overflightlaw10_ConfigsStuck_B0 a ((0 : Int), (x : Int), ok, (0 : Int))) (fun _ => some true) a.configs (by omega) ?_ ?_ (by omega)
  · intro sf; unfold m9_overflightlaw10_ConfigsStuck_B0
    rw [decide_eq_false (Int.lt_irrefl _), cond_false]
    cases ok
    · rw [h1 rfl]; rfl
    · rfl
  · intro sf i y l g1 g2 g3 ih
    unfold m9_overflightlaw10_ConfigsStuck_B0
    rw [decide_eq_true (ipos g1), cond_true]
    refine (up_list0 (B := m9_overflightlaw10_ConfigsStuck_B1 a ((0 : Int), (x : Int), ok, (0 : Int)) i sf) (fun _ => sf ((i : Int) + 1)) a.configs (by omega) ?_ ?_ (by omega)).trans ih
    · intro sf2; unfold m9_overflightlaw10_ConfigsStuck_B1
      rw [decide_eq_false (Int.lt_irrefl _), cond_false, g3]
    · intro sf2 j z l2 k1 k2 k3 ih2
      unfold m9_overflightlaw10_ConfigsStuck_B1
      simp only [decide_eq_true (ipos k1), cond_true, jn_eq, k3]
      rw [m22_eq a F]
      have hp := path_is hn hok g1 k1
      have p1 : (pathM a i j).2.1 = conB a i j := by rw [hp]
      have p2 : (pathM a i j).2.2 = 0 := by rw [hp]
      simp only [Option.bind_some, p1, p2]
      rw [ih2]
      have i0 : ¬ (i : Int) < 0 := by omega
      simp only [decide_eq_false i0, cond_false, ne_eq, not_true_eq_false, decide_false]
      cases ok
      · rw [h2 rfl i g1 j k1]
        cases decide ((i : Int) = 0) <;> cases decide ((j : Int) < (x : Int)) <;> rfl
      · obtain ⟨e1, e2, e3⟩ := h3 rfl
        by_cases ei : i = 0
        · subst ei
          rw [show ((0 : Nat) : Int) = 0 from rfl]
          rw [decide_eq_true (show (0 : Int) = 0 from rfl)]
          by_cases ej : j < x
          · rw [e3 j ej, decide_eq_true (show (j : Int) < x by omega), decide_eq_false (show ¬ (j : Int) = x by omega)]; rfl
          · by_cases ej2 : j = x
            · subst ej2
              rw [e2, decide_eq_false (show ¬ (j : Int) < j by omega), decide_eq_true (show (j : Int) = j from rfl)]; rfl
            · rw [decide_eq_false (show ¬ (j : Int) < x by omega), decide_eq_false (show ¬ (j : Int) = x by omega)]; rfl
        · rw [decide_eq_false (show ¬ (i : Int) = 0 by omega)]; rfl
theorem ConfigsStuck_law (a : XAirspace) (ha : smXAirspace a) : m9_overflightlaw10_ConfigsStuck a = some true := by
  unfold m9_overflightlaw10_ConfigsStuck
  rw [sane10, m12_eq a ha]
  simp only [Option.bind_some, Bool.not_true, cond_false]
  cases hf : fewB a
  · rfl
  have F := Few10.of hf
  have hn := F.nc
  rw [m24_eq a F, m17_eq a F, m15_eq' a F]
  simp only [Option.bind_some, jn_eq, Bool.not_true, cond_false]
  unfold stuckM
  by_cases hok : OKa a
  · have h0 : 0 < a.configs.length := hok.nc1
    have hr : inR a 0 = true := inR_true.2 ⟨by omega, by omega⟩
    have hR : reachM a 0 = (natI (posL a 0), 0) := by unfold reachM; rw [okB_true.2 hok, hr]; rfl
    have hcon : ∀ j < a.configs.length, conB a 0 j = decide (0 ≤ (distL a 0).getD j default) := fun j hj => by
      unfold conB
      rw [okB_true.2 hok, hr, inR_true.2 ⟨by omega, by omega⟩]; rfl
    rw [okB_true.2 hok, hR, cond_true]
    cases hl : lost a 0 with
    | none =>
      have hall := lost_none hl
      have hlen : (posL a 0).length = a.configs.length := by
        unfold posL
        rw [List.filter_eq_self.2 (fun i hi => decide_eq_true (hall i (List.mem_range.1 hi))), List.length_range]
      simp only [natI_len, hlen, Int.lt_irrefl, decide_false]
      have := stuck_loop a F hok 0 false (fun _ => rfl) (fun _ i hi j hj => by
        refine (conB_conn hn hok hi hj).2 ((conn_symm ((dist_ok a hn h0).conn hi |>.1 (hall i hi))).trans ((dist_ok a hn h0).conn hj |>.1 (hall j hj)))) (fun h => by cases h)
      exact this
    | some x =>
      obtain ⟨g1, g2, g3⟩ := lost_some hl
      have hlen : (posL a 0).length < a.configs.length := by
        have : (posL a 0).length < (List.range a.configs.length).length := by
          unfold posL
          exact List.length_filter_lt_length_iff_exists.2 ⟨x, List.mem_range.2 g1, by simp only [decide_eq_true_eq]; omega⟩
        rwa [List.length_range] at this
      simp only [natI_len]
      rw [decide_eq_true (show ((posL a 0).length : Int) < (a.configs.length : Int) by omega)]
      have := stuck_loop a F hok x true (fun h => by cases h) (fun h => by cases h) (fun _ => ⟨g1, by rw [hcon x g1, decide_eq_false (by omega)], fun j hj => by rw [hcon j (by omega), decide_eq_true (g3 j hj)]⟩)
      exact this
  · rw [okB_false hok]; rfl
end Go.Fx



namespace Go.Proofs.Ytolafciahogceaa.lawConfigsStuck
open Go Go.Proofs Go.ChangeShapes Go.WideShapes Go.ChangeAt Go.RowKit Go.Fx
open Go.ChangeMaps (open_string shut_string)
set_option linter.unusedVariables false
set_option maxRecDepth 100000
theorem own : ownKnob Try.prog.godebug = none := by kernel_rfl
theorem laidOut : laidOutB Try.prog = true := by kernel_rfl
set_option maxRecDepth 100000 in
set_option maxHeartbeats 1000000 in
theorem lifted (os : Os) (started : os.Started) (H : Type) (enc : TypeId × Value → H) :
    ReturnsInHanded {} Try.checked os 9 .any (Rows.configsStuckSpec.pre6 enc Try.prog Try.f9 Rows.configsStuckRow.domain false) (Rows.configsStuckSpec.post enc Try.prog Try.f9 false true false false) := by
  refine returnsInHanded_of_change_sized (C := Try.checked) own started (by kernel_rfl) Try.func9
    (ChangeSpec.witness6 (enc := enc) (C := Try.checked) false ⟨#[], #[.agg #[(.slice none 0 0), (.slice none 0 0), (.slice none 0 0), (.slice none 0 0), (.slice none 0 0), (.slice none 0 0), (.slice none 0 0), (.slice none 0 0)]], []⟩ 8 (by kernel_rfl) (by kernel_rfl) (by kernel_rfl) (by kernel_rfl)) ?_
  intro W base args ds gs before hval0 hW hcnd hsz _
  have hval : ∀ (j : Nat) t v, Try.f9.params[j]? = some t → args[j]? = some v → Value.okWide Try.prog W .any base t v := hval0
  have hW' := hW
  obtain ⟨p, q, hA0, hV, rfl, hfz, hnd⟩ := hW
  have hA : DataW.TrodAll enc Try.prog W 0 (fun _ => true) true Try.f9.params.toList args.toList ds p := hA0
  rw [Try.params9] at hA hval
  obtain ⟨v0, vs0, d0, ds0, p0, q0, hargs, rfl, rfl, h0, r0⟩ := trodAll_cons hA
  obtain ⟨rfl, rfl, rfl⟩ := trodAll_nil r0
  obtain rfl : args = #[v0] := by cases args; simp_all
  obtain ⟨rfl, rfl⟩ := trodVars_none hV
  have k0 := h0
  have lt0 : ∀ x ∈ p0, x.block < W.heap.size := by obtain ⟨m, hm⟩ := k0; exact DataW.trod_lt m _ _ _ hm
  obtain ⟨fu0, hf0⟩ := h0
  obtain ⟨a, rr0, sm0⟩ := rd31.2 _ _ _ hf0
  replace sm0 := sm0 (fun n hn => by have := List.all_eq_true.1 hsz n (DataW.weights_mem_each (j := 0) (t := 31) rfl rfl n hn); simpa using this)
  obtain ⟨⟨cs0⟩, rfl, _⟩ := okWide_struct Try.underlying31 (hval 0 31 v0 rfl rfl)
  replace rr0 : rXAirspace.rd W [] cs0 a := rr0
  obtain ⟨_, _, rfl, ⟨a_a_volumes, c_a_volumes, rfl, f_a_volumes⟩, ⟨_, _, rfl, ⟨a_a_sectors, c_a_sectors, rfl, f_a_sectors⟩, ⟨_, _, rfl, ⟨a_a_configs, c_a_configs, rfl, f_a_configs⟩, ⟨_, _, rfl, ⟨a_a_segments, c_a_segments, rfl, f_a_segments⟩, ⟨_, _, rfl, ⟨a_a_routes, c_a_routes, rfl, f_a_routes⟩, ⟨_, _, rfl, ⟨a_a_airports, c_a_airports, rfl, f_a_airports⟩, ⟨_, _, rfl, ⟨a_a_classes, c_a_classes, rfl, f_a_classes⟩, ⟨a_a_rules, c_a_rules, rfl, f_a_rules⟩⟩⟩⟩⟩⟩⟩⟩ := rr0
  have hm : m9_overflightlaw10_ConfigsStuck a = some true := ConfigsStuck_law _ sm0
  have hc := Fn.calls (c9_overflightlaw10_ConfigsStuck (a := a) (w := W) (O := []) (by simp) f_a_volumes f_a_sectors f_a_configs f_a_segments f_a_routes f_a_airports f_a_classes f_a_rules hm)
  clear hA0 hval0
  refine Calls.mono hc ?_
  rintro e W' ⟨v, rfl, bel, hv⟩
  replace bel := bel.below; obtain rfl : v = .bool true := hv
  exact ⟨_, rfl, _, _, _, [], _, [], hW', trodAll_mk1 (shut_bool Try.underlying4 _), (trodAll_cons_mk (Below.trod laidOut (by kernel_rfl) (of_decide_eq_true (by kernel_rfl)) k0 bel lt0) trodAll_mk0), rfl, bel.frame _, fun h => by cases h⟩
theorem over : Rows.configsStuckRow.holds Try.pinned (OpenSpec.ofChange Rows.configsStuckSpec) :=
  OpenClaim.holds_of_wide 9 Try.f9 rfl rfl rfl rfl rfl rfl rfl ⟨rfl, rfl, rfl, rfl, rfl⟩ rfl rfl rfl rfl rfl (by kernel_rfl) Try.func9 (by kernel_rfl)
    (of_decide_eq_true (by kernel_rfl)) (by unfold Func.isWrapper; first | (rw [if_pos (by decide +kernel)]; kernel_rfl) | (rw [if_neg (by decide +kernel)]; exact ⟨rfl, rfl⟩))
    (fun os started H enc _ => lifted os started H enc)
theorem proved : Rows.ConfigsStuckSaid := over
end Go.Proofs.Ytolafciahogceaa.lawConfigsStuck


