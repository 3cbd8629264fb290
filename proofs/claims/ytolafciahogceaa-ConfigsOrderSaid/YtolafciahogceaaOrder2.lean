/- Part 2 of the proof: the order in which volumes and sectors are listed changes no step, nothing that is reached and no sector of a volume, for every airspace. -/
import Derived.Test.YtolafciahogceaaOrder1
import Derived.Maps.RangeRun
import Derived.Test.YtolafciahogceaaChecked
import Derived.Test.YtolafciahogceaaRows
import Derived.WalkKit
import Derived.ShutString
/- Ranges over maps: whatever the order, the same comes out. No program in sight. -/
set_option linter.unusedSimpArgs false
set_option linter.unusedVariables false
namespace Go.Fx
open Go Go.RowKit
/-! models -/
section model
variable {α β σ R : Type}
/-- each element with what is left -/
def picks : List α → List (α × List α)
  | [] => []
  | x :: t => (x, t) :: (picks t).map fun p => (p.1, x :: p.2)
theorem mem_picks {xs : List α} {p : α × List α} : p ∈ picks xs ↔ ∃ r1 r2, xs = r1 ++ p.1 :: r2 ∧ p.2 = r1 ++ r2 := by
  induction xs generalizing p with
  | nil => simp [picks]
  | cons x t ih =>
    simp only [picks, List.mem_cons, List.mem_map]
    constructor
    · rintro (rfl | ⟨q, hq, rfl⟩)
      · exact ⟨[], t, rfl, rfl⟩
      · obtain ⟨r1, r2, e1, e2⟩ := ih.1 hq
        exact ⟨x :: r1, r2, by simp [e1], by simp [e2]⟩
    · rintro ⟨r1, r2, e1, e2⟩
      cases r1 with
      | nil =>
        left
        have := List.cons.inj e1
        obtain ⟨a, b⟩ := p
        simp at e2 this
        rw [this.1, this.2, e2]
      | cons y r1 =>
        right
        have := List.cons.inj e1
        refine ⟨(p.1, r1 ++ r2), ih.2 ⟨r1, r2, this.2, rfl⟩, ?_⟩
        obtain ⟨a, b⟩ := p
        simp at e2 this ⊢
        rw [this.1, e2]
theorem mem_picks_length {xs : List α} {p : α × List α} (h : p ∈ picks xs) : xs.length = p.2.length + 1 := by
  obtain ⟨r1, r2, e1, e2⟩ := mem_picks.1 h
  rw [e1, e2]; simp; omega
/-- what all say -/
def allSame [DecidableEq R] : List (Option R) → Option R
  | [] => none
  | r :: t => r.bind fun a => bif t.all (fun u => decide (u = some a)) then some a else none
theorem allSame_iff [DecidableEq R] {L : List (Option R)} {a : R} : allSame L = some a ↔ L ≠ [] ∧ ∀ u ∈ L, u = some a := by
  cases L with
  | nil => simp [allSame]
  | cons r t =>
    cases r with
    | none => simp [allSame]
    | some b =>
      simp only [allSame, Option.bind_some]
      cases h : t.all (fun u => decide (u = some b))
      · simp only [cond_false, reduceCtorEq, false_iff]
        rintro ⟨_, h2⟩
        have e : b = a := Option.some.inj (h2 (some b) (by simp))
        subst e
        have : t.all (fun u => decide (u = some b)) = true := List.all_eq_true.2 fun u hu => by simpa using h2 u (by simp [hu])
        rw [h] at this; cases this
      · simp only [cond_true, Option.some.injEq]
        have h' : ∀ u ∈ t, u = some b := fun u hu => by simpa using List.all_eq_true.1 h u hu
        constructor
        · rintro rfl; exact ⟨by simp, fun u hu => (List.mem_cons.1 hu).elim id (h' u)⟩
        · rintro ⟨_, h2⟩; exact Option.some.inj (h2 (some b) (by simp))
/-- a loop over a list, in whatever order: said only where all orders come to the same -/
def mrngN [DecidableEq R] (b : (σ → Option R) → α → σ → Option R) (k : σ → Option R) : Nat → List α → σ → Option R
  | 0, _, s => k s
  | n + 1, xs, s => allSame ((picks xs).map fun p => b (mrngN b k n p.2) p.1 s)
def mrng [DecidableEq R] (b : (σ → Option R) → α → σ → Option R) (k : σ → Option R) (xs : List α) : σ → Option R := mrngN b k xs.length xs
theorem mrng_s [DecidableEq R] {b : (σ → Option R) → α → σ → Option R} {k : σ → Option R} {s : σ} {x : R} {r1 r2 : List α} {p : α} (h : mrng b k (r1 ++ p :: r2) s = some x) : ∃ sf, sf = mrng b k (r1 ++ r2) ∧ b sf p s = some x := by
  refine ⟨_, rfl, ?_⟩
  unfold mrng at h
  rw [show (r1 ++ p :: r2).length = (r1 ++ r2).length + 1 by simp; omega] at h
  exact (allSame_iff.1 h).2 _ (List.mem_map.2 ⟨(p, r1 ++ r2), mem_picks.2 ⟨r1, r2, rfl, rfl⟩, rfl⟩)
theorem mrngN_perm [DecidableEq R] (b : (σ → Option R) → α → σ → Option R) (k : σ → Option R) : ∀ (n : Nat) {l xs : List α}, l.length = n → l.Perm xs → mrngN b k n l = mrngN b k n xs := by
  intro n
  induction n with
  | zero => intro l xs hl h; rfl
  | succ n ih =>
    intro l xs hl h
    have one : ∀ {l xs : List α}, l.length = n + 1 → l.Perm xs → ∀ s a, mrngN b k (n + 1) l s = some a → mrngN b k (n + 1) xs s = some a := by
      intro l xs hl h s a ha
      have := allSame_iff.1 ha
      refine allSame_iff.2 ⟨?_, fun u hu => ?_⟩
      · intro e
        have e2 : picks xs = [] := List.map_eq_nil_iff.1 e
        cases xs with
        | nil => rw [h.length_eq] at hl; cases hl
        | cons x t => simp [picks] at e2
      · obtain ⟨p, hp, rfl⟩ := List.mem_map.1 hu
        obtain ⟨r1, r2, e1, e2⟩ := mem_picks.1 hp
        have hm : p.1 ∈ l := h.mem_iff.2 (by rw [e1]; simp)
        obtain ⟨l1, l2, e3⟩ := List.append_of_mem hm
        have hp2 : (l1 ++ l2).Perm (r1 ++ r2) := by
          have : (p.1 :: (l1 ++ l2)).Perm (p.1 :: (r1 ++ r2)) := by
            have h3 := h
            rw [e1, e3] at h3
            exact List.perm_middle.symm.trans (h3.trans List.perm_middle)
          exact List.Perm.cons_inv this
        have hn : (l1 ++ l2).length = n := by rw [e3] at hl; simp at hl ⊢; omega
        rw [e2, ← ih hn hp2]
        exact this.2 _ (List.mem_map.2 ⟨(p.1, l1 ++ l2), mem_picks.2 ⟨l1, l2, e3, rfl⟩, rfl⟩)
    funext s
    have h2 := one hl h s
    have h3 := one (h.symm.length_eq.trans hl) h.symm s
    cases e : mrngN b k (n + 1) l s with
    | some a => exact (h2 a e).symm
    | none => cases e' : mrngN b k (n + 1) xs s with
      | none => rfl
      | some a => rw [h3 a e'] at e; cases e
theorem mrng_perm [DecidableEq R] {b : (σ → Option R) → α → σ → Option R} {k : σ → Option R} {l xs : List α} (h : l.Perm xs) : mrng b k l = mrng b k xs := by
  unfold mrng; rw [h.length_eq]; exact mrngN_perm b k _ h.length_eq h
/-- steps that may change places -/
theorem mrng_fold [DecidableEq R] {b : (σ → Option R) → α → σ → Option R} {k : σ → Option R} {f : α → σ → σ} : ∀ {xs : List α} (_ : ∀ sf, ∀ x ∈ xs, ∀ s, b sf x s = sf (f x s)) (_ : ∀ x ∈ xs, ∀ y ∈ xs, ∀ s, f y (f x s) = f x (f y s)) (s : σ), mrng b k xs s = k (xs.foldl (fun s x => f x s) s) := by
  intro xs
  generalize hn : xs.length = n
  induction n generalizing xs with
  | zero => intro _ _ s; rw [List.length_eq_zero_iff.1 hn]; rfl
  | succ n ih =>
    intro hb hc s
    have front : ∀ (r1 r2 : List α) (p : α) (s : σ), (∀ x ∈ r1, ∀ s, f x (f p s) = f p (f x s)) → (r1 ++ r2).foldl (fun s x => f x s) (f p s) = (r1 ++ p :: r2).foldl (fun s x => f x s) s := by
      intro r1 r2 p s h
      have : ∀ s, r1.foldl (fun s x => f x s) (f p s) = f p (r1.foldl (fun s x => f x s) s) := by
        clear hn hb hc
        induction r1 with
        | nil => intro s; rfl
        | cons y t ih =>
          intro s
          simp only [List.foldl_cons]
          rw [h y (by simp), ih fun x hx => h x (by simp [hx])]
      rw [List.foldl_append, List.foldl_append, List.foldl_cons, this]
    have key : ∀ u ∈ (picks xs).map (fun p => b (mrngN b k n p.2) p.1 s), u = k (xs.foldl (fun s x => f x s) s) := by
      intro u hu
      obtain ⟨p, hp, rfl⟩ := List.mem_map.1 hu
      obtain ⟨r1, r2, e1, e2⟩ := mem_picks.1 hp
      have hpx : p.1 ∈ xs := by rw [e1]; simp
      have hsub : ∀ x ∈ p.2, x ∈ xs := by
        intro x hx; rw [e2] at hx; rw [e1]
        rcases List.mem_append.1 hx with h | h
        · exact List.mem_append_left _ h
        · exact List.mem_append_right _ (List.mem_cons_of_mem _ h)
      have hl : p.2.length = n := by have := mem_picks_length hp; omega
      rw [hb _ _ hpx]
      have := ih hl (fun sf x hx s => hb sf x (hsub x hx) s) (fun x hx y hy s => hc x (hsub x hx) y (hsub y hy) s) (f p.1 s)
      unfold mrng at this
      rw [hl] at this
      rw [this, e2]
      rw [front r1 r2 p.1 s (fun x hx s => hc p.1 hpx x (by rw [e1]; exact List.mem_append_left _ hx) s)]
      rw [← e1]
    unfold mrng
    rw [hn]
    show allSame ((picks xs).map fun p => b (mrngN b k n p.2) p.1 s) = _
    cases e : k (xs.foldl (fun s x => f x s) s) with
    | some a =>
      rw [e] at key
      refine allSame_iff.2 ⟨?_, key⟩
      intro e2
      have e2 : picks xs = [] := List.map_eq_nil_iff.1 e2
      cases xs with
      | nil => cases hn
      | cons x t => simp [picks] at e2
    | none =>
      rw [e] at key
      cases e2 : allSame ((picks xs).map fun p => b (mrngN b k n p.2) p.1 s) with
      | none => rfl
      | some a =>
        have := allSame_iff.1 e2
        cases hL : (picks xs).map fun p => b (mrngN b k n p.2) p.1 s with
        | nil => exact absurd hL this.1
        | cons u t =>
          have h1 := this.2 u (by rw [hL]; simp)
          have h2 := key u (by rw [hL]; simp)
          rw [h1] at h2; cases h2
section curry
variable [DecidableEq R] {A0 A1 A2 A3 : Type}
def mrng1 (b : (A0 → Option R) → α → A0 → Option R) (k : A0 → Option R) (xs : List α) : A0 → Option R := mrng b k xs
variable {x : R} {a0 : A0} {a1 : A1} {a2 : A2} {a3 : A3} {r1 r2 : List α} {p : α}
theorem mrng1_z {b : (A0 → Option R) → α → A0 → Option R} {k : A0 → Option R} (h : mrng1 b k [] a0 = some x) : k a0 = some x := h
theorem mrng1_s {b : (A0 → Option R) → α → A0 → Option R} {k : A0 → Option R} (h : mrng1 b k (r1 ++ p :: r2) a0 = some x) : ∃ sf, sf = mrng1 b k (r1 ++ r2) ∧ b sf p a0 = some x := mrng_s h
theorem mrng1_perm {b : (A0 → Option R) → α → A0 → Option R} {k : A0 → Option R} {l xs : List α} (h : l.Perm xs) : mrng1 b k l = mrng1 b k xs := mrng_perm h
end curry
end model
/-! what stands in memory -/
section mem
variable {V : Type} {q : IntKind} {m : Mv V} {om oi : Obj} {xs rem : List (Int × V)}
/-- the iterator oi over the map om in block b: what came last, what is left -/
def Mit (q : IntKind) (m : Mv V) (om oi : Obj) (b : Nat) (last : Option (Int × V)) (rem : List (Int × V)) : Prop :=
  ∃ es clock l since seen c0, om = .map es clock ∧ MapIs q m es clock l ∧ (l.Pairwise fun e f => e.1 ≠ f.1) ∧ oi = .mapIter (some b) since seen c0 ∧ (∀ e ∈ l, e.2.2 < since) ∧ since ≤ c0 ∧ since ≤ clock ∧
    rem = ((l.filter fun e => !seen.contains e.2.2).map fun e => (e.1, e.2.1)) ∧ (last = none ∨ ∃ e ∈ l, ∃ seen', seen = Array.push seen' e.2.2 ∧ last = some (e.1, e.2.1) ∧ c0 = clock)
theorem Mo.perm {es : Array MapEntry} {clock : Nat} {l : List (Int × V × Nat)} (hd : l.Pairwise fun e f => e.1 ≠ f.1) (hp : ∀ n x, (∃ b, (n, x, b) ∈ l) ↔ (n, x) ∈ xs) (hr : Ris xs) : (l.map fun e => (e.1, e.2.1)).Perm xs := by
  refine (List.perm_ext_iff_of_nodup ?_ (ris_nodup hr)).2 fun p => ?_
  · rw [List.nodup_iff_pairwise_ne, List.pairwise_map]; exact hd.imp fun h e => h (Prod.mk.inj e).1
  · rw [← hp p.1 p.2]; simp only [List.mem_map]
    constructor
    · rintro ⟨e, he, rfl⟩; exact ⟨e.2.2, he⟩
    · rintro ⟨b, hb⟩; exact ⟨(p.1, p.2, b), hb, rfl⟩
theorem Mit.start {b : Nat} (h : Mo q m om xs) : ∃ es clock rem, om = .map es clock ∧ Mit q m om (.mapIter (some b) clock #[] clock) b none rem ∧ rem.Perm xs := by
  obtain ⟨es, clock, l, rfl, hM, hd, hp, hr⟩ := h
  refine ⟨es, clock, l.map fun e => (e.1, e.2.1), rfl, ⟨es, clock, l, clock, #[], clock, rfl, hM, hd, rfl, hM.lt, Nat.le_refl _, Nat.le_refl _, ?_, .inl rfl⟩, Mo.perm (es := es) (clock := clock) hd hp hr⟩
  congr 1
  exact (List.filter_eq_self.2 fun e _ => by simp).symm
variable {P : Program} {w : World} {b r : Nat} {last : Option (Int × V)} {ty : TypeId}
theorem run_nextM (h : Mit q m om oi b last rem) (hm : w.heap[b]? = some om) (hi : w.heap[r]? = some oi) :
    (rem = [] ∧ (Instr.next (.pointer (some ⟨r, 0, none⟩)) false ty).run P w = .ok (.tuple #[.bool false]) w) ∨
    ∃ p r1 r2 oi' w1, rem = r1 ++ p :: r2 ∧ (w1 = w ∨ w1 = w.drew) ∧ (Instr.next (.pointer (some ⟨r, 0, none⟩)) false ty).run P w = .ok (.tuple #[.bool true, .int q p.1, m.enc p.2]) (w1.putObj r oi') ∧ Mit q m om oi' b (some p) (r1 ++ r2) ∧ InK q p.1 ∧ m.ok p.2 := by
  obtain ⟨es, clock, l, since, seen, c0, rfl, hM, hd, rfl, hs, hsc, hcl, hrem, _⟩ := h
  have hold : ∀ x ∈ es.toList, x.born < since := fun x hx => by
    rw [hM.eq] at hx
    obtain ⟨e, he, rfl⟩ := List.mem_map.1 hx
    exact hs e he
  have hleft : (leftOf es seen).toList = (l.filter fun e => !seen.contains e.2.2).map fun e => (⟨.int q e.1, m.enc e.2.1, e.2.2⟩ : MapEntry) := by
    unfold leftOf
    rw [Array.toList_filter, hM.eq, List.filter_map]
    rfl
  rcases run_next_at (P := P) w ty r b since c0 seen es clock hi hm hold hsc with ⟨h1, h2⟩ | ⟨e, he, w1, hw1, h2⟩
  · left
    refine ⟨?_, h2⟩
    have : (leftOf es seen).toList = [] := by rw [List.eq_nil_iff_length_eq_zero, Array.length_toList]; exact h1
    rw [hleft] at this
    rw [hrem]
    simpa using this
  · right
    rw [hleft] at he
    obtain ⟨e', he', rfl⟩ := List.mem_map.1 he
    have hel : e' ∈ l := (List.mem_filter.1 he').1
    have hes : seen.contains e'.2.2 = false := by have := (List.mem_filter.1 he').2; simpa using this
    obtain ⟨l1, l2, hl⟩ := List.append_of_mem hel
    have hb := hM.born
    rw [hl, List.pairwise_append] at hb
    have hn1 : ∀ f ∈ l1, ¬ f.2.2 = e'.2.2 := fun f hf => by have := hb.2.2 f hf e' (by simp); omega
    have hn2 : ∀ f ∈ l2, ¬ f.2.2 = e'.2.2 := fun f hf => by have := (List.pairwise_cons.1 hb.2.1).1 f hf; omega
    have fpush : ∀ f : Int × V × Nat, (!(seen.push e'.2.2).contains f.2.2) = (!seen.contains f.2.2 && !decide (f.2.2 = e'.2.2)) := fun f => by
      simp only [Array.contains_push]
      by_cases h : f.2.2 = e'.2.2 <;> simp [h]
    have hfil : ∀ t : List (Int × V × Nat), (∀ f ∈ t, ¬ f.2.2 = e'.2.2) → t.filter (fun f => !(seen.push e'.2.2).contains f.2.2) = t.filter (fun f => !seen.contains f.2.2) := fun t ht => by
      apply List.filter_congr
      intro f hf
      rw [fpush]; simp [ht f hf]
    have hw1b : ∀ k : Nat, w1.heap[k]? = w.heap[k]? := fun k => by rcases hw1 with rfl | rfl <;> rfl
    refine ⟨(e'.1, e'.2.1), (l1.filter fun f => !seen.contains f.2.2).map fun e => (e.1, e.2.1), (l2.filter fun f => !seen.contains f.2.2).map fun e => (e.1, e.2.1), .mapIter (some b) since (seen.push e'.2.2) clock, w1, ?_, hw1, ?_, ?_, hM.ok e' hel⟩
    · rw [hrem, hl]
      rw [List.filter_append, List.filter_cons_of_pos (by simpa using hes), List.map_append, List.map_cons]
    · exact h2
    · refine ⟨es, clock, l, since, seen.push e'.2.2, clock, rfl, hM, hd, rfl, hs, hcl, hcl, ?_, .inr ⟨e', hel, seen, rfl, rfl, rfl⟩⟩
      rw [hl, List.filter_append, List.filter_cons_of_neg (by rw [fpush]; simp), hfil l1 hn1, hfil l2 hn2, List.map_append]
theorem run_entryM {p : Int × V} (h : Mit q m om oi b (some p) rem) (hm : w.heap[b]? = some om) (hi : w.heap[r]? = some oi) :
    (Instr.entry (.pointer (some ⟨r, 0, none⟩))).run P w = .ok (.tuple #[.int q p.1, m.enc p.2]) w := by
  obtain ⟨es, clock, l, since, seen, c0, rfl, hM, hd, rfl, hs, hsc, hcl, hrem, hl⟩ := h
  rcases hl with hl | ⟨e, he, seen', rfl, hl, rfl⟩
  · cases hl
  cases hl
  have hmem : (⟨.int q e.1, m.enc e.2.1, e.2.2⟩ : MapEntry) ∈ es.toList := by rw [hM.eq]; exact List.mem_map.2 ⟨e, he, rfl⟩
  have hnd : (es.toList.map (·.born)).Nodup := by
    rw [hM.eq, List.map_map, List.nodup_iff_pairwise_ne, List.pairwise_map]
    exact hM.born.imp fun h => Nat.ne_of_lt h
  have hf : es.find? (·.born == e.2.2) = some ⟨.int q e.1, m.enc e.2.1, e.2.2⟩ := by rw [← Array.find?_toList]; exact find_born _ es.toList hnd hmem
  simp only [Instr.entry, getObj, Sem.run_bind, Sem.run, hi, hm, Result.andThen, Array.back?_push, hf]
  simp
end mem
section own
variable {V : Type} {q : IntKind} {m : Mv V} {P : Program} {r : Option Nat} {ρ : Env} {w w' : World} {d : Option Nat} {ty : TypeId} {pos : String} {aft : Array Edge} {g : Option (Nat × Bool)} {Vv : Value → World → Prop}
variable {z0 : Zx} {O0 O O' : List Nat} {bs : Ents} {x : Operand} {t kt e : TypeId} {v : Value} {oi : Obj} {last : Option (Int × V)} {xs rem : List (Int × V)}
/-- the iterator oi over a map that is only read -/
def MitR (q : IntKind) (m : Mv V) (w : World) (O : List Nat) (v : Value) (oi : Obj) (last : Option (Int × V)) (rem : List (Int × V)) : Prop :=
  ∃ b om, v = .map (some b) ∧ Sh w O b ∧ w.heap[b]? = some om ∧ Mit q m om oi b last rem
theorem MitR.step (h : MitR q m w O v oi last rem) (s : Step O w O' w') : MitR q m w' O' v oi last rem := by
  obtain ⟨b, o, h1, h2, h3, h4⟩ := h
  exact ⟨b, o, h1, h2.step s, by rw [(s.keep b h2.lt h2.no).2]; exact h3, h4⟩
theorem Mit.any {om : Obj} {b : Nat} (h : Mit q m om oi b last rem) : Mit q m om oi b none rem := by
  obtain ⟨es, clock, l, since, seen, c0, h1, h2, h3, h4, h5, h6, h7, h8, _⟩ := h
  exact ⟨es, clock, l, since, seen, c0, h1, h2, h3, h4, h5, h6, h7, h8, .inl rfl⟩
theorem MitR.any (h : MitR q m w O v oi last rem) : MitR q m w O v oi none rem := by
  obtain ⟨b, o, h1, h2, h3, h4⟩ := h
  exact ⟨b, o, h1, h2, h3, h4.any⟩
/-- range m -/
theorem op_rangeM (hu : P.underlying t = some (.map kt e)) (hs : St z0 O0 w bs) (h : MpR q m w (ks bs O0) v xs) (hx : ev ρ x = v)
    (k : ∀ bl oi rem w', Step (ks bs O0) w (ks ((some bl, oi) :: bs) O0) w' → St z0 O0 w' ((some bl, oi) :: bs) → MitR q m w' (ks ((some bl, oi) :: bs) O0) v oi none rem → rem.Perm xs → Vv (.pointer (some ⟨bl, 0, none⟩)) w') :
    Run1 P r ρ w ⟨d, .range t x, ty, pos, aft, g⟩ Vv := by
  obtain ⟨b, o, rfl, hsh, hb, hM⟩ := h
  obtain ⟨es, clock, rem, rfl, hit, hp⟩ := Mit.start (b := b) hM
  have hs' := Step.alloc w O0 bs (.mapIter (some b) clock #[] clock)
  refine run1_value (v := .pointer (some ⟨w.heap.size, 0, none⟩)) (w' := w.alloc (.mapIter (some b) clock #[] clock)) (by simp) ?_ (k _ _ rem _ hs' (hs.alloc _) (MitR.step ⟨b, _, rfl, hsh, hb, hit⟩ hs') hp)
  simp [execOp, hx, Instr.range, run_underlying hu, run_goM hb]
/-- the next one, whichever it is -/
theorem op_nextM {i b : Nat} (hs : St z0 O0 w bs) (hi : bs[i]? = some (some b, oi)) (h : MitR q m w (ks bs O0) v oi last rem) (hx : ev ρ x = .pointer (some ⟨b, 0, none⟩))
    (k0 : rem = [] → Vv (.tuple [Value.bool false].toArray) w)
    (k1 : ∀ p r1 r2 oi' w', rem = r1 ++ p :: r2 → Step (ks bs O0) w (ks (bs.set i (some b, oi')) O0) w' → St z0 O0 w' (bs.set i (some b, oi')) → MitR q m w' (ks (bs.set i (some b, oi')) O0) v oi' (some p) (r1 ++ r2) → InK q p.1 → m.ok p.2 → Vv (.tuple [Value.bool true, .int q p.1, m.enc p.2].toArray) w') :
    Run1 P r ρ w ⟨d, .next x false, ty, pos, aft, g⟩ Vv := by
  obtain ⟨bm, om, rfl, hsh, hb, hit⟩ := h
  rcases run_nextM (P := P) (w := w) (r := b) (ty := ty) hit hb (hs.get hi) with ⟨h0, h1⟩ | ⟨p, r1, r2, oi', w1, hr, hw1, h1, h2, h3, h4⟩
  · refine run1_value (by simp) ?_ (k0 h0)
    simp [execOp, hx, h1]
  · have he : Ext w w1 := by rcases hw1 with rfl | rfl; exact Ext.refl _; exact Ext.drew _
    have hs1 := hs.call he
    obtain ⟨h5, h6⟩ := hs1.putObj hi oi'
    have h7 := (Step.ext (O := ks bs O0) he).trans h6
    have hsh' := hsh.step h7
    refine run1_value (by simp) ?_ (k1 p r1 r2 oi' _ hr h7 h5 ⟨bm, om, rfl, hsh', ?_, h2⟩ h3 h4)
    · simp [execOp, hx, h1]
    · rw [(h7.keep bm hsh.lt hsh.no).2]; exact hb
/-- the one that came last -/
theorem op_entryM {i b : Nat} {p : Int × V} (hs : St z0 O0 w bs) (hi : bs[i]? = some (some b, oi)) (h : MitR q m w (ks bs O0) v oi (some p) rem) (hx : ev ρ x = .pointer (some ⟨b, 0, none⟩))
    (k : Vv (.tuple [Value.int q p.1, m.enc p.2].toArray) w) : Run1 P r ρ w ⟨d, .entry x, ty, pos, aft, g⟩ Vv := by
  obtain ⟨bm, om, rfl, hsh, hb, hit⟩ := h
  refine run1_value (by simp) ?_ k
  simp [execOp, hx, run_entryM hit hb (hs.get hi)]
/-- make([]T, N), T of several cells, N given -/
theorem op_makeSliceK {α : Type} {td : TypeDesc} {q : Rp α} {e : TypeId} {bt : Nat} {tz zs : List Value} {ta ag : Bool} {kl kc : IntKind} {N n b : Nat} {cs : List Value} {xs : List α} {y : Operand} (T : Ty P t (.slice e) 1 bt tz ta) (E : Ty P e td n b zs ag) (hs : St z0 O0 w bs)
    (hx : ev ρ x = .int kl (N : Int)) (hy : ev ρ y = .int kc (N : Int)) (hb : b * N ≤ 281474976710656) (hN : N ≤ maxLen) (hcs : madeCells zs.toArray (N * n) = cs.toArray) (hq : q.n = n) (hl : xs.length = N) (hels : ∀ w O, Els q w O cs xs)
    (k : ∀ bl w', Ext w w' → Step (ks bs O0) w (ks ((some bl, .cells cs.toArray e) :: bs) O0) w' → St z0 O0 w' ((some bl, .cells cs.toArray e) :: bs) →
      Gs q e w' (ks ((some bl, .cells cs.toArray e) :: bs) O0) (some ⟨bl, 0, none⟩) N xs (some bl) (.cells cs.toArray e) → Vv (.slice (some ⟨bl, 0, none⟩) xs.length N) w') :
    Run1 P r ρ w ⟨d, .makeSlice t x y, ty, pos, aft, g⟩ Vv := by
  obtain ⟨i, h1, h2, h3, zv, h4, h5⟩ := E.info
  have hlen : cs.length = N * q.n := by rw [(hels w []).len, hl]
  have hG : Gs q e (w.alloc (.cells cs.toArray e)) (ks ((some w.heap.size, .cells cs.toArray e) :: bs) O0) (some ⟨w.heap.size, 0, none⟩) N xs (some w.heap.size) (.cells cs.toArray e) :=
    Gs.made (by simpa using hlen) (by omega) hN (by
      rw [hl, ← hlen]; simp only [List.take_length]; exact hels _ _)
  refine run1_value (v := .slice (some ⟨w.heap.size, 0, none⟩) N N) (w' := w.alloc (.cells cs.toArray e)) (by simp) ?_ (by have := k _ _ (Ext.alloc w _) (Step.alloc w O0 bs _) (hs.alloc _) hG; rwa [hl] at this)
  have := run_make (P := P) w t e i zv T.und h1 h4 kl kc N N (Int.natCast_nonneg N) (Int.le_refl _) (by rw [h3, ← Int.natCast_mul]; exact Int.ofNat_le.2 hb) (by unfold maxLen at hN; omega)
  simp only [Int.toNat_natCast, h2, h5] at this
  simp only [execOp, hx, hy, Sem.run_bind, this, Result.andThen_ok, Sem.run_pure, hcs]
end own
end Go.Fx



set_option linter.unusedVariables false
set_option linter.unusedSimpArgs false
set_option maxRecDepth 100000
set_option maxHeartbeats 0
namespace Go.Fx
open Go Go.RowKit Go.Proofs
structure XSector where
  name : List UInt8
  names : List (List UInt8)
  volumes : List Int
  radar : Int
  procedural : Int
  deriving Inhabited, DecidableEq
def rXSector : Rp XSector := rVia (fun d => (d.name, d.names, d.volumes, d.radar, d.procedural)) (rPair rStr (rPair (rSl rStr) (rPair (rSl (rInt .i64)) (rPair (rInt .i64) (rInt .i64)))))
structure XSpan where
  from_ : Int
  to : Int
  deriving Inhabited, DecidableEq
def rXSpan : Rp XSpan := rVia (fun d => (d.from_, d.to)) (rPair (rInt .i64) (rInt .i64))
structure XVolume where
  name : List UInt8
  closed : List XSpan
  deriving Inhabited, DecidableEq
def rXVolume : Rp XVolume := rVia (fun d => (d.name, d.closed)) (rPair rStr (rSl rXSpan))
structure XConfig where
  name : List UInt8
  names : List (List UInt8)
  sectors : List Int
  deriving Inhabited, DecidableEq
def rXConfig : Rp XConfig := rVia (fun d => (d.name, d.names, d.sectors)) (rPair rStr (rPair (rSl rStr) (rSl (rInt .i64))))
structure XSegment where
  name : List UInt8
  in_ : List UInt8
  volume : Int
  length : Int
  open_ : List XSpan
  deriving Inhabited, DecidableEq
def rXSegment : Rp XSegment := rVia (fun d => (d.name, d.in_, d.volume, d.length, d.open_)) (rPair rStr (rPair rStr (rPair (rInt .i64) (rPair (rInt .i64) (rSl rXSpan)))))
structure XRoute where
  name : List UInt8
  a : List UInt8
  b : List UInt8
  from_ : Int
  to : Int
  names : List (List UInt8)
  segments : List Int
  deriving Inhabited, DecidableEq
def rXRoute : Rp XRoute := rVia (fun d => (d.name, d.a, d.b, d.from_, d.to, d.names, d.segments)) (rPair rStr (rPair rStr (rPair rStr (rPair (rInt .i64) (rPair (rInt .i64) (rPair (rSl rStr) (rSl (rInt .i64))))))))
structure XMode where
  name : List UInt8
  places : Int
  deriving Inhabited, DecidableEq
def rXMode : Rp XMode := rVia (fun d => (d.name, d.places)) (rPair rStr (rInt .i64))
structure XAirport where
  name : List UInt8
  modes : List XMode
  deriving Inhabited, DecidableEq
def rXAirport : Rp XAirport := rVia (fun d => (d.name, d.modes)) (rPair rStr (rSl rXMode))
structure XClass where
  name : List UInt8
  slow : Int
  fast : Int
  places : Int
  deriving Inhabited, DecidableEq
def rXClass : Rp XClass := rVia (fun d => (d.name, d.slow, d.fast, d.places)) (rPair rStr (rPair (rInt .i64) (rPair (rInt .i64) (rInt .i64))))
structure XRule where
  kind : Int
  c : List UInt8
  a : List UInt8
  class_ : Int
  airport : Int
  n : Int
  hours : XSpan
  deriving Inhabited, DecidableEq
def rXRule : Rp XRule := rVia (fun d => (d.kind, d.c, d.a, d.class_, d.airport, d.n, d.hours)) (rPair (rInt .i64) (rPair rStr (rPair rStr (rPair (rInt .i64) (rPair (rInt .i64) (rPair (rInt .i64) rXSpan))))))
structure XAirspace where
  volumes : List XVolume
  sectors : List XSector
  configs : List XConfig
  segments : List XSegment
  routes : List XRoute
  airports : List XAirport
  classes : List XClass
  rules : List XRule
  deriving Inhabited, DecidableEq
def rXAirspace : Rp XAirspace := rVia (fun d => (d.volumes, d.sectors, d.configs, d.segments, d.routes, d.airports, d.classes, d.rules)) (rPair (rSl rXVolume) (rPair (rSl rXSector) (rPair (rSl rXConfig) (rPair (rSl rXSegment) (rPair (rSl rXRoute) (rPair (rSl rXAirport) (rPair (rSl rXClass) (rSl rXRule))))))))
theorem ty50 : Ty Try.prog 50 (.struct #[{ name := "Name", type := 9, offset := 0, embedded := false, tag := "", pkgPath := "", byteOffset := 0 }, { name := "Names", type := 48, offset := 1, embedded := false, tag := "", pkgPath := "", byteOffset := 16 }, { name := "Volumes", type := 39, offset := 2, embedded := false, tag := "", pkgPath := "", byteOffset := 40 }, { name := "Radar", type := 3, offset := 3, embedded := false, tag := "", pkgPath := "", byteOffset := 64 }, { name := "Procedural", type := 3, offset := 4, embedded := false, tag := "", pkgPath := "", byteOffset := 72 }]) 5 80 [(.string ⟨#[]⟩), (.slice none 0 0), (.slice none 0 0), (.int .i64 0), (.int .i64 0)] true :=
  ⟨Try.underlying50, ⟨Try.t50, info_of Try.type50, rfl, rfl, _, rfl, rfl⟩, Try.isAgg50, rfl⟩
theorem ty31 : Ty Try.prog 31 (.struct #[{ name := "Volumes", type := 22, offset := 0, embedded := false, tag := "", pkgPath := "", byteOffset := 0 }, { name := "Sectors", type := 23, offset := 1, embedded := false, tag := "", pkgPath := "", byteOffset := 24 }, { name := "Configs", type := 24, offset := 2, embedded := false, tag := "", pkgPath := "", byteOffset := 48 }, { name := "Segments", type := 25, offset := 3, embedded := false, tag := "", pkgPath := "", byteOffset := 72 }, { name := "Routes", type := 26, offset := 4, embedded := false, tag := "", pkgPath := "", byteOffset := 96 }, { name := "Airports", type := 27, offset := 5, embedded := false, tag := "", pkgPath := "", byteOffset := 120 }, { name := "Classes", type := 28, offset := 6, embedded := false, tag := "", pkgPath := "", byteOffset := 144 }, { name := "Rules", type := 29, offset := 7, embedded := false, tag := "", pkgPath := "", byteOffset := 168 }]) 8 192 [(.slice none 0 0), (.slice none 0 0), (.slice none 0 0), (.slice none 0 0), (.slice none 0 0), (.slice none 0 0), (.slice none 0 0), (.slice none 0 0)] true :=
  ⟨Try.underlying31, ⟨Try.t31, info_of Try.type31, rfl, rfl, _, rfl, rfl⟩, Try.isAgg31, rfl⟩
theorem ty22 : Ty Try.prog 22 (.slice 102) 1 24 [(.slice none 0 0)] false :=
  ⟨Try.underlying22, ⟨Try.t22, info_of Try.type22, rfl, rfl, _, rfl, rfl⟩, Try.isAgg22, rfl⟩
theorem ty102 : Ty Try.prog 102 (.struct #[{ name := "Name", type := 9, offset := 0, embedded := false, tag := "", pkgPath := "", byteOffset := 0 }, { name := "Closed", type := 100, offset := 1, embedded := false, tag := "", pkgPath := "", byteOffset := 16 }]) 2 40 [(.string ⟨#[]⟩), (.slice none 0 0)] true :=
  ⟨Try.underlying102, ⟨Try.t102, info_of Try.type102, rfl, rfl, _, rfl, rfl⟩, Try.isAgg102, rfl⟩
theorem ty39 : Ty Try.prog 39 (.slice 3) 1 24 [(.slice none 0 0)] false :=
  ⟨Try.underlying39, ⟨Try.t39, info_of Try.type39, rfl, rfl, _, rfl, rfl⟩, Try.isAgg39, rfl⟩
theorem ty3 : Ty Try.prog 3 (.int .i64) 1 8 [(.int .i64 0)] false :=
  ⟨Try.underlying3, ⟨Try.t3, info_of Try.type3, rfl, rfl, _, rfl, rfl⟩, Try.isAgg3, rfl⟩
theorem ty23 : Ty Try.prog 23 (.slice 50) 1 24 [(.slice none 0 0)] false :=
  ⟨Try.underlying23, ⟨Try.t23, info_of Try.type23, rfl, rfl, _, rfl, rfl⟩, Try.isAgg23, rfl⟩
theorem ty52 : Ty Try.prog 52 (.struct #[{ name := "Name", type := 9, offset := 0, embedded := false, tag := "", pkgPath := "", byteOffset := 0 }, { name := "Names", type := 48, offset := 1, embedded := false, tag := "", pkgPath := "", byteOffset := 16 }, { name := "Sectors", type := 39, offset := 2, embedded := false, tag := "", pkgPath := "", byteOffset := 40 }]) 3 64 [(.string ⟨#[]⟩), (.slice none 0 0), (.slice none 0 0)] true :=
  ⟨Try.underlying52, ⟨Try.t52, info_of Try.type52, rfl, rfl, _, rfl, rfl⟩, Try.isAgg52, rfl⟩
theorem ty24 : Ty Try.prog 24 (.slice 52) 1 24 [(.slice none 0 0)] false :=
  ⟨Try.underlying24, ⟨Try.t24, info_of Try.type24, rfl, rfl, _, rfl, rfl⟩, Try.isAgg24, rfl⟩
theorem ty69 : Ty Try.prog 69 (.slice 73) 1 24 [(.slice none 0 0)] false :=
  ⟨Try.underlying69, ⟨Try.t69, info_of Try.type69, rfl, rfl, _, rfl, rfl⟩, Try.isAgg69, rfl⟩
theorem ty73 : Ty Try.prog 73 (.int .u64) 1 8 [(.int .u64 0)] false :=
  ⟨Try.underlying73, ⟨Try.t73, info_of Try.type73, rfl, rfl, _, rfl, rfl⟩, Try.isAgg73, rfl⟩
theorem ty56 : Ty Try.prog 56 (.slice 63) 1 24 [(.slice none 0 0)] false :=
  ⟨Try.underlying56, ⟨Try.t56, info_of Try.type56, rfl, rfl, _, rfl, rfl⟩, Try.isAgg56, rfl⟩
theorem ty63 : Ty Try.prog 63 (.map 73 4) 1 8 [(.map none)] false :=
  ⟨Try.underlying63, ⟨Try.t63, info_of Try.type63, rfl, rfl, _, rfl, rfl⟩, Try.isAgg63, rfl⟩
theorem ty9 : Ty Try.prog 9 .string 1 16 [(.string ⟨#[]⟩)] false :=
  ⟨Try.underlying9, ⟨Try.t9, info_of Try.type9, rfl, rfl, _, rfl, rfl⟩, Try.isAgg9, rfl⟩
theorem ty48 : Ty Try.prog 48 (.slice 9) 1 24 [(.slice none 0 0)] false :=
  ⟨Try.underlying48, ⟨Try.t48, info_of Try.type48, rfl, rfl, _, rfl, rfl⟩, Try.isAgg48, rfl⟩
theorem ty25 : Ty Try.prog 25 (.slice 104) 1 24 [(.slice none 0 0)] false :=
  ⟨Try.underlying25, ⟨Try.t25, info_of Try.type25, rfl, rfl, _, rfl, rfl⟩, Try.isAgg25, rfl⟩
theorem ty26 : Ty Try.prog 26 (.slice 106) 1 24 [(.slice none 0 0)] false :=
  ⟨Try.underlying26, ⟨Try.t26, info_of Try.type26, rfl, rfl, _, rfl, rfl⟩, Try.isAgg26, rfl⟩
theorem ty27 : Ty Try.prog 27 (.slice 109) 1 24 [(.slice none 0 0)] false :=
  ⟨Try.underlying27, ⟨Try.t27, info_of Try.type27, rfl, rfl, _, rfl, rfl⟩, Try.isAgg27, rfl⟩
theorem ty28 : Ty Try.prog 28 (.slice 111) 1 24 [(.slice none 0 0)] false :=
  ⟨Try.underlying28, ⟨Try.t28, info_of Try.type28, rfl, rfl, _, rfl, rfl⟩, Try.isAgg28, rfl⟩
theorem ty29 : Ty Try.prog 29 (.slice 115) 1 24 [(.slice none 0 0)] false :=
  ⟨Try.underlying29, ⟨Try.t29, info_of Try.type29, rfl, rfl, _, rfl, rfl⟩, Try.isAgg29, rfl⟩
theorem pl50 : Places Try.prog #[{ name := "Name", type := 9, offset := 0, embedded := false, tag := "", pkgPath := "", byteOffset := 0 }, { name := "Names", type := 48, offset := 1, embedded := false, tag := "", pkgPath := "", byteOffset := 16 }, { name := "Volumes", type := 39, offset := 2, embedded := false, tag := "", pkgPath := "", byteOffset := 40 }, { name := "Radar", type := 3, offset := 3, embedded := false, tag := "", pkgPath := "", byteOffset := 64 }, { name := "Procedural", type := 3, offset := 4, embedded := false, tag := "", pkgPath := "", byteOffset := 72 }] [(0, 1), (1, 1), (2, 1), (3, 1), (4, 1)] := fun w => by simp [ty9.runSize, ty48.runSize, ty39.runSize, ty3.runSize, ty3.runSize]
theorem pl52 : Places Try.prog #[{ name := "Name", type := 9, offset := 0, embedded := false, tag := "", pkgPath := "", byteOffset := 0 }, { name := "Names", type := 48, offset := 1, embedded := false, tag := "", pkgPath := "", byteOffset := 16 }, { name := "Sectors", type := 39, offset := 2, embedded := false, tag := "", pkgPath := "", byteOffset := 40 }] [(0, 1), (1, 1), (2, 1)] := fun w => by simp [ty9.runSize, ty48.runSize, ty39.runSize]
theorem pl31 : Places Try.prog #[{ name := "Volumes", type := 22, offset := 0, embedded := false, tag := "", pkgPath := "", byteOffset := 0 }, { name := "Sectors", type := 23, offset := 1, embedded := false, tag := "", pkgPath := "", byteOffset := 24 }, { name := "Configs", type := 24, offset := 2, embedded := false, tag := "", pkgPath := "", byteOffset := 48 }, { name := "Segments", type := 25, offset := 3, embedded := false, tag := "", pkgPath := "", byteOffset := 72 }, { name := "Routes", type := 26, offset := 4, embedded := false, tag := "", pkgPath := "", byteOffset := 96 }, { name := "Airports", type := 27, offset := 5, embedded := false, tag := "", pkgPath := "", byteOffset := 120 }, { name := "Classes", type := 28, offset := 6, embedded := false, tag := "", pkgPath := "", byteOffset := 144 }, { name := "Rules", type := 29, offset := 7, embedded := false, tag := "", pkgPath := "", byteOffset := 168 }] [(0, 1), (1, 1), (2, 1), (3, 1), (4, 1), (5, 1), (6, 1), (7, 1)] := fun w => by simp [ty22.runSize, ty23.runSize, ty24.runSize, ty25.runSize, ty26.runSize, ty27.runSize, ty28.runSize, ty29.runSize]

end Go.Fx



/- What the arguments read as. -/
namespace Go.Fx
open Go Go.Proofs Go.ChangeShapes Go.WideShapes Go.ChangeAt Go.RowKit Go.Fx
open Go.ChangeMaps (open_string shut_string)
set_option linter.unusedVariables false
set_option maxRecDepth 100000
theorem rd9 {H : Type} {enc : TypeId × Value → H} {w : World} {base : Nat} {spare : Nat → Bool} {held : Bool} : Rd enc Try.prog w base spare held 9 rStr (SmL SmT) := Rd_str Try.underlying9 (by kernel_rfl)
theorem rd3 {H : Type} {enc : TypeId × Value → H} {w : World} {base : Nat} {spare : Nat → Bool} {held : Bool} : Rd enc Try.prog w base spare held 3 (rInt .i64) (InK .i64) := Rd_int Try.underlying3 (by kernel_rfl)
def smXSpan (d : XSpan) : Prop := (InK .i64) d.from_ ∧ (InK .i64) d.to
theorem rd113 {H : Type} {enc : TypeId × Value → H} {w : World} {base : Nat} {spare : Nat → Bool} {held : Bool} : Rd enc Try.prog w base spare held 113 rXSpan smXSpan := by
  refine ⟨by kernel_rfl, fun fuel cs y h => ?_⟩
  obtain ⟨xs, n, _, hy, hl, hlen, hf⟩ := DataW.trod_struct Try.underlying113 h
  obtain ⟨x0, h0, s0⟩ := fld Try.underlying113 hf hlen hy (i := 0) rfl rd3
  obtain ⟨x1, h1, s1⟩ := fld Try.underlying113 hf hlen hy (i := 1) rfl rd3
  have hc : Try.prog.cellsOf 113 = 2 := by kernel_rfl
  refine ⟨⟨x0, x1⟩, ?_, fun hw => ⟨s0 hw, s1 hw⟩⟩
  exact rd_all (q := (rPair (rInt .i64) (rInt .i64))) (rd_pair h0 h1) (hl.trans hc)
theorem rd100 {H : Type} {enc : TypeId × Value → H} {w : World} {base : Nat} {spare : Nat → Bool} {held : Bool} : Rd enc Try.prog w base spare held 100 (rSl rXSpan) (SmL smXSpan) := Rd_slice Try.underlying100 (by kernel_rfl) (by decide) (of_decide_eq_true (by kernel_rfl)) rd113
def smXVolume (d : XVolume) : Prop := (SmL SmT) d.name ∧ (SmL smXSpan) d.closed
theorem rd102 {H : Type} {enc : TypeId × Value → H} {w : World} {base : Nat} {spare : Nat → Bool} {held : Bool} : Rd enc Try.prog w base spare held 102 rXVolume smXVolume := by
  refine ⟨by kernel_rfl, fun fuel cs y h => ?_⟩
  obtain ⟨xs, n, _, hy, hl, hlen, hf⟩ := DataW.trod_struct Try.underlying102 h
  obtain ⟨x0, h0, s0⟩ := fld Try.underlying102 hf hlen hy (i := 0) rfl rd9
  obtain ⟨x1, h1, s1⟩ := fld Try.underlying102 hf hlen hy (i := 1) rfl rd100
  have hc : Try.prog.cellsOf 102 = 2 := by kernel_rfl
  refine ⟨⟨x0, x1⟩, ?_, fun hw => ⟨s0 hw, s1 hw⟩⟩
  exact rd_all (q := (rPair rStr (rSl rXSpan))) (rd_pair h0 h1) (hl.trans hc)
theorem rd22 {H : Type} {enc : TypeId × Value → H} {w : World} {base : Nat} {spare : Nat → Bool} {held : Bool} : Rd enc Try.prog w base spare held 22 (rSl rXVolume) (SmL smXVolume) := Rd_slice Try.underlying22 (by kernel_rfl) (by decide) (of_decide_eq_true (by kernel_rfl)) rd102
theorem rd48 {H : Type} {enc : TypeId × Value → H} {w : World} {base : Nat} {spare : Nat → Bool} {held : Bool} : Rd enc Try.prog w base spare held 48 (rSl rStr) (SmL (SmL SmT)) := Rd_slice Try.underlying48 (by kernel_rfl) (by decide) (of_decide_eq_true (by kernel_rfl)) rd9
theorem rd39 {H : Type} {enc : TypeId × Value → H} {w : World} {base : Nat} {spare : Nat → Bool} {held : Bool} : Rd enc Try.prog w base spare held 39 (rSl (rInt .i64)) (SmL (InK .i64)) := Rd_slice Try.underlying39 (by kernel_rfl) (by decide) (of_decide_eq_true (by kernel_rfl)) rd3
def smXSector (d : XSector) : Prop := (SmL SmT) d.name ∧ (SmL (SmL SmT)) d.names ∧ (SmL (InK .i64)) d.volumes ∧ (InK .i64) d.radar ∧ (InK .i64) d.procedural
theorem rd50 {H : Type} {enc : TypeId × Value → H} {w : World} {base : Nat} {spare : Nat → Bool} {held : Bool} : Rd enc Try.prog w base spare held 50 rXSector smXSector := by
  refine ⟨by kernel_rfl, fun fuel cs y h => ?_⟩
  obtain ⟨xs, n, _, hy, hl, hlen, hf⟩ := DataW.trod_struct Try.underlying50 h
  obtain ⟨x0, h0, s0⟩ := fld Try.underlying50 hf hlen hy (i := 0) rfl rd9
  obtain ⟨x1, h1, s1⟩ := fld Try.underlying50 hf hlen hy (i := 1) rfl rd48
  obtain ⟨x2, h2, s2⟩ := fld Try.underlying50 hf hlen hy (i := 2) rfl rd39
  obtain ⟨x3, h3, s3⟩ := fld Try.underlying50 hf hlen hy (i := 3) rfl rd3
  obtain ⟨x4, h4, s4⟩ := fld Try.underlying50 hf hlen hy (i := 4) rfl rd3
  have hc : Try.prog.cellsOf 50 = 5 := by kernel_rfl
  refine ⟨⟨x0, x1, x2, x3, x4⟩, ?_, fun hw => ⟨s0 hw, s1 hw, s2 hw, s3 hw, s4 hw⟩⟩
  exact rd_all (q := (rPair rStr (rPair (rSl rStr) (rPair (rSl (rInt .i64)) (rPair (rInt .i64) (rInt .i64)))))) (rd_pair h0 (rd_pair h1 (rd_pair h2 (rd_pair h3 h4)))) (hl.trans hc)
theorem rd23 {H : Type} {enc : TypeId × Value → H} {w : World} {base : Nat} {spare : Nat → Bool} {held : Bool} : Rd enc Try.prog w base spare held 23 (rSl rXSector) (SmL smXSector) := Rd_slice Try.underlying23 (by kernel_rfl) (by decide) (of_decide_eq_true (by kernel_rfl)) rd50
def smXConfig (d : XConfig) : Prop := (SmL SmT) d.name ∧ (SmL (SmL SmT)) d.names ∧ (SmL (InK .i64)) d.sectors
theorem rd52 {H : Type} {enc : TypeId × Value → H} {w : World} {base : Nat} {spare : Nat → Bool} {held : Bool} : Rd enc Try.prog w base spare held 52 rXConfig smXConfig := by
  refine ⟨by kernel_rfl, fun fuel cs y h => ?_⟩
  obtain ⟨xs, n, _, hy, hl, hlen, hf⟩ := DataW.trod_struct Try.underlying52 h
  obtain ⟨x0, h0, s0⟩ := fld Try.underlying52 hf hlen hy (i := 0) rfl rd9
  obtain ⟨x1, h1, s1⟩ := fld Try.underlying52 hf hlen hy (i := 1) rfl rd48
  obtain ⟨x2, h2, s2⟩ := fld Try.underlying52 hf hlen hy (i := 2) rfl rd39
  have hc : Try.prog.cellsOf 52 = 3 := by kernel_rfl
  refine ⟨⟨x0, x1, x2⟩, ?_, fun hw => ⟨s0 hw, s1 hw, s2 hw⟩⟩
  exact rd_all (q := (rPair rStr (rPair (rSl rStr) (rSl (rInt .i64))))) (rd_pair h0 (rd_pair h1 h2)) (hl.trans hc)
theorem rd24 {H : Type} {enc : TypeId × Value → H} {w : World} {base : Nat} {spare : Nat → Bool} {held : Bool} : Rd enc Try.prog w base spare held 24 (rSl rXConfig) (SmL smXConfig) := Rd_slice Try.underlying24 (by kernel_rfl) (by decide) (of_decide_eq_true (by kernel_rfl)) rd52
def smXSegment (d : XSegment) : Prop := (SmL SmT) d.name ∧ (SmL SmT) d.in_ ∧ (InK .i64) d.volume ∧ (InK .i64) d.length ∧ (SmL smXSpan) d.open_
theorem rd104 {H : Type} {enc : TypeId × Value → H} {w : World} {base : Nat} {spare : Nat → Bool} {held : Bool} : Rd enc Try.prog w base spare held 104 rXSegment smXSegment := by
  refine ⟨by kernel_rfl, fun fuel cs y h => ?_⟩
  obtain ⟨xs, n, _, hy, hl, hlen, hf⟩ := DataW.trod_struct Try.underlying104 h
  obtain ⟨x0, h0, s0⟩ := fld Try.underlying104 hf hlen hy (i := 0) rfl rd9
  obtain ⟨x1, h1, s1⟩ := fld Try.underlying104 hf hlen hy (i := 1) rfl rd9
  obtain ⟨x2, h2, s2⟩ := fld Try.underlying104 hf hlen hy (i := 2) rfl rd3
  obtain ⟨x3, h3, s3⟩ := fld Try.underlying104 hf hlen hy (i := 3) rfl rd3
  obtain ⟨x4, h4, s4⟩ := fld Try.underlying104 hf hlen hy (i := 4) rfl rd100
  have hc : Try.prog.cellsOf 104 = 5 := by kernel_rfl
  refine ⟨⟨x0, x1, x2, x3, x4⟩, ?_, fun hw => ⟨s0 hw, s1 hw, s2 hw, s3 hw, s4 hw⟩⟩
  exact rd_all (q := (rPair rStr (rPair rStr (rPair (rInt .i64) (rPair (rInt .i64) (rSl rXSpan)))))) (rd_pair h0 (rd_pair h1 (rd_pair h2 (rd_pair h3 h4)))) (hl.trans hc)
theorem rd25 {H : Type} {enc : TypeId × Value → H} {w : World} {base : Nat} {spare : Nat → Bool} {held : Bool} : Rd enc Try.prog w base spare held 25 (rSl rXSegment) (SmL smXSegment) := Rd_slice Try.underlying25 (by kernel_rfl) (by decide) (of_decide_eq_true (by kernel_rfl)) rd104
def smXRoute (d : XRoute) : Prop := (SmL SmT) d.name ∧ (SmL SmT) d.a ∧ (SmL SmT) d.b ∧ (InK .i64) d.from_ ∧ (InK .i64) d.to ∧ (SmL (SmL SmT)) d.names ∧ (SmL (InK .i64)) d.segments
theorem rd106 {H : Type} {enc : TypeId × Value → H} {w : World} {base : Nat} {spare : Nat → Bool} {held : Bool} : Rd enc Try.prog w base spare held 106 rXRoute smXRoute := by
  refine ⟨by kernel_rfl, fun fuel cs y h => ?_⟩
  obtain ⟨xs, n, _, hy, hl, hlen, hf⟩ := DataW.trod_struct Try.underlying106 h
  obtain ⟨x0, h0, s0⟩ := fld Try.underlying106 hf hlen hy (i := 0) rfl rd9
  obtain ⟨x1, h1, s1⟩ := fld Try.underlying106 hf hlen hy (i := 1) rfl rd9
  obtain ⟨x2, h2, s2⟩ := fld Try.underlying106 hf hlen hy (i := 2) rfl rd9
  obtain ⟨x3, h3, s3⟩ := fld Try.underlying106 hf hlen hy (i := 3) rfl rd3
  obtain ⟨x4, h4, s4⟩ := fld Try.underlying106 hf hlen hy (i := 4) rfl rd3
  obtain ⟨x5, h5, s5⟩ := fld Try.underlying106 hf hlen hy (i := 5) rfl rd48
  obtain ⟨x6, h6, s6⟩ := fld Try.underlying106 hf hlen hy (i := 6) rfl rd39
  have hc : Try.prog.cellsOf 106 = 7 := by kernel_rfl
  refine ⟨⟨x0, x1, x2, x3, x4, x5, x6⟩, ?_, fun hw => ⟨s0 hw, s1 hw, s2 hw, s3 hw, s4 hw, s5 hw, s6 hw⟩⟩
  exact rd_all (q := (rPair rStr (rPair rStr (rPair rStr (rPair (rInt .i64) (rPair (rInt .i64) (rPair (rSl rStr) (rSl (rInt .i64))))))))) (rd_pair h0 (rd_pair h1 (rd_pair h2 (rd_pair h3 (rd_pair h4 (rd_pair h5 h6)))))) (hl.trans hc)
theorem rd26 {H : Type} {enc : TypeId × Value → H} {w : World} {base : Nat} {spare : Nat → Bool} {held : Bool} : Rd enc Try.prog w base spare held 26 (rSl rXRoute) (SmL smXRoute) := Rd_slice Try.underlying26 (by kernel_rfl) (by decide) (of_decide_eq_true (by kernel_rfl)) rd106
def smXMode (d : XMode) : Prop := (SmL SmT) d.name ∧ (InK .i64) d.places
theorem rd118 {H : Type} {enc : TypeId × Value → H} {w : World} {base : Nat} {spare : Nat → Bool} {held : Bool} : Rd enc Try.prog w base spare held 118 rXMode smXMode := by
  refine ⟨by kernel_rfl, fun fuel cs y h => ?_⟩
  obtain ⟨xs, n, _, hy, hl, hlen, hf⟩ := DataW.trod_struct Try.underlying118 h
  obtain ⟨x0, h0, s0⟩ := fld Try.underlying118 hf hlen hy (i := 0) rfl rd9
  obtain ⟨x1, h1, s1⟩ := fld Try.underlying118 hf hlen hy (i := 1) rfl rd3
  have hc : Try.prog.cellsOf 118 = 2 := by kernel_rfl
  refine ⟨⟨x0, x1⟩, ?_, fun hw => ⟨s0 hw, s1 hw⟩⟩
  exact rd_all (q := (rPair rStr (rInt .i64))) (rd_pair h0 h1) (hl.trans hc)
theorem rd107 {H : Type} {enc : TypeId × Value → H} {w : World} {base : Nat} {spare : Nat → Bool} {held : Bool} : Rd enc Try.prog w base spare held 107 (rSl rXMode) (SmL smXMode) := Rd_slice Try.underlying107 (by kernel_rfl) (by decide) (of_decide_eq_true (by kernel_rfl)) rd118
def smXAirport (d : XAirport) : Prop := (SmL SmT) d.name ∧ (SmL smXMode) d.modes
theorem rd109 {H : Type} {enc : TypeId × Value → H} {w : World} {base : Nat} {spare : Nat → Bool} {held : Bool} : Rd enc Try.prog w base spare held 109 rXAirport smXAirport := by
  refine ⟨by kernel_rfl, fun fuel cs y h => ?_⟩
  obtain ⟨xs, n, _, hy, hl, hlen, hf⟩ := DataW.trod_struct Try.underlying109 h
  obtain ⟨x0, h0, s0⟩ := fld Try.underlying109 hf hlen hy (i := 0) rfl rd9
  obtain ⟨x1, h1, s1⟩ := fld Try.underlying109 hf hlen hy (i := 1) rfl rd107
  have hc : Try.prog.cellsOf 109 = 2 := by kernel_rfl
  refine ⟨⟨x0, x1⟩, ?_, fun hw => ⟨s0 hw, s1 hw⟩⟩
  exact rd_all (q := (rPair rStr (rSl rXMode))) (rd_pair h0 h1) (hl.trans hc)
theorem rd27 {H : Type} {enc : TypeId × Value → H} {w : World} {base : Nat} {spare : Nat → Bool} {held : Bool} : Rd enc Try.prog w base spare held 27 (rSl rXAirport) (SmL smXAirport) := Rd_slice Try.underlying27 (by kernel_rfl) (by decide) (of_decide_eq_true (by kernel_rfl)) rd109
def smXClass (d : XClass) : Prop := (SmL SmT) d.name ∧ (InK .i64) d.slow ∧ (InK .i64) d.fast ∧ (InK .i64) d.places
theorem rd111 {H : Type} {enc : TypeId × Value → H} {w : World} {base : Nat} {spare : Nat → Bool} {held : Bool} : Rd enc Try.prog w base spare held 111 rXClass smXClass := by
  refine ⟨by kernel_rfl, fun fuel cs y h => ?_⟩
  obtain ⟨xs, n, _, hy, hl, hlen, hf⟩ := DataW.trod_struct Try.underlying111 h
  obtain ⟨x0, h0, s0⟩ := fld Try.underlying111 hf hlen hy (i := 0) rfl rd9
  obtain ⟨x1, h1, s1⟩ := fld Try.underlying111 hf hlen hy (i := 1) rfl rd3
  obtain ⟨x2, h2, s2⟩ := fld Try.underlying111 hf hlen hy (i := 2) rfl rd3
  obtain ⟨x3, h3, s3⟩ := fld Try.underlying111 hf hlen hy (i := 3) rfl rd3
  have hc : Try.prog.cellsOf 111 = 4 := by kernel_rfl
  refine ⟨⟨x0, x1, x2, x3⟩, ?_, fun hw => ⟨s0 hw, s1 hw, s2 hw, s3 hw⟩⟩
  exact rd_all (q := (rPair rStr (rPair (rInt .i64) (rPair (rInt .i64) (rInt .i64))))) (rd_pair h0 (rd_pair h1 (rd_pair h2 h3))) (hl.trans hc)
theorem rd28 {H : Type} {enc : TypeId × Value → H} {w : World} {base : Nat} {spare : Nat → Bool} {held : Bool} : Rd enc Try.prog w base spare held 28 (rSl rXClass) (SmL smXClass) := Rd_slice Try.underlying28 (by kernel_rfl) (by decide) (of_decide_eq_true (by kernel_rfl)) rd111
def smXRule (d : XRule) : Prop := (InK .i64) d.kind ∧ (SmL SmT) d.c ∧ (SmL SmT) d.a ∧ (InK .i64) d.class_ ∧ (InK .i64) d.airport ∧ (InK .i64) d.n ∧ smXSpan d.hours
theorem rd115 {H : Type} {enc : TypeId × Value → H} {w : World} {base : Nat} {spare : Nat → Bool} {held : Bool} : Rd enc Try.prog w base spare held 115 rXRule smXRule := by
  refine ⟨by kernel_rfl, fun fuel cs y h => ?_⟩
  obtain ⟨xs, n, _, hy, hl, hlen, hf⟩ := DataW.trod_struct Try.underlying115 h
  obtain ⟨x0, h0, s0⟩ := fld Try.underlying115 hf hlen hy (i := 0) rfl rd3
  obtain ⟨x1, h1, s1⟩ := fld Try.underlying115 hf hlen hy (i := 1) rfl rd9
  obtain ⟨x2, h2, s2⟩ := fld Try.underlying115 hf hlen hy (i := 2) rfl rd9
  obtain ⟨x3, h3, s3⟩ := fld Try.underlying115 hf hlen hy (i := 3) rfl rd3
  obtain ⟨x4, h4, s4⟩ := fld Try.underlying115 hf hlen hy (i := 4) rfl rd3
  obtain ⟨x5, h5, s5⟩ := fld Try.underlying115 hf hlen hy (i := 5) rfl rd3
  obtain ⟨x6, h6, s6⟩ := fld Try.underlying115 hf hlen hy (i := 6) rfl rd113
  have hc : Try.prog.cellsOf 115 = 8 := by kernel_rfl
  refine ⟨⟨x0, x1, x2, x3, x4, x5, x6⟩, ?_, fun hw => ⟨s0 hw, s1 hw, s2 hw, s3 hw, s4 hw, s5 hw, s6 hw⟩⟩
  exact rd_all (q := (rPair (rInt .i64) (rPair rStr (rPair rStr (rPair (rInt .i64) (rPair (rInt .i64) (rPair (rInt .i64) rXSpan))))))) (rd_pair h0 (rd_pair h1 (rd_pair h2 (rd_pair h3 (rd_pair h4 (rd_pair h5 h6)))))) (hl.trans hc)
theorem rd29 {H : Type} {enc : TypeId × Value → H} {w : World} {base : Nat} {spare : Nat → Bool} {held : Bool} : Rd enc Try.prog w base spare held 29 (rSl rXRule) (SmL smXRule) := Rd_slice Try.underlying29 (by kernel_rfl) (by decide) (of_decide_eq_true (by kernel_rfl)) rd115
def smXAirspace (d : XAirspace) : Prop := (SmL smXVolume) d.volumes ∧ (SmL smXSector) d.sectors ∧ (SmL smXConfig) d.configs ∧ (SmL smXSegment) d.segments ∧ (SmL smXRoute) d.routes ∧ (SmL smXAirport) d.airports ∧ (SmL smXClass) d.classes ∧ (SmL smXRule) d.rules
theorem rd31 {H : Type} {enc : TypeId × Value → H} {w : World} {base : Nat} {spare : Nat → Bool} {held : Bool} : Rd enc Try.prog w base spare held 31 rXAirspace smXAirspace := by
  refine ⟨by kernel_rfl, fun fuel cs y h => ?_⟩
  obtain ⟨xs, n, _, hy, hl, hlen, hf⟩ := DataW.trod_struct Try.underlying31 h
  obtain ⟨x0, h0, s0⟩ := fld Try.underlying31 hf hlen hy (i := 0) rfl rd22
  obtain ⟨x1, h1, s1⟩ := fld Try.underlying31 hf hlen hy (i := 1) rfl rd23
  obtain ⟨x2, h2, s2⟩ := fld Try.underlying31 hf hlen hy (i := 2) rfl rd24
  obtain ⟨x3, h3, s3⟩ := fld Try.underlying31 hf hlen hy (i := 3) rfl rd25
  obtain ⟨x4, h4, s4⟩ := fld Try.underlying31 hf hlen hy (i := 4) rfl rd26
  obtain ⟨x5, h5, s5⟩ := fld Try.underlying31 hf hlen hy (i := 5) rfl rd27
  obtain ⟨x6, h6, s6⟩ := fld Try.underlying31 hf hlen hy (i := 6) rfl rd28
  obtain ⟨x7, h7, s7⟩ := fld Try.underlying31 hf hlen hy (i := 7) rfl rd29
  have hc : Try.prog.cellsOf 31 = 8 := by kernel_rfl
  refine ⟨⟨x0, x1, x2, x3, x4, x5, x6, x7⟩, ?_, fun hw => ⟨s0 hw, s1 hw, s2 hw, s3 hw, s4 hw, s5 hw, s6 hw, s7 hw⟩⟩
  exact rd_all (q := (rPair (rSl rXVolume) (rPair (rSl rXSector) (rPair (rSl rXConfig) (rPair (rSl rXSegment) (rPair (rSl rXRoute) (rPair (rSl rXAirport) (rPair (rSl rXClass) (rSl rXRule))))))))) (rd_pair h0 (rd_pair h1 (rd_pair h2 (rd_pair h3 (rd_pair h4 (rd_pair h5 (rd_pair h6 h7))))))) (hl.trans hc)
end Go.Fx



set_option linter.unusedVariables false
set_option linter.unusedSimpArgs false
set_option maxRecDepth 100000
set_option maxHeartbeats 0
namespace Go.Fx
open Go Go.RowKit Go.Proofs
def m39_slices_Indexint_int__B0 (s : List Int) (v : Int) (sf3 : Int → Option Int) (v_1 : Int) : Option Int :=
 bif (decide (v_1 < (s.length : Int))) then
  ck ((0 : Int) ≤ v_1 ∧ v_1 < (s.length : Int)) <|
  bif (decide (v = (s.getD v_1.toNat default))) then
   some v_1
  else
   sf3 (IntKind.wrap .i64 (v_1 + 1))
 else
  some (-1)

def m39_slices_Indexint_int_ (s : List Int) (v : Int) : Option Int :=
 loop1 (m39_slices_Indexint_int__B0 s v) (((s.length : Int) - 0).toNat + 1) 0

theorem c39_slices_Indexint_int_ {w : World} {O : List Nat} {s : List Int} {v : Int} {a_s : Option Addr} {c_s : Nat} (hO : ∀ k ∈ O, k < w.heap.size) (f_s : SlR (rInt .i64) w O a_s c_s s) (r_v : InK .i64 v) {x : Int} (hm : m39_slices_Indexint_int_ s v = some x) :
  Ok Try.prog 39 [(Value.slice a_s s.length c_s), (Value.int .i64 v)] w O (vI .i64) x := by
 unfold m39_slices_Indexint_int_ at hm
 refine Fn_of_Wp (n := 19) (xs := [.tmp 4]) Try.func39 rfl Try.ntmps39 Try.results39 rfl ?_
 have hs := St.start hO
 refine Wp_seq ?_
 refine Wp_region ?_
 refine Rg_op rfl (op_assign (v := (Value.int .i64 0)) rfl ?_)
 refine Rg_nil ?_
 refine Wp_seq ?_
 refine Wp_seq ?_
 refine Wp_region ?_
 refine Rg_op rfl (op_move (v := (Value.slice a_s s.length c_s)) rfl ?_)
 refine Rg_op rfl (op_len Try.underlying39 rfl ?_)
 refine Rg_op rfl (op_move (v := (Value.int .i64 0)) rfl ?_)
 refine Rg_nil ?_
 refine Wp_block ?_
 refine Wp_reset [] [(0, (Value.slice a_s s.length c_s)), (1, (Value.int .i64 v)), (7, (Value.int .i64 (s.length : Int))), (8, (Value.int .i64 0))] rfl ⟨rfl, rfl, rfl, rfl, trivial⟩ fun ξ2 => ?_
 refine Wp_loopM [4, 5, 8, 9, 10, 11, 12, 13, 14, 15, 16, 17, 18] (fun m fr w' => ∃ (v_1 : Int) (Ebs : Ents), Ebs = [] ∧ fr [] [(8, (Value.int .i64 v_1))] ∧ Step (ks [] O) w (ks Ebs O) w' ∧ St ⟨w, [], []⟩ O w' Ebs ∧ InK .i64 v_1 ∧ loop1 (m39_slices_Indexint_int__B0 s v) m v_1 = some x) (((s.length : Int) - 0).toNat + 1) ⟨0, _, rfl, ⟨Out.refl _ _, rfl, rfl, trivial⟩, Step.refl _ _, hs, (show InK .i64 0 from by decide), hm⟩ ?_ ?_
 · rintro _ _ ⟨_, _, _, _, _, _, _, hm⟩; exact loop1_z hm
 ·
  rintro m6 K5 hK5 ρ11 w7 ⟨v_1, Ebs, hEbs, hfr10, hst9, hs8, r_y1, hm⟩
  obtain ⟨sf3, hsf4, hm⟩ := loop1_s hm; unfold m39_slices_Indexint_int__B0 at hm
  subst hEbs; rw [hfr10.eq]; clear hfr10
  replace f_s := f_s.step hst9
  have ch12 := hst9
  refine Wp_seq ?_
  refine Wp_region ?_
  refine Rg_op rfl (op_lss rfl rfl ?_)
  refine Rg_nil ?_
  refine Wp_seq ?_
  refine Wp_cond rfl (fun hc13 => ?_) (fun hc13 => ?_)
  ·
   replace hm := bif_t hm hc13
   refine Wp_skip ?_
   refine Wp_seq ?_
   refine Wp_block ?_
   refine Wp_seq ?_
   refine Wp_region ?_
   refine Rg_op rfl (op_move (v := (Value.int .i64 v_1)) rfl ?_)
   refine Rg_op rfl (op_assign (v := (Value.int .i64 v_1)) rfl ?_)
   refine Rg_nil ?_
   refine Wp_seq ?_
   refine Wp_region ?_
   refine Rg_op rfl (op_move (v := (Value.int .i64 v)) rfl ?_)
   refine Rg_op rfl (op_move (v := (Value.slice a_s s.length c_s)) rfl ?_)
   refine Rg_op rfl (op_move (v := (Value.int .i64 v_1)) rfl ?_)
   replace hm := ck_some hm; obtain ⟨hc14, hm⟩ := hm
   refine Rg_op rfl (op_indexAddr (q := (rInt .i64)) ty39 ty3 rfl rfl f_s rfl hc14.1 hc14.2 ?_)
   intro p15 f16
   refine Rg_op rfl (op_loadP ty3 rfl f16 rfl ?_)
   intro v17 h18
   obtain ⟨rfl, r_y19⟩ := un_int h18
   refine Rg_op rfl (op_eql rfl rfl ?_)
   refine Rg_nil ?_
   refine Wp_cond rfl (fun hc20 => ?_) (fun hc20 => ?_)
   ·
    replace hm := bif_t hm hc20
    refine Wp_seq ?_
    clear f_s f16
    refine Wp_region ?_
    refine Rg_op rfl (op_move (v := (Value.int .i64 v_1)) rfl ?_)
    refine Rg_op rfl (op_assign (v := (Value.int .i64 v_1)) rfl ?_)
    refine Rg_nil ?_
    refine Wp_ret ?_
    have hz := step_all hs8
    refine ⟨_, (show Closes [] _ _ from rfl), [(Value.int .i64 v_1)], ⟨rfl, trivial⟩, hs8.ext, ?_⟩
    exact Vr.eq (a := (vI .i64)) (x := v_1) ⟨rfl, r_y1⟩ (Option.some.inj hm)
   ·
    replace hm := bif_f hm hc20
    refine Wp_skip ?_
    clear f16
    refine Wp_region ?_
    refine Rg_op rfl (op_addw rfl rfl ?_)
    refine Rg_op rfl (op_move (v := (Value.int .i64 (IntKind.wrap .i64 (v_1 + 1)))) rfl ?_)
    refine Rg_nil ?_
    exact hK5 _ _ ⟨(IntKind.wrap .i64 (v_1 + 1)), _, rfl, ⟨(by repeat (first | with_reducible exact Out.refl _ _ | refine Out.upd ?_ rfl | refine Out.updL ?_ rfl | refine Out.mix' ?_ rfl | exact Out.refl _ _)), rfl, rfl, trivial⟩, ch12, hs8, (inK_wrap .i64 _), jnE1 hsf4 hm⟩
  ·
   replace hm := bif_f hm hc13
   refine Wp_exit ?_
   refine Wp_seq ?_
   clear f_s
   refine Wp_region ?_
   refine Rg_op rfl (op_assign (v := (Value.int .i64 (-1))) rfl ?_)
   refine Rg_nil ?_
   refine Wp_ret ?_
   have hz := step_all hs8
   refine ⟨_, (show Closes [] _ _ from rfl), [(Value.int .i64 (-1))], ⟨rfl, trivial⟩, hs8.ext, ?_⟩
   exact Vr.eq (a := (vI .i64)) (x := (-1)) ⟨rfl, (show InK .i64 (-1) from by decide)⟩ (Option.some.inj hm)

end Go.Fx



set_option linter.unusedVariables false
set_option linter.unusedSimpArgs false
set_option maxRecDepth 100000
set_option maxHeartbeats 0
namespace Go.Fx
open Go Go.RowKit Go.Proofs
def m29_slices_Containsint_int_ (s : List Int) (v : Int) : Option Bool :=
 (m39_slices_Indexint_int_ s v).bind fun index_1 =>
 some (decide (0 ≤ index_1))

theorem c29_slices_Containsint_int_ {w : World} {O : List Nat} {s : List Int} {v : Int} {a_s : Option Addr} {c_s : Nat} (hO : ∀ k ∈ O, k < w.heap.size) (f_s : SlR (rInt .i64) w O a_s c_s s) (r_v : InK .i64 v) {x : Bool} (hm : m29_slices_Containsint_int_ s v = some x) :
  Ok Try.prog 29 [(Value.slice a_s s.length c_s), (Value.int .i64 v)] w O vB x := by
 unfold m29_slices_Containsint_int_ at hm
 refine Fn_of_Wp (n := 9) (xs := [.tmp 4]) Try.func29 rfl Try.ntmps29 Try.results29 rfl ?_
 have hs := St.start hO
 refine Wp_seq ?_
 refine Wp_region ?_
 refine Rg_op rfl (op_assign (v := (Value.bool false)) rfl ?_)
 refine Rg_nil ?_
 refine Wp_seq ?_
 refine Wp_region ?_
 refine Rg_op rfl (op_move (v := (Value.slice a_s s.length c_s)) rfl ?_)
 refine Rg_op rfl (op_move (v := (Value.int .i64 v)) rfl ?_)
 replace hm := bd hm; obtain ⟨index_1, hv1, hm⟩ := hm
 refine Rg_op rfl (op_call Try.call39 (c39_slices_Indexint_int_ (s := s) (v := v) hs.ltw f_s r_v hv1) rfl ?_)
 rintro v2 w3 ⟨hx4, h5⟩
 have hs6 := hs.call hx4
 have p7 := Step.ext (O := ks [] O) hx4
 clear hx4
 replace f_s := f_s.step p7; clear p7
 obtain ⟨rfl, r_y8⟩ := h5
 refine Rg_op rfl (op_geq rfl rfl ?_)
 refine Rg_op rfl (op_assign (v := (Value.bool (decide (0 ≤ index_1)))) rfl ?_)
 refine Rg_nil ?_
 refine Wp_ret ?_
 have hz := step_all hs6
 replace f_s := f_s.step hz
 refine ⟨_, (show Closes [] _ _ from rfl), [(Value.bool (decide (0 ≤ index_1)))], ⟨rfl, trivial⟩, hs6.ext, ?_⟩
 exact Vr.eq (a := vB) (x := (decide (0 ≤ index_1))) rfl (Option.some.inj hm)

end Go.Fx



set_option linter.unusedVariables false
set_option linter.unusedSimpArgs false
set_option maxRecDepth 100000
set_option maxHeartbeats 0
namespace Go.Fx
open Go Go.RowKit Go.Proofs
def m13_configs_Sector_B0 (a : XAirspace) (konfig : Int) (volume : Int) (sf28 : Int → Option (Int × Bool)) (v_2 : Int) : Option (Int × Bool) :=
 bif (decide (v_2 < (((a.configs.getD konfig.toNat default).sectors).length : Int))) then
  ck ((0 : Int) ≤ v_2 ∧ v_2 < (((a.configs.getD konfig.toNat default).sectors).length : Int)) <|
  jn (fun (v_3 : Bool) =>
   bif v_3 then
    some ((((a.configs.getD konfig.toNat default).sectors).getD v_2.toNat default), true)
   else
    sf28 (IntKind.wrap .i64 (v_2 + 1)))
  (fun k47 =>
   bif (decide (0 ≤ (((a.configs.getD konfig.toNat default).sectors).getD v_2.toNat default))) then
    bif (decide ((((a.configs.getD konfig.toNat default).sectors).getD v_2.toNat default) < (a.sectors.length : Int))) then
     ck ((0 : Int) ≤ (((a.configs.getD konfig.toNat default).sectors).getD v_2.toNat default) ∧ (((a.configs.getD konfig.toNat default).sectors).getD v_2.toNat default) < (a.sectors.length : Int)) <|
     (m29_slices_Containsint_int_ ((a.sectors.getD (((a.configs.getD konfig.toNat default).sectors).getD v_2.toNat default).toNat default).volumes) volume).bind fun contains_1 =>
     k47 contains_1
    else
     k47 false
   else
    k47 false)
 else
  some (0, false)

def m13_configs_Sector (a : XAirspace) (konfig : Int) (volume : Int) : Option (Int × Bool) :=
 jn (fun (v_1 : Bool) =>
  bif v_1 then
   some (0, false)
  else
   ck ((0 : Int) ≤ konfig ∧ konfig < (a.configs.length : Int)) <|
   loop1 (m13_configs_Sector_B0 a konfig volume) (((((a.configs.getD konfig.toNat default).sectors).length : Int) - 0).toNat + 1) 0)
 (fun k8 =>
  bif (decide (konfig < 0)) then
   k8 true
  else
   k8 (decide ((a.configs.length : Int) ≤ konfig)))

theorem c13_configs_Sector {w : World} {O : List Nat} {a : XAirspace} {konfig : Int} {volume : Int} {a_a_volumes : Option Addr} {c_a_volumes : Nat} {a_a_sectors : Option Addr} {c_a_sectors : Nat} {a_a_configs : Option Addr} {c_a_configs : Nat} {a_a_segments : Option Addr} {c_a_segments : Nat} {a_a_routes : Option Addr} {c_a_routes : Nat} {a_a_airports : Option Addr} {c_a_airports : Nat} {a_a_classes : Option Addr} {c_a_classes : Nat} {a_a_rules : Option Addr} {c_a_rules : Nat} (hO : ∀ k ∈ O, k < w.heap.size) (f_a_volumes : SlR rXVolume w O a_a_volumes c_a_volumes a.volumes) (f_a_sectors : SlR rXSector w O a_a_sectors c_a_sectors a.sectors) (f_a_configs : SlR rXConfig w O a_a_configs c_a_configs a.configs) (f_a_segments : SlR rXSegment w O a_a_segments c_a_segments a.segments) (f_a_routes : SlR rXRoute w O a_a_routes c_a_routes a.routes) (f_a_airports : SlR rXAirport w O a_a_airports c_a_airports a.airports) (f_a_classes : SlR rXClass w O a_a_classes c_a_classes a.classes) (f_a_rules : SlR rXRule w O a_a_rules c_a_rules a.rules) (r_config : InK .i64 konfig) (r_volume : InK .i64 volume) {x : Int × Bool} (hm : m13_configs_Sector a konfig volume = some x) :
  Ok Try.prog 13 [(Value.agg [(Value.slice a_a_volumes a.volumes.length c_a_volumes), (Value.slice a_a_sectors a.sectors.length c_a_sectors), (Value.slice a_a_configs a.configs.length c_a_configs), (Value.slice a_a_segments a.segments.length c_a_segments), (Value.slice a_a_routes a.routes.length c_a_routes), (Value.slice a_a_airports a.airports.length c_a_airports), (Value.slice a_a_classes a.classes.length c_a_classes), (Value.slice a_a_rules a.rules.length c_a_rules)].toArray), (Value.int .i64 konfig), (Value.int .i64 volume)] w O (vT2 (vI .i64) vB) x := by
 unfold m13_configs_Sector at hm
 refine Fn_of_Wp (n := 51) (xs := [.tmp 6, .tmp 7]) Try.func13 rfl Try.ntmps13 Try.results13 rfl ?_
 have hs := St.start hO
 refine Wp_seq ?_
 refine Wp_region ?_
 refine Rg_op rfl (op_box (cs := [(Value.slice a_a_volumes a.volumes.length c_a_volumes), (Value.slice a_a_sectors a.sectors.length c_a_sectors), (Value.slice a_a_configs a.configs.length c_a_configs), (Value.slice a_a_segments a.segments.length c_a_segments), (Value.slice a_a_routes a.routes.length c_a_routes), (Value.slice a_a_airports a.airports.length c_a_airports), (Value.slice a_a_classes a.classes.length c_a_classes), (Value.slice a_a_rules a.rules.length c_a_rules)]) hs rfl rfl ?_)
 intro b1 w2 _ p3 hs4
 replace f_a_volumes := f_a_volumes.step p3; replace f_a_sectors := f_a_sectors.step p3; replace f_a_configs := f_a_configs.step p3; replace f_a_segments := f_a_segments.step p3; replace f_a_routes := f_a_routes.step p3; replace f_a_airports := f_a_airports.step p3; replace f_a_classes := f_a_classes.step p3; replace f_a_rules := f_a_rules.step p3; clear p3
 refine Rg_op rfl (op_assign (v := (Value.int .i64 0)) rfl ?_)
 refine Rg_op rfl (op_assign (v := (Value.bool false)) rfl ?_)
 refine Rg_nil ?_
 refine Wp_seq ?_
 refine Wp_reset [] [(1, (Value.int .i64 konfig)), (2, (Value.int .i64 volume)), (3, (Value.pointer (some ⟨b1, 0, none⟩)))] rfl ⟨rfl, rfl, rfl, trivial⟩ fun ξ6 => ?_
 replace hm := jn_elim hm; obtain ⟨k8, hk9, hm⟩ := hm
 refine Wp_seqJ [10, 11, 12, 13, 14, 15, 16, 17, 18] (fun fr w' => ∃ (v_1 : Bool) (Ebs : Ents), Ebs = [(some b1, Obj.cells [(Value.slice a_a_volumes a.volumes.length c_a_volumes), (Value.slice a_a_sectors a.sectors.length c_a_sectors), (Value.slice a_a_configs a.configs.length c_a_configs), (Value.slice a_a_segments a.segments.length c_a_segments), (Value.slice a_a_routes a.routes.length c_a_routes), (Value.slice a_a_airports a.airports.length c_a_airports), (Value.slice a_a_classes a.classes.length c_a_classes), (Value.slice a_a_rules a.rules.length c_a_rules)].toArray 31)] ∧ fr [] [(18, (Value.bool v_1))] ∧ Step (ks [(some b1, Obj.cells [(Value.slice a_a_volumes a.volumes.length c_a_volumes), (Value.slice a_a_sectors a.sectors.length c_a_sectors), (Value.slice a_a_configs a.configs.length c_a_configs), (Value.slice a_a_segments a.segments.length c_a_segments), (Value.slice a_a_routes a.routes.length c_a_routes), (Value.slice a_a_airports a.airports.length c_a_airports), (Value.slice a_a_classes a.classes.length c_a_classes), (Value.slice a_a_rules a.rules.length c_a_rules)].toArray 31)] O) w2 (ks Ebs O) w' ∧ St ⟨w, [], []⟩ O w' Ebs ∧ k8 v_1 = some x) ?_ ?_
 ·
  rintro ρ15 w11 ⟨v_1, Ebs, hEbs, hfr14, hst13, hs12, hm⟩
  replace hm := jnE1 hk9 hm
  subst hEbs; rw [hfr14.eq]; clear hfr14
  replace f_a_volumes := f_a_volumes.step hst13; replace f_a_sectors := f_a_sectors.step hst13; replace f_a_configs := f_a_configs.step hst13; replace f_a_segments := f_a_segments.step hst13; replace f_a_routes := f_a_routes.step hst13; replace f_a_airports := f_a_airports.step hst13; replace f_a_classes := f_a_classes.step hst13; replace f_a_rules := f_a_rules.step hst13; clear hst13 hs4
  refine Wp_cond rfl (fun hc16 => ?_) (fun hc16 => ?_)
  ·
   replace hm := bif_t hm hc16
   refine Wp_seq ?_
   obtain ⟨hs17, p18⟩ := hs12.sub (bs' := []) (.cons _ List.Sublist.slnil)
   clear f_a_volumes f_a_sectors f_a_configs f_a_segments f_a_routes f_a_airports f_a_classes f_a_rules
   clear p18 hs12
   refine Wp_region ?_
   refine Rg_op rfl (op_assign (v := (Value.int .i64 0)) rfl ?_)
   refine Rg_op rfl (op_assign (v := (Value.bool false)) rfl ?_)
   refine Rg_nil ?_
   refine Wp_ret ?_
   have hz := step_all hs17
   refine ⟨_, (show Closes [] _ _ from rfl), [(Value.int .i64 0), (Value.bool false)], ⟨rfl, rfl, trivial⟩, hs17.ext, ?_⟩
   exact Vr.eq (a := (vT2 (vI .i64) vB)) (x := (0, false)) (mkT2 ⟨rfl, (show InK .i64 0 from by decide)⟩ rfl) (Option.some.inj hm)
  ·
   replace hm := bif_f hm hc16
   refine Wp_skip ?_
   refine Wp_seq ?_
   refine Wp_seq ?_
   refine Wp_region ?_
   refine Rg_op rfl (op_fieldAddr ty31 rfl ty24 (by decide) rfl (rfl : _ = (⟨_, 2, none⟩ : Addr)) ?_)
   refine Rg_op rfl (op_load (cs := [(Value.slice a_a_volumes a.volumes.length c_a_volumes), (Value.slice a_a_sectors a.sectors.length c_a_sectors), (Value.slice a_a_configs a.configs.length c_a_configs), (Value.slice a_a_segments a.segments.length c_a_segments), (Value.slice a_a_routes a.routes.length c_a_routes), (Value.slice a_a_airports a.airports.length c_a_airports), (Value.slice a_a_classes a.classes.length c_a_classes), (Value.slice a_a_rules a.rules.length c_a_rules)]) (i := 0) ty24 hs12 rfl rfl rfl ?_)
   refine Rg_op rfl (op_move (v := (Value.int .i64 konfig)) rfl ?_)
   replace hm := ck_some hm; obtain ⟨hc19, hm⟩ := hm
   refine Rg_op rfl (op_indexAddr (q := rXConfig) ty24 ty52 rfl rfl f_a_configs rfl hc19.1 hc19.2 ?_)
   intro p20 f21
   refine Rg_op rfl (op_fieldAddr ty52 rfl ty39 (by decide) rfl rfl ?_)
   have f22 := f21.via.snd.snd
   refine Rg_op rfl (op_loadP ty39 rfl f22 rfl ?_)
   intro v23 h24
   obtain ⟨a_y25, c_y25, rfl, f_y25⟩ := un_sl h24
   refine Rg_op rfl (op_len Try.underlying39 rfl ?_)
   refine Rg_op rfl (op_move (v := (Value.int .i64 0)) rfl ?_)
   refine Rg_nil ?_
   refine Wp_block ?_
   refine Wp_reset [] [(2, (Value.int .i64 volume)), (3, (Value.pointer (some ⟨b1, 0, none⟩))), (24, (Value.slice a_y25 ((a.configs.getD konfig.toNat default).sectors).length c_y25)), (25, (Value.int .i64 (((a.configs.getD konfig.toNat default).sectors).length : Int))), (26, (Value.int .i64 0))] rfl ⟨rfl, rfl, rfl, rfl, rfl, trivial⟩ fun ξ27 => ?_
   refine Wp_loopM [6, 7, 9, 26, 27, 28, 29, 30, 31, 32, 33, 34, 35, 36, 37, 38, 39, 40, 41, 42, 43, 44, 45, 46, 47, 48, 49, 50] (fun m fr w' => ∃ (v_2 : Int) (Ebs : Ents), Ebs = [(some b1, Obj.cells [(Value.slice a_a_volumes a.volumes.length c_a_volumes), (Value.slice a_a_sectors a.sectors.length c_a_sectors), (Value.slice a_a_configs a.configs.length c_a_configs), (Value.slice a_a_segments a.segments.length c_a_segments), (Value.slice a_a_routes a.routes.length c_a_routes), (Value.slice a_a_airports a.airports.length c_a_airports), (Value.slice a_a_classes a.classes.length c_a_classes), (Value.slice a_a_rules a.rules.length c_a_rules)].toArray 31)] ∧ fr [] [(26, (Value.int .i64 v_2))] ∧ Step (ks [(some b1, Obj.cells [(Value.slice a_a_volumes a.volumes.length c_a_volumes), (Value.slice a_a_sectors a.sectors.length c_a_sectors), (Value.slice a_a_configs a.configs.length c_a_configs), (Value.slice a_a_segments a.segments.length c_a_segments), (Value.slice a_a_routes a.routes.length c_a_routes), (Value.slice a_a_airports a.airports.length c_a_airports), (Value.slice a_a_classes a.classes.length c_a_classes), (Value.slice a_a_rules a.rules.length c_a_rules)].toArray 31)] O) w11 (ks Ebs O) w' ∧ St ⟨w, [], []⟩ O w' Ebs ∧ InK .i64 v_2 ∧ loop1 (m13_configs_Sector_B0 a konfig volume) m v_2 = some x) (((((a.configs.getD konfig.toNat default).sectors).length : Int) - 0).toNat + 1) ⟨0, _, rfl, ⟨Out.refl _ _, rfl, rfl, trivial⟩, Step.refl _ _, hs12, (show InK .i64 0 from by decide), hm⟩ ?_ ?_
   · rintro _ _ ⟨_, _, _, _, _, _, _, hm⟩; exact loop1_z hm
   ·
    rintro m31 K30 hK30 ρ36 w32 ⟨v_2, Ebs, hEbs, hfr35, hst34, hs33, r_y26, hm⟩
    obtain ⟨sf28, hsf29, hm⟩ := loop1_s hm; unfold m13_configs_Sector_B0 at hm
    subst hEbs; rw [hfr35.eq]; clear hfr35
    replace f_a_volumes := f_a_volumes.step hst34; replace f_a_sectors := f_a_sectors.step hst34; replace f_a_configs := f_a_configs.step hst34; replace f_a_segments := f_a_segments.step hst34; replace f_a_routes := f_a_routes.step hst34; replace f_a_airports := f_a_airports.step hst34; replace f_a_classes := f_a_classes.step hst34; replace f_a_rules := f_a_rules.step hst34; replace f21 := f21.step hst34; replace f22 := f22.step hst34; replace f_y25 := f_y25.step hst34
    have ch37 := hst34
    refine Wp_seq ?_
    clear f21 f22
    refine Wp_region ?_
    refine Rg_op rfl (op_lss rfl rfl ?_)
    refine Rg_nil ?_
    refine Wp_seq ?_
    refine Wp_cond rfl (fun hc38 => ?_) (fun hc38 => ?_)
    ·
     replace hm := bif_t hm hc38
     refine Wp_skip ?_
     refine Wp_seq ?_
     refine Wp_block ?_
     refine Wp_seq ?_
     refine Wp_region ?_
     replace hm := ck_some hm; obtain ⟨hc39, hm⟩ := hm
     refine Rg_op rfl (op_indexAddr (q := (rInt .i64)) ty39 ty3 rfl rfl f_y25 rfl hc39.1 hc39.2 ?_)
     intro p40 f41
     refine Rg_op rfl (op_loadP ty3 rfl f41 rfl ?_)
     intro v42 h43
     obtain ⟨rfl, r_y44⟩ := un_int h43
     refine Rg_op rfl (op_assign (v := (Value.int .i64 (((a.configs.getD konfig.toNat default).sectors).getD v_2.toNat default))) rfl ?_)
     refine Rg_nil ?_
     refine Wp_reset2 [6, 7, 9, 26, 27, 28, 29, 30, 31, 32, 33, 34, 35, 36, 37, 38, 39, 40, 41, 42, 43, 44, 45, 46, 47, 48, 49, 50] [] (updL ⟨ξ27, []⟩ [(2, (Value.int .i64 volume)), (3, (Value.pointer (some ⟨b1, 0, none⟩))), (24, (Value.slice a_y25 ((a.configs.getD konfig.toNat default).sectors).length c_y25)), (25, (Value.int .i64 (((a.configs.getD konfig.toNat default).sectors).length : Int))), (26, (Value.int .i64 0))]) [(9, (Value.int .i64 (((a.configs.getD konfig.toNat default).sectors).getD v_2.toNat default))), (26, (Value.int .i64 v_2))] (by repeat (first | with_reducible exact Out.refl _ _ | refine Out.upd ?_ rfl | refine Out.updL ?_ rfl | refine Out.mix' ?_ rfl | exact Out.refl _ _)) rfl ⟨rfl, rfl, trivial⟩ fun ξ45 => ?_
     replace hm := jn_elim hm; obtain ⟨k47, hk48, hm⟩ := hm
     refine Wp_seqJ [30, 31, 32, 33, 34, 35, 36, 37, 38, 39, 40, 41, 42, 43, 44, 45, 46, 47, 48] (fun fr w' => ∃ (v_3 : Bool) (Ebs : Ents), Ebs = [(some b1, Obj.cells [(Value.slice a_a_volumes a.volumes.length c_a_volumes), (Value.slice a_a_sectors a.sectors.length c_a_sectors), (Value.slice a_a_configs a.configs.length c_a_configs), (Value.slice a_a_segments a.segments.length c_a_segments), (Value.slice a_a_routes a.routes.length c_a_routes), (Value.slice a_a_airports a.airports.length c_a_airports), (Value.slice a_a_classes a.classes.length c_a_classes), (Value.slice a_a_rules a.rules.length c_a_rules)].toArray 31)] ∧ fr [] [(48, (Value.bool v_3))] ∧ Step (ks [(some b1, Obj.cells [(Value.slice a_a_volumes a.volumes.length c_a_volumes), (Value.slice a_a_sectors a.sectors.length c_a_sectors), (Value.slice a_a_configs a.configs.length c_a_configs), (Value.slice a_a_segments a.segments.length c_a_segments), (Value.slice a_a_routes a.routes.length c_a_routes), (Value.slice a_a_airports a.airports.length c_a_airports), (Value.slice a_a_classes a.classes.length c_a_classes), (Value.slice a_a_rules a.rules.length c_a_rules)].toArray 31)] O) w32 (ks Ebs O) w' ∧ St ⟨w, [], []⟩ O w' Ebs ∧ k47 v_3 = some x) ?_ ?_
     ·
      rintro ρ54 w50 ⟨v_3, Ebs, hEbs, hfr53, hst52, hs51, hm⟩
      replace hm := jnE1 hk48 hm
      subst hEbs; rw [hfr53.eq]; clear hfr53
      replace f_a_volumes := f_a_volumes.step hst52; replace f_a_sectors := f_a_sectors.step hst52; replace f_a_configs := f_a_configs.step hst52; replace f_a_segments := f_a_segments.step hst52; replace f_a_routes := f_a_routes.step hst52; replace f_a_airports := f_a_airports.step hst52; replace f_a_classes := f_a_classes.step hst52; replace f_a_rules := f_a_rules.step hst52; replace f_y25 := f_y25.step hst52; replace f41 := f41.step hst52; replace ch37 := ch37.trans hst52; clear hst52 hs33
      refine Wp_cond rfl (fun hc55 => ?_) (fun hc55 => ?_)
      ·
       replace hm := bif_t hm hc55
       refine Wp_seq ?_
       clear f_y25 f41
       refine Wp_region ?_
       refine Rg_op rfl (op_move (v := (Value.int .i64 (((a.configs.getD konfig.toNat default).sectors).getD v_2.toNat default))) rfl ?_)
       refine Rg_op rfl (op_assign (v := (Value.int .i64 (((a.configs.getD konfig.toNat default).sectors).getD v_2.toNat default))) rfl ?_)
       refine Rg_op rfl (op_assign (v := (Value.bool true)) rfl ?_)
       refine Rg_nil ?_
       refine Wp_ret ?_
       have hz := step_all hs51
       replace f_a_volumes := f_a_volumes.step hz; replace f_a_sectors := f_a_sectors.step hz; replace f_a_configs := f_a_configs.step hz; replace f_a_segments := f_a_segments.step hz; replace f_a_routes := f_a_routes.step hz; replace f_a_airports := f_a_airports.step hz; replace f_a_classes := f_a_classes.step hz; replace f_a_rules := f_a_rules.step hz
       refine ⟨_, (show Closes [] _ _ from rfl), [(Value.int .i64 (((a.configs.getD konfig.toNat default).sectors).getD v_2.toNat default)), (Value.bool true)], ⟨rfl, rfl, trivial⟩, hs51.ext, ?_⟩
       exact Vr.eq (a := (vT2 (vI .i64) vB)) (x := ((((a.configs.getD konfig.toNat default).sectors).getD v_2.toNat default), true)) (mkT2 ⟨rfl, r_y44⟩ rfl) (Option.some.inj hm)
      ·
       replace hm := bif_f hm hc55
       refine Wp_skip ?_
       clear f41
       refine Wp_region ?_
       refine Rg_op rfl (op_addw rfl rfl ?_)
       refine Rg_op rfl (op_move (v := (Value.int .i64 (IntKind.wrap .i64 (v_2 + 1)))) rfl ?_)
       refine Rg_nil ?_
       exact hK30 _ _ ⟨(IntKind.wrap .i64 (v_2 + 1)), _, rfl, ⟨(by repeat (first | with_reducible exact Out.refl _ _ | refine Out.upd ?_ rfl | refine Out.updL ?_ rfl | refine Out.mix' ?_ rfl | exact Out.refl _ _)), rfl, rfl, trivial⟩, ch37, hs51, (inK_wrap .i64 _), jnE1 hsf29 hm⟩
     ·
      intro K49 hK49
      have ch56 := Step.refl (ks [(some b1, Obj.cells [(Value.slice a_a_volumes a.volumes.length c_a_volumes), (Value.slice a_a_sectors a.sectors.length c_a_sectors), (Value.slice a_a_configs a.configs.length c_a_configs), (Value.slice a_a_segments a.segments.length c_a_segments), (Value.slice a_a_routes a.routes.length c_a_routes), (Value.slice a_a_airports a.airports.length c_a_airports), (Value.slice a_a_classes a.classes.length c_a_classes), (Value.slice a_a_rules a.rules.length c_a_rules)].toArray 31)] O) w32
      clear f41
      refine Wp_region ?_
      refine Rg_op rfl (op_move (v := (Value.int .i64 (((a.configs.getD konfig.toNat default).sectors).getD v_2.toNat default))) rfl ?_)
      refine Rg_op rfl (op_geq rfl rfl ?_)
      refine Rg_op rfl (op_move (v := (Value.bool (decide (0 ≤ (((a.configs.getD konfig.toNat default).sectors).getD v_2.toNat default))))) rfl ?_)
      refine Rg_case (fun hg57 => ?_) (fun hg57 => ?_)
      ·
       replace hm := bif_t hm hg57
       refine Rg_opg rfl rfl rfl (op_move (v := (Value.int .i64 (((a.configs.getD konfig.toNat default).sectors).getD v_2.toNat default))) rfl ?_)
       refine Rg_opg rfl rfl rfl (op_fieldAddr ty31 rfl ty23 (by decide) rfl (rfl : _ = (⟨_, 1, none⟩ : Addr)) ?_)
       refine Rg_opg rfl rfl rfl (op_load (cs := [(Value.slice a_a_volumes a.volumes.length c_a_volumes), (Value.slice a_a_sectors a.sectors.length c_a_sectors), (Value.slice a_a_configs a.configs.length c_a_configs), (Value.slice a_a_segments a.segments.length c_a_segments), (Value.slice a_a_routes a.routes.length c_a_routes), (Value.slice a_a_airports a.airports.length c_a_airports), (Value.slice a_a_classes a.classes.length c_a_classes), (Value.slice a_a_rules a.rules.length c_a_rules)]) (i := 0) ty23 hs33 rfl rfl rfl ?_)
       refine Rg_opg rfl rfl rfl (op_len Try.underlying23 rfl ?_)
       refine Rg_opg rfl rfl rfl (op_lss rfl rfl ?_)
       refine Rg_op rfl (op_pick_t (v := (Value.bool (decide ((((a.configs.getD konfig.toNat default).sectors).getD v_2.toNat default) < (a.sectors.length : Int))))) rfl rfl ?_)
       refine Rg_op rfl (op_move (v := (Value.bool (decide ((((a.configs.getD konfig.toNat default).sectors).getD v_2.toNat default) < (a.sectors.length : Int))))) rfl ?_)
       refine Rg_case (fun hg58 => ?_) (fun hg58 => ?_)
       ·
        replace hm := bif_t hm hg58
        refine Rg_opg rfl rfl rfl (op_fieldAddr ty31 rfl ty23 (by decide) rfl (rfl : _ = (⟨_, 1, none⟩ : Addr)) ?_)
        refine Rg_opg rfl rfl rfl (op_load (cs := [(Value.slice a_a_volumes a.volumes.length c_a_volumes), (Value.slice a_a_sectors a.sectors.length c_a_sectors), (Value.slice a_a_configs a.configs.length c_a_configs), (Value.slice a_a_segments a.segments.length c_a_segments), (Value.slice a_a_routes a.routes.length c_a_routes), (Value.slice a_a_airports a.airports.length c_a_airports), (Value.slice a_a_classes a.classes.length c_a_classes), (Value.slice a_a_rules a.rules.length c_a_rules)]) (i := 0) ty23 hs33 rfl rfl rfl ?_)
        refine Rg_opg rfl rfl rfl (op_move (v := (Value.int .i64 (((a.configs.getD konfig.toNat default).sectors).getD v_2.toNat default))) rfl ?_)
        replace hm := ck_some hm; obtain ⟨hc59, hm⟩ := hm
        refine Rg_opg rfl rfl rfl (op_indexAddr (q := rXSector) ty23 ty50 rfl rfl f_a_sectors rfl hc59.1 hc59.2 ?_)
        intro p60 f61
        refine Rg_opg rfl rfl rfl (op_fieldAddr ty50 rfl ty39 (by decide) rfl rfl ?_)
        have f62 := f61.via.snd.snd.fst
        refine Rg_opg rfl rfl rfl (op_loadP ty39 rfl f62 rfl ?_)
        intro v63 h64
        obtain ⟨a_y65, c_y65, rfl, f_y65⟩ := un_sl h64
        refine Rg_opg rfl rfl rfl (op_move (v := (Value.int .i64 volume)) rfl ?_)
        replace hm := bd hm; obtain ⟨contains_1, hv66, hm⟩ := hm
        refine Rg_opg rfl rfl rfl (op_call Try.call29 (c29_slices_Containsint_int_ (s := (a.sectors.getD (((a.configs.getD konfig.toNat default).sectors).getD v_2.toNat default).toNat default).volumes) (v := volume) hs33.ltw f_y65 r_volume hv66) rfl ?_)
        rintro v67 w68 ⟨hx69, h70⟩
        have hs71 := hs33.call hx69
        have p72 := Step.ext (O := ks [(some b1, Obj.cells [(Value.slice a_a_volumes a.volumes.length c_a_volumes), (Value.slice a_a_sectors a.sectors.length c_a_sectors), (Value.slice a_a_configs a.configs.length c_a_configs), (Value.slice a_a_segments a.segments.length c_a_segments), (Value.slice a_a_routes a.routes.length c_a_routes), (Value.slice a_a_airports a.airports.length c_a_airports), (Value.slice a_a_classes a.classes.length c_a_classes), (Value.slice a_a_rules a.rules.length c_a_rules)].toArray 31)] O) hx69
        clear hx69
        replace f_a_volumes := f_a_volumes.step p72; replace f_a_sectors := f_a_sectors.step p72; replace f_a_configs := f_a_configs.step p72; replace f_a_segments := f_a_segments.step p72; replace f_a_routes := f_a_routes.step p72; replace f_a_airports := f_a_airports.step p72; replace f_a_classes := f_a_classes.step p72; replace f_a_rules := f_a_rules.step p72; replace f_y25 := f_y25.step p72; replace f61 := f61.step p72; replace f62 := f62.step p72; replace f_y65 := f_y65.step p72; replace ch37 := ch37.trans p72; replace ch56 := ch56.trans p72; clear p72 hs33
        obtain rfl := h70
        refine Rg_op rfl (op_pick_t (v := (Value.bool contains_1)) rfl rfl ?_)
        refine Rg_nil ?_
        exact hK49 _ _ ⟨contains_1, _, rfl, ⟨(by repeat (first | with_reducible exact Out.refl _ _ | refine Out.upd ?_ rfl | refine Out.updL ?_ rfl | refine Out.mix' ?_ rfl | exact Out.refl _ _)), rfl, rfl, trivial⟩, ch56, hs71, hm⟩
       ·
        replace hm := bif_f hm hg58
        iterate 8 refine Rg_opx rfl (asB_ne rfl rfl) rfl ?_
        refine Rg_op rfl (op_pick_f (v := (Value.bool false)) rfl rfl ?_)
        refine Rg_nil ?_
        exact hK49 _ _ ⟨false, _, rfl, ⟨(by repeat (first | with_reducible exact Out.refl _ _ | refine Out.upd ?_ rfl | refine Out.updL ?_ rfl | refine Out.mix' ?_ rfl | exact Out.refl _ _)), rfl, rfl, trivial⟩, ch56, hs33, hm⟩
      ·
       replace hm := bif_f hm hg57
       iterate 5 refine Rg_opx rfl (asB_ne rfl rfl) rfl ?_
       refine Rg_op rfl (op_pick_f (v := (Value.bool false)) rfl rfl ?_)
       refine Rg_op rfl (op_move (v := (Value.bool false)) rfl ?_)
       iterate 8 refine Rg_opx rfl (asB_ne rfl rfl) rfl ?_
       refine Rg_op rfl (op_pick_f (v := (Value.bool false)) rfl rfl ?_)
       refine Rg_nil ?_
       exact hK49 _ _ ⟨false, _, rfl, ⟨(by repeat (first | with_reducible exact Out.refl _ _ | refine Out.upd ?_ rfl | refine Out.updL ?_ rfl | refine Out.mix' ?_ rfl | exact Out.refl _ _)), rfl, rfl, trivial⟩, ch56, hs33, hm⟩
    ·
     replace hm := bif_f hm hc38
     refine Wp_exit ?_
     refine Wp_seq ?_
     obtain ⟨hs74, p75⟩ := hs33.sub (bs' := []) (.cons _ List.Sublist.slnil)
     clear f_a_volumes f_a_sectors f_a_configs f_a_segments f_a_routes f_a_airports f_a_classes f_a_rules f_y25
     replace ch37 := ch37.trans p75; clear p75 hs33
     refine Wp_region ?_
     refine Rg_op rfl (op_assign (v := (Value.int .i64 0)) rfl ?_)
     refine Rg_op rfl (op_assign (v := (Value.bool false)) rfl ?_)
     refine Rg_nil ?_
     refine Wp_ret ?_
     have hz := step_all hs74
     refine ⟨_, (show Closes [] _ _ from rfl), [(Value.int .i64 0), (Value.bool false)], ⟨rfl, rfl, trivial⟩, hs74.ext, ?_⟩
     exact Vr.eq (a := (vT2 (vI .i64) vB)) (x := (0, false)) (mkT2 ⟨rfl, (show InK .i64 0 from by decide)⟩ rfl) (Option.some.inj hm)
 ·
  intro K10 hK10
  have ch76 := Step.refl (ks [(some b1, Obj.cells [(Value.slice a_a_volumes a.volumes.length c_a_volumes), (Value.slice a_a_sectors a.sectors.length c_a_sectors), (Value.slice a_a_configs a.configs.length c_a_configs), (Value.slice a_a_segments a.segments.length c_a_segments), (Value.slice a_a_routes a.routes.length c_a_routes), (Value.slice a_a_airports a.airports.length c_a_airports), (Value.slice a_a_classes a.classes.length c_a_classes), (Value.slice a_a_rules a.rules.length c_a_rules)].toArray 31)] O) w2
  refine Wp_region ?_
  refine Rg_op rfl (op_move (v := (Value.int .i64 konfig)) rfl ?_)
  refine Rg_op rfl (op_lss rfl rfl ?_)
  refine Rg_op rfl (op_move (v := (Value.bool (decide (konfig < 0)))) rfl ?_)
  refine Rg_case (fun hg77 => ?_) (fun hg77 => ?_)
  ·
   replace hm := bif_t hm hg77
   iterate 5 refine Rg_opx rfl (asB_ne rfl rfl) rfl ?_
   refine Rg_op rfl (op_pick_t (v := (Value.bool true)) rfl rfl ?_)
   refine Rg_nil ?_
   exact hK10 _ _ ⟨true, _, rfl, ⟨(by repeat (first | with_reducible exact Out.refl _ _ | refine Out.upd ?_ rfl | refine Out.updL ?_ rfl | refine Out.mix' ?_ rfl | exact Out.refl _ _)), rfl, rfl, trivial⟩, ch76, hs4, hm⟩
  ·
   replace hm := bif_f hm hg77
   refine Rg_opg rfl rfl rfl (op_move (v := (Value.int .i64 konfig)) rfl ?_)
   refine Rg_opg rfl rfl rfl (op_fieldAddr ty31 rfl ty24 (by decide) rfl (rfl : _ = (⟨_, 2, none⟩ : Addr)) ?_)
   refine Rg_opg rfl rfl rfl (op_load (cs := [(Value.slice a_a_volumes a.volumes.length c_a_volumes), (Value.slice a_a_sectors a.sectors.length c_a_sectors), (Value.slice a_a_configs a.configs.length c_a_configs), (Value.slice a_a_segments a.segments.length c_a_segments), (Value.slice a_a_routes a.routes.length c_a_routes), (Value.slice a_a_airports a.airports.length c_a_airports), (Value.slice a_a_classes a.classes.length c_a_classes), (Value.slice a_a_rules a.rules.length c_a_rules)]) (i := 0) ty24 hs4 rfl rfl rfl ?_)
   refine Rg_opg rfl rfl rfl (op_len Try.underlying24 rfl ?_)
   refine Rg_opg rfl rfl rfl (op_geq rfl rfl ?_)
   refine Rg_op rfl (op_pick_f (v := (Value.bool (decide ((a.configs.length : Int) ≤ konfig)))) rfl rfl ?_)
   refine Rg_nil ?_
   exact hK10 _ _ ⟨(decide ((a.configs.length : Int) ≤ konfig)), _, rfl, ⟨(by repeat (first | with_reducible exact Out.refl _ _ | refine Out.upd ?_ rfl | refine Out.updL ?_ rfl | refine Out.mix' ?_ rfl | exact Out.refl _ _)), rfl, rfl, trivial⟩, ch76, hs4, hm⟩

end Go.Fx



set_option linter.unusedVariables false
set_option linter.unusedSimpArgs false
set_option maxRecDepth 100000
set_option maxHeartbeats 0
namespace Go.Fx
open Go Go.RowKit Go.Proofs
def m41_configs_sets_B1 (a : XAirspace) (v_1 : Int) (sf10 : (List Int) → Int → Option ((List Int) × Bool)) (sf41 : (List Int) → Int → Int → Option ((List Int) × Bool)) (l_2 : List Int) (x_1 : Int) (v_2 : Int) : Option ((List Int) × Bool) :=
 bif (decide (v_2 < (((a.sectors.getD v_1.toNat default).volumes).length : Int))) then
  ck ((0 : Int) ≤ v_2 ∧ v_2 < (((a.sectors.getD v_1.toNat default).volumes).length : Int)) <|
  jn (fun (v_3 : Bool) =>
   bif v_3 then
    some (([] : List Int), false)
   else
    ck ((0 : Int) ≤ (((a.sectors.getD v_1.toNat default).volumes).getD v_2.toNat default)) <|
    sf41 l_2 (Go.bits .or .u64 x_1 (IntKind.wrap .u64 (1 * 2 ^ min (((a.sectors.getD v_1.toNat default).volumes).getD v_2.toNat default).toNat (IntKind.bits .u64)))) (IntKind.wrap .i64 (v_2 + 1)))
  (fun k60 =>
   bif (decide ((((a.sectors.getD v_1.toNat default).volumes).getD v_2.toNat default) < 0)) then
    k60 true
   else
    bif (decide ((a.volumes.length : Int) ≤ (((a.sectors.getD v_1.toNat default).volumes).getD v_2.toNat default))) then
     k60 true
    else
     ck ((0 : Int) ≤ (((a.sectors.getD v_1.toNat default).volumes).getD v_2.toNat default)) <|
     k60 (decide ((Go.bits .and .u64 x_1 (IntKind.wrap .u64 (1 * 2 ^ min (((a.sectors.getD v_1.toNat default).volumes).getD v_2.toNat default).toNat (IntKind.bits .u64)))) ≠ 0)))
 else
  bif (decide (x_1 = 0)) then
   some (([] : List Int), false)
  else
   ck ((l_2.length + [x_1].length) * 8 ≤ 140737488355328) <|
   sf10 (l_2 ++ [x_1]) (IntKind.wrap .i64 (v_1 + 1))

def m41_configs_sets_B0 (a : XAirspace) (sf10 : (List Int) → Int → Option ((List Int) × Bool)) (l_1 : List Int) (v_1 : Int) : Option ((List Int) × Bool) :=
 bif (decide (v_1 < (a.sectors.length : Int))) then
  ck ((0 : Int) ≤ v_1 ∧ v_1 < (a.sectors.length : Int)) <|
  loop3 (m41_configs_sets_B1 a v_1 sf10) (((((a.sectors.getD v_1.toNat default).volumes).length : Int) - 0).toNat + 1) l_1 0 0
 else
  some (l_1, true)

def m41_configs_sets (a : XAirspace) : Option ((List Int) × Bool) :=
 loop2 (m41_configs_sets_B0 a) (((a.sectors.length : Int) - 0).toNat + 1) ([] : List Int) 0

theorem c41_configs_sets {w : World} {O : List Nat} {a : XAirspace} {a_a_volumes : Option Addr} {c_a_volumes : Nat} {a_a_sectors : Option Addr} {c_a_sectors : Nat} {a_a_configs : Option Addr} {c_a_configs : Nat} {a_a_segments : Option Addr} {c_a_segments : Nat} {a_a_routes : Option Addr} {c_a_routes : Nat} {a_a_airports : Option Addr} {c_a_airports : Nat} {a_a_classes : Option Addr} {c_a_classes : Nat} {a_a_rules : Option Addr} {c_a_rules : Nat} (hO : ∀ k ∈ O, k < w.heap.size) (f_a_volumes : SlR rXVolume w O a_a_volumes c_a_volumes a.volumes) (f_a_sectors : SlR rXSector w O a_a_sectors c_a_sectors a.sectors) (f_a_configs : SlR rXConfig w O a_a_configs c_a_configs a.configs) (f_a_segments : SlR rXSegment w O a_a_segments c_a_segments a.segments) (f_a_routes : SlR rXRoute w O a_a_routes c_a_routes a.routes) (f_a_airports : SlR rXAirport w O a_a_airports c_a_airports a.airports) (f_a_classes : SlR rXClass w O a_a_classes c_a_classes a.classes) (f_a_rules : SlR rXRule w O a_a_rules c_a_rules a.rules) {x : (List Int) × Bool} (hm : m41_configs_sets a = some x) :
  Ok Try.prog 41 [(Value.agg [(Value.slice a_a_volumes a.volumes.length c_a_volumes), (Value.slice a_a_sectors a.sectors.length c_a_sectors), (Value.slice a_a_configs a.configs.length c_a_configs), (Value.slice a_a_segments a.segments.length c_a_segments), (Value.slice a_a_routes a.routes.length c_a_routes), (Value.slice a_a_airports a.airports.length c_a_airports), (Value.slice a_a_classes a.classes.length c_a_classes), (Value.slice a_a_rules a.rules.length c_a_rules)].toArray)] w O (vT2 (vC (rSl (rInt .u64))) vB) x := by
 unfold m41_configs_sets at hm
 refine Fn_of_Wp (n := 52) (xs := [.tmp 2, .tmp 3]) Try.func41 rfl Try.ntmps41 Try.results41 rfl ?_
 have hs := St.start hO
 refine Wp_seq ?_
 refine Wp_region ?_
 refine Rg_op rfl (op_box (cs := [(Value.slice a_a_volumes a.volumes.length c_a_volumes), (Value.slice a_a_sectors a.sectors.length c_a_sectors), (Value.slice a_a_configs a.configs.length c_a_configs), (Value.slice a_a_segments a.segments.length c_a_segments), (Value.slice a_a_routes a.routes.length c_a_routes), (Value.slice a_a_airports a.airports.length c_a_airports), (Value.slice a_a_classes a.classes.length c_a_classes), (Value.slice a_a_rules a.rules.length c_a_rules)]) hs rfl rfl ?_)
 intro b1 w2 _ p3 hs4
 replace f_a_volumes := f_a_volumes.step p3; replace f_a_sectors := f_a_sectors.step p3; replace f_a_configs := f_a_configs.step p3; replace f_a_segments := f_a_segments.step p3; replace f_a_routes := f_a_routes.step p3; replace f_a_airports := f_a_airports.step p3; replace f_a_classes := f_a_classes.step p3; replace f_a_rules := f_a_rules.step p3; clear p3
 refine Rg_op rfl (op_assign (v := (Value.slice none 0 0)) rfl ?_)
 refine Rg_op rfl (op_assign (v := (Value.bool false)) rfl ?_)
 refine Rg_nil ?_
 refine Wp_seq ?_
 refine Wp_seq ?_
 refine Wp_region ?_
 refine Rg_op rfl (op_fieldAddr ty31 rfl ty23 (by decide) rfl (rfl : _ = (⟨_, 1, none⟩ : Addr)) ?_)
 refine Rg_op rfl (op_load (cs := [(Value.slice a_a_volumes a.volumes.length c_a_volumes), (Value.slice a_a_sectors a.sectors.length c_a_sectors), (Value.slice a_a_configs a.configs.length c_a_configs), (Value.slice a_a_segments a.segments.length c_a_segments), (Value.slice a_a_routes a.routes.length c_a_routes), (Value.slice a_a_airports a.airports.length c_a_airports), (Value.slice a_a_classes a.classes.length c_a_classes), (Value.slice a_a_rules a.rules.length c_a_rules)]) (i := 0) ty23 hs4 rfl rfl rfl ?_)
 refine Rg_op rfl (op_len Try.underlying23 rfl ?_)
 refine Rg_op rfl (op_move (v := (Value.int .i64 0)) rfl ?_)
 refine Rg_nil ?_
 refine Wp_block ?_
 refine Wp_reset [] [(1, (Value.pointer (some ⟨b1, 0, none⟩))), (2, (Value.slice none 0 0)), (10, (Value.slice a_a_sectors a.sectors.length c_a_sectors)), (11, (Value.int .i64 (a.sectors.length : Int))), (12, (Value.int .i64 0))] rfl ⟨rfl, rfl, rfl, rfl, rfl, trivial⟩ fun ξ9 => ?_
 have hs14 := hs4.ghost (Obj.cells #[] 73)
 refine Wp_loopM [2, 3, 5, 6, 8, 12, 13, 14, 15, 16, 17, 18, 19, 20, 21, 22, 23, 24, 25, 26, 27, 28, 29, 30, 31, 32, 33, 34, 35, 36, 37, 38, 39, 40, 41, 42, 43, 44, 45, 46, 47, 48, 49, 50] (fun m fr w' => ∃ (l_1 : List Int) (v_1 : Int) (a_g7 : Option Addr) (c_g7 : Nat) (k_g7 : Option Nat) (o_g7 : Obj) (Ebs : Ents), Ebs = [(k_g7, o_g7), (some b1, Obj.cells [(Value.slice a_a_volumes a.volumes.length c_a_volumes), (Value.slice a_a_sectors a.sectors.length c_a_sectors), (Value.slice a_a_configs a.configs.length c_a_configs), (Value.slice a_a_segments a.segments.length c_a_segments), (Value.slice a_a_routes a.routes.length c_a_routes), (Value.slice a_a_airports a.airports.length c_a_airports), (Value.slice a_a_classes a.classes.length c_a_classes), (Value.slice a_a_rules a.rules.length c_a_rules)].toArray 31)] ∧ fr [] [(2, (Value.slice a_g7 l_1.length c_g7)), (12, (Value.int .i64 v_1))] ∧ Step (ks [(none, (Obj.cells #[] 73)), (some b1, Obj.cells [(Value.slice a_a_volumes a.volumes.length c_a_volumes), (Value.slice a_a_sectors a.sectors.length c_a_sectors), (Value.slice a_a_configs a.configs.length c_a_configs), (Value.slice a_a_segments a.segments.length c_a_segments), (Value.slice a_a_routes a.routes.length c_a_routes), (Value.slice a_a_airports a.airports.length c_a_airports), (Value.slice a_a_classes a.classes.length c_a_classes), (Value.slice a_a_rules a.rules.length c_a_rules)].toArray 31)] O) w2 (ks Ebs O) w' ∧ St ⟨w, [], []⟩ O w' Ebs ∧ Gs (rInt .u64) 73 w' (ks Ebs O) a_g7 c_g7 l_1 k_g7 o_g7 ∧ InK .i64 v_1 ∧ loop2 (m41_configs_sets_B0 a) m l_1 v_1 = some x) (((a.sectors.length : Int) - 0).toNat + 1) ⟨([] : List Int), 0, none, 0, none, (Obj.cells #[] 73), _, rfl, ⟨Out.refl _ _, rfl, rfl, rfl, trivial⟩, Step.refl _ _, hs14, Gs.nil_, (show InK .i64 0 from by decide), hm⟩ ?_ ?_
 · rintro _ _ ⟨_, _, _, _, _, _, _, _, _, _, _, _, _, hm⟩; exact loop2_z hm
 ·
  rintro m13 K12 hK12 ρ20 w16 ⟨l_1, v_1, a_g7, c_g7, k_g7, o_g7, Ebs, hEbs, hfr19, hst18, hs17, f_g7, r_y8, hm⟩
  obtain ⟨sf10, hsf11, hm⟩ := loop2_s hm; unfold m41_configs_sets_B0 at hm
  subst hEbs; rw [hfr19.eq]; clear hfr19
  replace f_a_volumes := f_a_volumes.step hst18; replace f_a_sectors := f_a_sectors.step hst18; replace f_a_configs := f_a_configs.step hst18; replace f_a_segments := f_a_segments.step hst18; replace f_a_routes := f_a_routes.step hst18; replace f_a_airports := f_a_airports.step hst18; replace f_a_classes := f_a_classes.step hst18; replace f_a_rules := f_a_rules.step hst18
  have ch21 := hst18
  refine Wp_seq ?_
  refine Wp_region ?_
  refine Rg_op rfl (op_lss rfl rfl ?_)
  refine Rg_nil ?_
  refine Wp_seq ?_
  refine Wp_cond rfl (fun hc22 => ?_) (fun hc22 => ?_)
  ·
   replace hm := bif_t hm hc22
   refine Wp_skip ?_
   refine Wp_seq ?_
   refine Wp_block ?_
   refine Wp_seq ?_
   refine Wp_region ?_
   replace hm := ck_some hm; obtain ⟨hc23, hm⟩ := hm
   refine Rg_op rfl (op_indexAddr (q := rXSector) ty23 ty50 rfl rfl f_a_sectors rfl hc23.1 hc23.2 ?_)
   intro p24 f25
   refine Rg_op rfl (op_loadPA ty50 rfl f25 rfl ?_)
   intro vs26 h27
   obtain ⟨_, _, rfl, rfl, ⟨_, _, rfl, ⟨a_y28_names, c_y28_names, rfl, f_y28_names⟩, ⟨_, _, rfl, ⟨a_y28_volumes, c_y28_volumes, rfl, f_y28_volumes⟩, ⟨_, _, rfl, ⟨rfl, r_y28_radar⟩, ⟨rfl, r_y28_procedural⟩⟩⟩⟩⟩ := h27
   refine Rg_op rfl (op_alloc ty50 hs17 ?_)
   intro b29 w30 _ p31 hs32
   replace f_a_volumes := f_a_volumes.step p31; replace f_a_sectors := f_a_sectors.step p31; replace f_a_configs := f_a_configs.step p31; replace f_a_segments := f_a_segments.step p31; replace f_a_routes := f_a_routes.step p31; replace f_a_airports := f_a_airports.step p31; replace f_a_classes := f_a_classes.step p31; replace f_a_rules := f_a_rules.step p31; replace f_g7 := f_g7.step p31; replace f25 := f25.step p31; replace f_y28_names := f_y28_names.step p31; replace f_y28_volumes := f_y28_volumes.step p31; replace ch21 := ch21.trans p31; clear p31 hs17
   refine Rg_op_ (op_store (cs := [(Value.string (bs [])), (Value.slice none 0 0), (Value.slice none 0 0), (Value.int .i64 0), (Value.int .i64 0)]) (vs := [(Value.string (bs ((a.sectors.getD v_1.toNat default).name))), (Value.slice a_y28_names ((a.sectors.getD v_1.toNat default).names).length c_y28_names), (Value.slice a_y28_volumes ((a.sectors.getD v_1.toNat default).volumes).length c_y28_volumes), (Value.int .i64 ((a.sectors.getD v_1.toNat default).radar)), (Value.int .i64 ((a.sectors.getD v_1.toNat default).procedural))]) (cs' := [(Value.string (bs ((a.sectors.getD v_1.toNat default).name))), (Value.slice a_y28_names ((a.sectors.getD v_1.toNat default).names).length c_y28_names), (Value.slice a_y28_volumes ((a.sectors.getD v_1.toNat default).volumes).length c_y28_volumes), (Value.int .i64 ((a.sectors.getD v_1.toNat default).radar)), (Value.int .i64 ((a.sectors.getD v_1.toNat default).procedural))]) (bs' := [(some b29, Obj.cells [(Value.string (bs ((a.sectors.getD v_1.toNat default).name))), (Value.slice a_y28_names ((a.sectors.getD v_1.toNat default).names).length c_y28_names), (Value.slice a_y28_volumes ((a.sectors.getD v_1.toNat default).volumes).length c_y28_volumes), (Value.int .i64 ((a.sectors.getD v_1.toNat default).radar)), (Value.int .i64 ((a.sectors.getD v_1.toNat default).procedural))].toArray 50), (k_g7, o_g7), (some b1, Obj.cells [(Value.slice a_a_volumes a.volumes.length c_a_volumes), (Value.slice a_a_sectors a.sectors.length c_a_sectors), (Value.slice a_a_configs a.configs.length c_a_configs), (Value.slice a_a_segments a.segments.length c_a_segments), (Value.slice a_a_routes a.routes.length c_a_routes), (Value.slice a_a_airports a.airports.length c_a_airports), (Value.slice a_a_classes a.classes.length c_a_classes), (Value.slice a_a_rules a.rules.length c_a_rules)].toArray 31)]) (i := 0) ty50 hs32 rfl rfl rfl rfl rfl (le_lit rfl) rfl rfl rfl ?_)
   intro w34 p35 hs36
   replace f_a_volumes := f_a_volumes.step p35; replace f_a_sectors := f_a_sectors.step p35; replace f_a_configs := f_a_configs.step p35; replace f_a_segments := f_a_segments.step p35; replace f_a_routes := f_a_routes.step p35; replace f_a_airports := f_a_airports.step p35; replace f_a_classes := f_a_classes.step p35; replace f_a_rules := f_a_rules.step p35; replace f_g7 := f_g7.step p35; replace f25 := f25.step p35; replace f_y28_names := f_y28_names.step p35; replace f_y28_volumes := f_y28_volumes.step p35; replace ch21 := ch21.trans p35; clear p35 hs32
   refine Rg_nil ?_
   refine Wp_seq ?_
   clear f25
   refine Wp_region ?_
   refine Rg_op rfl (op_assign (v := (Value.int .u64 0)) rfl ?_)
   refine Rg_nil ?_
   refine Wp_seq ?_
   refine Wp_seq ?_
   refine Wp_region ?_
   refine Rg_op rfl (op_fieldAddr ty50 rfl ty39 (by decide) rfl (rfl : _ = (⟨_, 2, none⟩ : Addr)) ?_)
   refine Rg_op rfl (op_load (cs := [(Value.string (bs ((a.sectors.getD v_1.toNat default).name))), (Value.slice a_y28_names ((a.sectors.getD v_1.toNat default).names).length c_y28_names), (Value.slice a_y28_volumes ((a.sectors.getD v_1.toNat default).volumes).length c_y28_volumes), (Value.int .i64 ((a.sectors.getD v_1.toNat default).radar)), (Value.int .i64 ((a.sectors.getD v_1.toNat default).procedural))]) (i := 0) ty39 hs36 rfl rfl rfl ?_)
   refine Rg_op rfl (op_len Try.underlying39 rfl ?_)
   refine Rg_op rfl (op_move (v := (Value.int .i64 0)) rfl ?_)
   refine Rg_nil ?_
   refine Wp_block ?_
   refine Wp_reset2 [2, 3, 5, 6, 8, 12, 13, 14, 15, 16, 17, 18, 19, 20, 21, 22, 23, 24, 25, 26, 27, 28, 29, 30, 31, 32, 33, 34, 35, 36, 37, 38, 39, 40, 41, 42, 43, 44, 45, 46, 47, 48, 49, 50] [] (updL ⟨ξ9, []⟩ [(1, (Value.pointer (some ⟨b1, 0, none⟩))), (2, (Value.slice none 0 0)), (10, (Value.slice a_a_sectors a.sectors.length c_a_sectors)), (11, (Value.int .i64 (a.sectors.length : Int))), (12, (Value.int .i64 0))]) [(2, (Value.slice a_g7 l_1.length c_g7)), (6, (Value.int .u64 0)), (12, (Value.int .i64 v_1)), (17, (Value.slice a_y28_volumes ((a.sectors.getD v_1.toNat default).volumes).length c_y28_volumes)), (18, (Value.int .i64 (((a.sectors.getD v_1.toNat default).volumes).length : Int))), (19, (Value.int .i64 0))] (by repeat (first | with_reducible exact Out.refl _ _ | refine Out.upd ?_ rfl | refine Out.updL ?_ rfl | refine Out.mix' ?_ rfl | exact Out.refl _ _)) rfl ⟨rfl, rfl, rfl, rfl, rfl, rfl, trivial⟩ fun ξ40 => ?_
   refine Wp_loopM [2, 3, 6, 8, 19, 20, 21, 22, 23, 24, 25, 26, 27, 28, 29, 30, 31, 32, 33, 34, 35, 36, 37, 38, 39, 40, 41, 42, 43] (fun m fr w' => ∃ (l_2 : List Int) (x_1 : Int) (v_2 : Int) (a_g37 : Option Addr) (c_g37 : Nat) (k_g37 : Option Nat) (o_g37 : Obj) (Ebs : Ents), Ebs = [(some b29, Obj.cells [(Value.string (bs ((a.sectors.getD v_1.toNat default).name))), (Value.slice a_y28_names ((a.sectors.getD v_1.toNat default).names).length c_y28_names), (Value.slice a_y28_volumes ((a.sectors.getD v_1.toNat default).volumes).length c_y28_volumes), (Value.int .i64 ((a.sectors.getD v_1.toNat default).radar)), (Value.int .i64 ((a.sectors.getD v_1.toNat default).procedural))].toArray 50), (k_g37, o_g37), (some b1, Obj.cells [(Value.slice a_a_volumes a.volumes.length c_a_volumes), (Value.slice a_a_sectors a.sectors.length c_a_sectors), (Value.slice a_a_configs a.configs.length c_a_configs), (Value.slice a_a_segments a.segments.length c_a_segments), (Value.slice a_a_routes a.routes.length c_a_routes), (Value.slice a_a_airports a.airports.length c_a_airports), (Value.slice a_a_classes a.classes.length c_a_classes), (Value.slice a_a_rules a.rules.length c_a_rules)].toArray 31)] ∧ fr [] [(2, (Value.slice a_g37 l_2.length c_g37)), (6, (Value.int .u64 x_1)), (19, (Value.int .i64 v_2))] ∧ Step (ks [(some b29, Obj.cells [(Value.string (bs ((a.sectors.getD v_1.toNat default).name))), (Value.slice a_y28_names ((a.sectors.getD v_1.toNat default).names).length c_y28_names), (Value.slice a_y28_volumes ((a.sectors.getD v_1.toNat default).volumes).length c_y28_volumes), (Value.int .i64 ((a.sectors.getD v_1.toNat default).radar)), (Value.int .i64 ((a.sectors.getD v_1.toNat default).procedural))].toArray 50), (k_g7, o_g7), (some b1, Obj.cells [(Value.slice a_a_volumes a.volumes.length c_a_volumes), (Value.slice a_a_sectors a.sectors.length c_a_sectors), (Value.slice a_a_configs a.configs.length c_a_configs), (Value.slice a_a_segments a.segments.length c_a_segments), (Value.slice a_a_routes a.routes.length c_a_routes), (Value.slice a_a_airports a.airports.length c_a_airports), (Value.slice a_a_classes a.classes.length c_a_classes), (Value.slice a_a_rules a.rules.length c_a_rules)].toArray 31)] O) w34 (ks Ebs O) w' ∧ St ⟨w, [], []⟩ O w' Ebs ∧ Gs (rInt .u64) 73 w' (ks Ebs O) a_g37 c_g37 l_2 k_g37 o_g37 ∧ InK .u64 x_1 ∧ InK .i64 v_2 ∧ loop3 (m41_configs_sets_B1 a v_1 sf10) m l_2 x_1 v_2 = some x) (((((a.sectors.getD v_1.toNat default).volumes).length : Int) - 0).toNat + 1) ⟨l_1, 0, 0, a_g7, c_g7, k_g7, o_g7, _, rfl, ⟨Out.refl _ _, rfl, rfl, rfl, rfl, trivial⟩, Step.refl _ _, hs36, f_g7, (show InK .u64 0 from by decide), (show InK .i64 0 from by decide), hm⟩ ?_ ?_
   · rintro _ _ ⟨_, _, _, _, _, _, _, _, _, _, _, _, _, _, _, hm⟩; exact loop3_z hm
   ·
    rintro m44 K43 hK43 ρ49 w45 ⟨l_2, x_1, v_2, a_g37, c_g37, k_g37, o_g37, Ebs, hEbs, hfr48, hst47, hs46, f_g37, r_y38, r_y39, hm⟩
    obtain ⟨sf41, hsf42, hm⟩ := loop3_s hm; unfold m41_configs_sets_B1 at hm
    subst hEbs; rw [hfr48.eq]; clear hfr48
    replace f_a_volumes := f_a_volumes.step hst47; replace f_a_sectors := f_a_sectors.step hst47; replace f_a_configs := f_a_configs.step hst47; replace f_a_segments := f_a_segments.step hst47; replace f_a_routes := f_a_routes.step hst47; replace f_a_airports := f_a_airports.step hst47; replace f_a_classes := f_a_classes.step hst47; replace f_a_rules := f_a_rules.step hst47; replace f_g7 := f_g7.step hst47; replace f_y28_names := f_y28_names.step hst47; replace f_y28_volumes := f_y28_volumes.step hst47; replace ch21 := ch21.trans hst47
    have ch50 := hst47
    refine Wp_seq ?_
    clear f_g7
    refine Wp_region ?_
    refine Rg_op rfl (op_lss rfl rfl ?_)
    refine Rg_nil ?_
    refine Wp_seq ?_
    refine Wp_cond rfl (fun hc51 => ?_) (fun hc51 => ?_)
    ·
     replace hm := bif_t hm hc51
     refine Wp_skip ?_
     refine Wp_seq ?_
     refine Wp_block ?_
     refine Wp_seq ?_
     refine Wp_region ?_
     replace hm := ck_some hm; obtain ⟨hc52, hm⟩ := hm
     refine Rg_op rfl (op_indexAddr (q := (rInt .i64)) ty39 ty3 rfl rfl f_y28_volumes rfl hc52.1 hc52.2 ?_)
     intro p53 f54
     refine Rg_op rfl (op_loadP ty3 rfl f54 rfl ?_)
     intro v55 h56
     obtain ⟨rfl, r_y57⟩ := un_int h56
     refine Rg_op rfl (op_assign (v := (Value.int .i64 (((a.sectors.getD v_1.toNat default).volumes).getD v_2.toNat default))) rfl ?_)
     refine Rg_nil ?_
     refine Wp_seq ?_
     refine Wp_reset2 [2, 3, 6, 8, 19, 20, 21, 22, 23, 24, 25, 26, 27, 28, 29, 30, 31, 32, 33, 34, 35, 36, 37, 38, 39, 40, 41, 42, 43] [] (updL (mix [2, 3, 5, 6, 8, 12, 13, 14, 15, 16, 17, 18, 19, 20, 21, 22, 23, 24, 25, 26, 27, 28, 29, 30, 31, 32, 33, 34, 35, 36, 37, 38, 39, 40, 41, 42, 43, 44, 45, 46, 47, 48, 49, 50] [] ξ40 (updL ⟨ξ9, []⟩ [(1, (Value.pointer (some ⟨b1, 0, none⟩))), (2, (Value.slice none 0 0)), (10, (Value.slice a_a_sectors a.sectors.length c_a_sectors)), (11, (Value.int .i64 (a.sectors.length : Int))), (12, (Value.int .i64 0))])) [(2, (Value.slice a_g7 l_1.length c_g7)), (6, (Value.int .u64 0)), (12, (Value.int .i64 v_1)), (17, (Value.slice a_y28_volumes ((a.sectors.getD v_1.toNat default).volumes).length c_y28_volumes)), (18, (Value.int .i64 (((a.sectors.getD v_1.toNat default).volumes).length : Int))), (19, (Value.int .i64 0))]) [(2, (Value.slice a_g37 l_2.length c_g37)), (6, (Value.int .u64 x_1)), (8, (Value.int .i64 (((a.sectors.getD v_1.toNat default).volumes).getD v_2.toNat default))), (19, (Value.int .i64 v_2))] (by repeat (first | with_reducible exact Out.refl _ _ | refine Out.upd ?_ rfl | refine Out.updL ?_ rfl | refine Out.mix' ?_ rfl | exact Out.refl _ _)) rfl ⟨rfl, rfl, rfl, rfl, trivial⟩ fun ξ58 => ?_
     replace hm := jn_elim hm; obtain ⟨k60, hk61, hm⟩ := hm
     refine Wp_seqJ [23, 24, 25, 26, 27, 28, 29, 30, 31, 32, 33, 34, 35, 36, 37, 38] (fun fr w' => ∃ (v_3 : Bool) (Ebs : Ents), Ebs = [(some b29, Obj.cells [(Value.string (bs ((a.sectors.getD v_1.toNat default).name))), (Value.slice a_y28_names ((a.sectors.getD v_1.toNat default).names).length c_y28_names), (Value.slice a_y28_volumes ((a.sectors.getD v_1.toNat default).volumes).length c_y28_volumes), (Value.int .i64 ((a.sectors.getD v_1.toNat default).radar)), (Value.int .i64 ((a.sectors.getD v_1.toNat default).procedural))].toArray 50), (k_g37, o_g37), (some b1, Obj.cells [(Value.slice a_a_volumes a.volumes.length c_a_volumes), (Value.slice a_a_sectors a.sectors.length c_a_sectors), (Value.slice a_a_configs a.configs.length c_a_configs), (Value.slice a_a_segments a.segments.length c_a_segments), (Value.slice a_a_routes a.routes.length c_a_routes), (Value.slice a_a_airports a.airports.length c_a_airports), (Value.slice a_a_classes a.classes.length c_a_classes), (Value.slice a_a_rules a.rules.length c_a_rules)].toArray 31)] ∧ fr [] [(38, (Value.bool v_3))] ∧ Step (ks [(some b29, Obj.cells [(Value.string (bs ((a.sectors.getD v_1.toNat default).name))), (Value.slice a_y28_names ((a.sectors.getD v_1.toNat default).names).length c_y28_names), (Value.slice a_y28_volumes ((a.sectors.getD v_1.toNat default).volumes).length c_y28_volumes), (Value.int .i64 ((a.sectors.getD v_1.toNat default).radar)), (Value.int .i64 ((a.sectors.getD v_1.toNat default).procedural))].toArray 50), (k_g37, o_g37), (some b1, Obj.cells [(Value.slice a_a_volumes a.volumes.length c_a_volumes), (Value.slice a_a_sectors a.sectors.length c_a_sectors), (Value.slice a_a_configs a.configs.length c_a_configs), (Value.slice a_a_segments a.segments.length c_a_segments), (Value.slice a_a_routes a.routes.length c_a_routes), (Value.slice a_a_airports a.airports.length c_a_airports), (Value.slice a_a_classes a.classes.length c_a_classes), (Value.slice a_a_rules a.rules.length c_a_rules)].toArray 31)] O) w45 (ks Ebs O) w' ∧ St ⟨w, [], []⟩ O w' Ebs ∧ k60 v_3 = some x) ?_ ?_
     ·
      rintro ρ67 w63 ⟨v_3, Ebs, hEbs, hfr66, hst65, hs64, hm⟩
      replace hm := jnE1 hk61 hm
      subst hEbs; rw [hfr66.eq]; clear hfr66
      replace f_a_volumes := f_a_volumes.step hst65; replace f_a_sectors := f_a_sectors.step hst65; replace f_a_configs := f_a_configs.step hst65; replace f_a_segments := f_a_segments.step hst65; replace f_a_routes := f_a_routes.step hst65; replace f_a_airports := f_a_airports.step hst65; replace f_a_classes := f_a_classes.step hst65; replace f_a_rules := f_a_rules.step hst65; replace f_y28_names := f_y28_names.step hst65; replace f_y28_volumes := f_y28_volumes.step hst65; replace f_g37 := f_g37.step hst65; replace f54 := f54.step hst65; replace ch21 := ch21.trans hst65; replace ch50 := ch50.trans hst65; clear hst65 hs46
      refine Wp_cond rfl (fun hc68 => ?_) (fun hc68 => ?_)
      ·
       replace hm := bif_t hm hc68
       refine Wp_seq ?_
       clear f_g37 f54
       refine Wp_region ?_
       refine Rg_op rfl (op_assign (v := (Value.slice none 0 0)) rfl ?_)
       refine Rg_op rfl (op_assign (v := (Value.bool false)) rfl ?_)
       refine Rg_nil ?_
       refine Wp_ret ?_
       have hz := step_all hs64
       replace f_a_volumes := f_a_volumes.step hz; replace f_a_sectors := f_a_sectors.step hz; replace f_a_configs := f_a_configs.step hz; replace f_a_segments := f_a_segments.step hz; replace f_a_routes := f_a_routes.step hz; replace f_a_airports := f_a_airports.step hz; replace f_a_classes := f_a_classes.step hz; replace f_a_rules := f_a_rules.step hz; replace f_y28_names := f_y28_names.step hz; replace f_y28_volumes := f_y28_volumes.step hz
       refine ⟨_, (show Closes [] _ _ from rfl), [(Value.slice none 0 0), (Value.bool false)], ⟨rfl, rfl, trivial⟩, hs64.ext, ?_⟩
       exact Vr.eq (a := (vT2 (vC (rSl (rInt .u64))) vB)) (x := (([] : List Int), false)) (mkT2 (mkC (mk_sl SlR.nil_)) rfl) (Option.some.inj hm)
      ·
       replace hm := bif_f hm hc68
       refine Wp_skip ?_
       clear f54
       refine Wp_region ?_
       refine Rg_op rfl (op_move (v := (Value.int .u64 x_1)) rfl ?_)
       refine Rg_op rfl (op_move (v := (Value.int .i64 (((a.sectors.getD v_1.toNat default).volumes).getD v_2.toNat default))) rfl ?_)
       replace hm := ck_some hm; obtain ⟨hc69, hm⟩ := hm
       refine Rg_op rfl (op_shl rfl rfl hc69 ?_)
       refine Rg_op rfl (op_or rfl rfl ?_)
       refine Rg_op rfl (op_assign (v := (Value.int .u64 (Go.bits .or .u64 x_1 (IntKind.wrap .u64 (1 * 2 ^ min (((a.sectors.getD v_1.toNat default).volumes).getD v_2.toNat default).toNat (IntKind.bits .u64)))))) rfl ?_)
       refine Rg_nil ?_
       refine Wp_region ?_
       refine Rg_op rfl (op_addw rfl rfl ?_)
       refine Rg_op rfl (op_move (v := (Value.int .i64 (IntKind.wrap .i64 (v_2 + 1)))) rfl ?_)
       refine Rg_nil ?_
       exact hK43 _ _ ⟨l_2, (Go.bits .or .u64 x_1 (IntKind.wrap .u64 (1 * 2 ^ min (((a.sectors.getD v_1.toNat default).volumes).getD v_2.toNat default).toNat (IntKind.bits .u64)))), (IntKind.wrap .i64 (v_2 + 1)), a_g37, c_g37, k_g37, o_g37, _, rfl, ⟨(by repeat (first | with_reducible exact Out.refl _ _ | refine Out.upd ?_ rfl | refine Out.updL ?_ rfl | refine Out.mix' ?_ rfl | exact Out.refl _ _)), rfl, rfl, rfl, rfl, trivial⟩, ch50, hs64, f_g37, (inK_bits .or .u64 _ _), (inK_wrap .i64 _), jnE3 hsf42 hm⟩
     ·
      intro K62 hK62
      have ch70 := Step.refl (ks [(some b29, Obj.cells [(Value.string (bs ((a.sectors.getD v_1.toNat default).name))), (Value.slice a_y28_names ((a.sectors.getD v_1.toNat default).names).length c_y28_names), (Value.slice a_y28_volumes ((a.sectors.getD v_1.toNat default).volumes).length c_y28_volumes), (Value.int .i64 ((a.sectors.getD v_1.toNat default).radar)), (Value.int .i64 ((a.sectors.getD v_1.toNat default).procedural))].toArray 50), (k_g37, o_g37), (some b1, Obj.cells [(Value.slice a_a_volumes a.volumes.length c_a_volumes), (Value.slice a_a_sectors a.sectors.length c_a_sectors), (Value.slice a_a_configs a.configs.length c_a_configs), (Value.slice a_a_segments a.segments.length c_a_segments), (Value.slice a_a_routes a.routes.length c_a_routes), (Value.slice a_a_airports a.airports.length c_a_airports), (Value.slice a_a_classes a.classes.length c_a_classes), (Value.slice a_a_rules a.rules.length c_a_rules)].toArray 31)] O) w45
      clear f54
      refine Wp_region ?_
      refine Rg_op rfl (op_move (v := (Value.int .i64 (((a.sectors.getD v_1.toNat default).volumes).getD v_2.toNat default))) rfl ?_)
      refine Rg_op rfl (op_lss rfl rfl ?_)
      refine Rg_op rfl (op_move (v := (Value.bool (decide ((((a.sectors.getD v_1.toNat default).volumes).getD v_2.toNat default) < 0)))) rfl ?_)
      refine Rg_case (fun hg71 => ?_) (fun hg71 => ?_)
      ·
       replace hm := bif_t hm hg71
       iterate 5 refine Rg_opx rfl (asB_ne rfl rfl) rfl ?_
       refine Rg_op rfl (op_pick_t (v := (Value.bool true)) rfl rfl ?_)
       refine Rg_op rfl (op_move (v := (Value.bool true)) rfl ?_)
       iterate 5 refine Rg_opx rfl (asB_ne rfl rfl) rfl ?_
       refine Rg_op rfl (op_pick_t (v := (Value.bool true)) rfl rfl ?_)
       refine Rg_nil ?_
       exact hK62 _ _ ⟨true, _, rfl, ⟨(by repeat (first | with_reducible exact Out.refl _ _ | refine Out.upd ?_ rfl | refine Out.updL ?_ rfl | refine Out.mix' ?_ rfl | exact Out.refl _ _)), rfl, rfl, trivial⟩, ch70, hs46, hm⟩
      ·
       replace hm := bif_f hm hg71
       refine Rg_opg rfl rfl rfl (op_move (v := (Value.int .i64 (((a.sectors.getD v_1.toNat default).volumes).getD v_2.toNat default))) rfl ?_)
       refine Rg_opg rfl rfl rfl (op_fieldAddr ty31 rfl ty22 (by decide) rfl (rfl : _ = (⟨_, 0, none⟩ : Addr)) ?_)
       refine Rg_opg rfl rfl rfl (op_load (cs := [(Value.slice a_a_volumes a.volumes.length c_a_volumes), (Value.slice a_a_sectors a.sectors.length c_a_sectors), (Value.slice a_a_configs a.configs.length c_a_configs), (Value.slice a_a_segments a.segments.length c_a_segments), (Value.slice a_a_routes a.routes.length c_a_routes), (Value.slice a_a_airports a.airports.length c_a_airports), (Value.slice a_a_classes a.classes.length c_a_classes), (Value.slice a_a_rules a.rules.length c_a_rules)]) (i := 2) ty22 hs46 rfl rfl rfl ?_)
       refine Rg_opg rfl rfl rfl (op_len Try.underlying22 rfl ?_)
       refine Rg_opg rfl rfl rfl (op_geq rfl rfl ?_)
       refine Rg_op rfl (op_pick_f (v := (Value.bool (decide ((a.volumes.length : Int) ≤ (((a.sectors.getD v_1.toNat default).volumes).getD v_2.toNat default))))) rfl rfl ?_)
       refine Rg_op rfl (op_move (v := (Value.bool (decide ((a.volumes.length : Int) ≤ (((a.sectors.getD v_1.toNat default).volumes).getD v_2.toNat default))))) rfl ?_)
       refine Rg_case (fun hg72 => ?_) (fun hg72 => ?_)
       ·
        replace hm := bif_t hm hg72
        iterate 5 refine Rg_opx rfl (asB_ne rfl rfl) rfl ?_
        refine Rg_op rfl (op_pick_t (v := (Value.bool true)) rfl rfl ?_)
        refine Rg_nil ?_
        exact hK62 _ _ ⟨true, _, rfl, ⟨(by repeat (first | with_reducible exact Out.refl _ _ | refine Out.upd ?_ rfl | refine Out.updL ?_ rfl | refine Out.mix' ?_ rfl | exact Out.refl _ _)), rfl, rfl, trivial⟩, ch70, hs46, hm⟩
       ·
        replace hm := bif_f hm hg72
        refine Rg_opg rfl rfl rfl (op_move (v := (Value.int .u64 x_1)) rfl ?_)
        refine Rg_opg rfl rfl rfl (op_move (v := (Value.int .i64 (((a.sectors.getD v_1.toNat default).volumes).getD v_2.toNat default))) rfl ?_)
        replace hm := ck_some hm; obtain ⟨hc73, hm⟩ := hm
        refine Rg_opg rfl rfl rfl (op_shl rfl rfl hc73 ?_)
        refine Rg_opg rfl rfl rfl (op_and rfl rfl ?_)
        refine Rg_opg rfl rfl rfl (op_neq rfl rfl ?_)
        refine Rg_op rfl (op_pick_f (v := (Value.bool (decide ((Go.bits .and .u64 x_1 (IntKind.wrap .u64 (1 * 2 ^ min (((a.sectors.getD v_1.toNat default).volumes).getD v_2.toNat default).toNat (IntKind.bits .u64)))) ≠ 0)))) rfl rfl ?_)
        refine Rg_nil ?_
        exact hK62 _ _ ⟨(decide ((Go.bits .and .u64 x_1 (IntKind.wrap .u64 (1 * 2 ^ min (((a.sectors.getD v_1.toNat default).volumes).getD v_2.toNat default).toNat (IntKind.bits .u64)))) ≠ 0)), _, rfl, ⟨(by repeat (first | with_reducible exact Out.refl _ _ | refine Out.upd ?_ rfl | refine Out.updL ?_ rfl | refine Out.mix' ?_ rfl | exact Out.refl _ _)), rfl, rfl, trivial⟩, ch70, hs46, hm⟩
    ·
     replace hm := bif_f hm hc51
     refine Wp_exit ?_
     refine Wp_seq ?_
     refine Wp_seq ?_
     refine Wp_region ?_
     refine Rg_op rfl (op_move (v := (Value.int .u64 x_1)) rfl ?_)
     refine Rg_op rfl (op_eql rfl rfl ?_)
     refine Rg_nil ?_
     refine Wp_cond rfl (fun hc74 => ?_) (fun hc74 => ?_)
     ·
      replace hm := bif_t hm hc74
      refine Wp_seq ?_
      clear f_g37
      refine Wp_region ?_
      refine Rg_op rfl (op_assign (v := (Value.slice none 0 0)) rfl ?_)
      refine Rg_op rfl (op_assign (v := (Value.bool false)) rfl ?_)
      refine Rg_nil ?_
      refine Wp_ret ?_
      have hz := step_all hs46
      replace f_a_volumes := f_a_volumes.step hz; replace f_a_sectors := f_a_sectors.step hz; replace f_a_configs := f_a_configs.step hz; replace f_a_segments := f_a_segments.step hz; replace f_a_routes := f_a_routes.step hz; replace f_a_airports := f_a_airports.step hz; replace f_a_classes := f_a_classes.step hz; replace f_a_rules := f_a_rules.step hz; replace f_y28_names := f_y28_names.step hz; replace f_y28_volumes := f_y28_volumes.step hz
      refine ⟨_, (show Closes [] _ _ from rfl), [(Value.slice none 0 0), (Value.bool false)], ⟨rfl, rfl, trivial⟩, hs46.ext, ?_⟩
      exact Vr.eq (a := (vT2 (vC (rSl (rInt .u64))) vB)) (x := (([] : List Int), false)) (mkT2 (mkC (mk_sl SlR.nil_)) rfl) (Option.some.inj hm)
     ·
      replace hm := bif_f hm hc74
      refine Wp_skip ?_
      refine Wp_region ?_
      refine Rg_op rfl (op_move (v := (Value.slice a_g37 l_2.length c_g37)) rfl ?_)
      refine Rg_op rfl (op_move (v := (Value.int .u64 x_1)) rfl ?_)
      refine Rg_op rfl (op_buildSlice (cs := [(Value.int .u64 x_1)]) (parts := [(0, .tmp 47)]) ty69 ty73 hs46 (by decide) rfl ?_)
      intro b75 w76 hx79 p77 hs78
      replace f_a_volumes := f_a_volumes.step p77; replace f_a_sectors := f_a_sectors.step p77; replace f_a_configs := f_a_configs.step p77; replace f_a_segments := f_a_segments.step p77; replace f_a_routes := f_a_routes.step p77; replace f_a_airports := f_a_airports.step p77; replace f_a_classes := f_a_classes.step p77; replace f_a_rules := f_a_rules.step p77; replace f_y28_names := f_y28_names.step p77; replace f_y28_volumes := f_y28_volumes.step p77; replace f_g37 := f_g37.step p77; replace ch21 := ch21.trans p77; replace ch50 := ch50.trans p77; clear p77 hs46
      replace hm := ck_some hm; obtain ⟨hc81, hm⟩ := hm
      refine Rg_op rfl (op_append (q := (rInt .u64)) (i := 2) (xs := l_2) (ys := [x_1]) (news := [(Value.int .u64 x_1)]) ty69 ty73 rfl (by decide) hs78 rfl rfl f_g37 rfl (Src.owned' (len := 1) (hs78.get (i := 0) rfl) rfl) (show Els (rInt .u64) _ _ [(Value.int .u64 x_1)] [x_1] from ⟨_, _, rfl, (mk_int r_y38), Els.nil⟩) hc81 (by have := hc81; simp only [maxLen]; omega) ?_)
      intro a85 c86 k87 o88 w82 p83 hs84 f89
      replace f_a_volumes := f_a_volumes.step p83; replace f_a_sectors := f_a_sectors.step p83; replace f_a_configs := f_a_configs.step p83; replace f_a_segments := f_a_segments.step p83; replace f_a_routes := f_a_routes.step p83; replace f_a_airports := f_a_airports.step p83; replace f_a_classes := f_a_classes.step p83; replace f_a_rules := f_a_rules.step p83; replace f_y28_names := f_y28_names.step p83; replace f_y28_volumes := f_y28_volumes.step p83; replace ch21 := ch21.trans p83; replace ch50 := ch50.trans p83; clear p83 hs78
      have hs90 := hs84.drop 0
      replace f_a_volumes := f_a_volumes.step (hs84.dropS 0)
      replace f_a_sectors := f_a_sectors.step (hs84.dropS 0)
      replace f_a_configs := f_a_configs.step (hs84.dropS 0)
      replace f_a_segments := f_a_segments.step (hs84.dropS 0)
      replace f_a_routes := f_a_routes.step (hs84.dropS 0)
      replace f_a_airports := f_a_airports.step (hs84.dropS 0)
      replace f_a_classes := f_a_classes.step (hs84.dropS 0)
      replace f_a_rules := f_a_rules.step (hs84.dropS 0)
      replace f_y28_names := f_y28_names.step (hs84.dropS 0)
      replace f_y28_volumes := f_y28_volumes.step (hs84.dropS 0)
      replace f89 := f89.step (hs84.dropS 0)
      replace ch21 := ch21.trans (hs84.dropS 0)
      replace ch50 := ch50.trans (hs84.dropS 0); clear hs84
      refine Rg_op rfl (op_assign (v := (Value.slice a85 (l_2 ++ [x_1]).length c86)) rfl ?_)
      refine Rg_nil ?_
      refine Wp_region ?_
      refine Rg_op rfl (op_addw rfl rfl ?_)
      refine Rg_op rfl (op_move (v := (Value.int .i64 (IntKind.wrap .i64 (v_1 + 1)))) rfl ?_)
      refine Rg_nil ?_
      have hs91 := hs90.drop 0
      replace f_a_volumes := f_a_volumes.step (hs90.dropS 0)
      replace f_a_sectors := f_a_sectors.step (hs90.dropS 0)
      replace f_a_configs := f_a_configs.step (hs90.dropS 0)
      replace f_a_segments := f_a_segments.step (hs90.dropS 0)
      replace f_a_routes := f_a_routes.step (hs90.dropS 0)
      replace f_a_airports := f_a_airports.step (hs90.dropS 0)
      replace f_a_classes := f_a_classes.step (hs90.dropS 0)
      replace f_a_rules := f_a_rules.step (hs90.dropS 0)
      replace f_y28_names := f_y28_names.step (hs90.dropS 0)
      replace f_y28_volumes := f_y28_volumes.step (hs90.dropS 0)
      replace f89 := f89.step (hs90.dropS 0)
      replace ch21 := ch21.trans (hs90.dropS 0)
      replace ch50 := ch50.trans (hs90.dropS 0); clear hs90
      exact hK12 _ _ ⟨(l_2 ++ [x_1]), (IntKind.wrap .i64 (v_1 + 1)), a85, c86, k87, o88, _, rfl, ⟨(by repeat (first | with_reducible exact Out.refl _ _ | refine Out.upd ?_ rfl | refine Out.updL ?_ rfl | refine Out.mix' ?_ rfl | exact Out.refl _ _)), rfl, rfl, rfl, trivial⟩, ch21, hs91, f89, (inK_wrap .i64 _), jnE2 hsf11 hm⟩
  ·
   replace hm := bif_f hm hc22
   refine Wp_exit ?_
   refine Wp_seq ?_
   obtain ⟨hs92, p93⟩ := hs17.sub (bs' := [(k_g7, o_g7)]) (.cons_cons _ (.cons _ List.Sublist.slnil))
   clear f_a_volumes f_a_sectors f_a_configs f_a_segments f_a_routes f_a_airports f_a_classes f_a_rules
   replace f_g7 := f_g7.step p93; replace ch21 := ch21.trans p93; clear p93 hs17
   refine Wp_region ?_
   refine Rg_op rfl (op_move (v := (Value.slice a_g7 l_1.length c_g7)) rfl ?_)
   refine Rg_op rfl (op_assign (v := (Value.slice a_g7 l_1.length c_g7)) rfl ?_)
   refine Rg_op rfl (op_assign (v := (Value.bool true)) rfl ?_)
   refine Rg_nil ?_
   refine Wp_ret ?_
   obtain ⟨hs95, p96, f94⟩ := Gs.publish (i := 0) hs92 rfl f_g7
   replace ch21 := ch21.trans p96; clear p96 hs92
   have hz := step_all hs95
   replace f94 := f94.step hz
   refine ⟨_, (show Closes [] _ _ from rfl), [(Value.slice a_g7 l_1.length c_g7), (Value.bool true)], ⟨rfl, rfl, trivial⟩, hs95.ext, ?_⟩
   exact Vr.eq (a := (vT2 (vC (rSl (rInt .u64))) vB)) (x := (l_1, true)) (mkT2 (mkC (mk_sl f94)) rfl) (Option.some.inj hm)

end Go.Fx



set_option linter.unusedVariables false
set_option linter.unusedSimpArgs false
set_option maxRecDepth 100000
set_option maxHeartbeats 0
namespace Go.Fx
open Go Go.RowKit Go.Proofs
def m31_configs_divisions_B1 (a : XAirspace) (sets_1 : (List Int) × Bool) (v_2 : Int) (sf40 : (List (List (Int × Bool))) → Int → Option ((List (List (Int × Bool))) × Bool)) (sf78 : (List (List (Int × Bool))) → Int → Int → (List (Int × Bool)) → Option ((List (List (Int × Bool))) × Bool)) (l_2 : List (List (Int × Bool))) (met_1 : Int) (v_3 : Int) (map_1 : List (Int × Bool)) : Option ((List (List (Int × Bool))) × Bool) :=
 bif (decide (v_3 < (((a.configs.getD v_2.toNat default).sectors).length : Int))) then
  ck ((0 : Int) ≤ v_3 ∧ v_3 < (((a.configs.getD v_2.toNat default).sectors).length : Int)) <|
  jn (fun (v_4 : Bool) =>
   bif v_4 then
    some (([] : List (List (Int × Bool))), false)
   else
    ck ((0 : Int) ≤ (((a.configs.getD v_2.toNat default).sectors).getD v_3.toNat default) ∧ (((a.configs.getD v_2.toNat default).sectors).getD v_3.toNat default) < (sets_1.1.length : Int)) <|
    ck ((0 : Int) ≤ (((a.configs.getD v_2.toNat default).sectors).getD v_3.toNat default) ∧ (((a.configs.getD v_2.toNat default).sectors).getD v_3.toNat default) < (sets_1.1.length : Int)) <|
    sf78 l_2 (Go.bits .or .u64 met_1 (sets_1.1.getD (((a.configs.getD v_2.toNat default).sectors).getD v_3.toNat default).toNat default)) (IntKind.wrap .i64 (v_3 + 1)) (mput map_1 (sets_1.1.getD (((a.configs.getD v_2.toNat default).sectors).getD v_3.toNat default).toNat default) true))
  (fun k97 =>
   bif (decide ((((a.configs.getD v_2.toNat default).sectors).getD v_3.toNat default) < 0)) then
    k97 true
   else
    bif (decide ((sets_1.1.length : Int) ≤ (((a.configs.getD v_2.toNat default).sectors).getD v_3.toNat default))) then
     k97 true
    else
     ck ((0 : Int) ≤ (((a.configs.getD v_2.toNat default).sectors).getD v_3.toNat default) ∧ (((a.configs.getD v_2.toNat default).sectors).getD v_3.toNat default) < (sets_1.1.length : Int)) <|
     k97 (decide ((Go.bits .and .u64 met_1 (sets_1.1.getD (((a.configs.getD v_2.toNat default).sectors).getD v_3.toNat default).toNat default)) ≠ 0)))
 else
  bif (decide (met_1 ≠ (18446744073709551615 / 2 ^ min (IntKind.wrap .i64 (64 - (a.volumes.length : Int))).toNat (IntKind.bits .u64)))) then
   some (([] : List (List (Int × Bool))), false)
  else
   ck ((l_2.length + [map_1].length) * 8 ≤ 140737488355328) <|
   sf40 (l_2 ++ [map_1]) (IntKind.wrap .i64 (v_2 + 1))

def m31_configs_divisions_B0 (a : XAirspace) (sets_1 : (List Int) × Bool) (sf40 : (List (List (Int × Bool))) → Int → Option ((List (List (Int × Bool))) × Bool)) (l_1 : List (List (Int × Bool))) (v_2 : Int) : Option ((List (List (Int × Bool))) × Bool) :=
 bif (decide (v_2 < (a.configs.length : Int))) then
  ck ((0 : Int) ≤ v_2 ∧ v_2 < (a.configs.length : Int)) <|
  loop4 (m31_configs_divisions_B1 a sets_1 v_2 sf40) (((((a.configs.getD v_2.toNat default).sectors).length : Int) - 0).toNat + 1) l_1 0 0 ([] : List (Int × Bool))
 else
  some (l_1, true)

def m31_configs_divisions (a : XAirspace) : Option ((List (List (Int × Bool))) × Bool) :=
 jn (fun (v_1 : Bool) =>
  bif v_1 then
   some (([] : List (List (Int × Bool))), false)
  else
   (m41_configs_sets a).bind fun sets_1 =>
   bif (!sets_1.2) then
    some (([] : List (List (Int × Bool))), false)
   else
    ck ((0 : Int) ≤ (IntKind.wrap .i64 (64 - (a.volumes.length : Int)))) <|
    loop2 (m31_configs_divisions_B0 a sets_1) (((a.configs.length : Int) - 0).toNat + 1) ([] : List (List (Int × Bool))) 0)
 (fun k8 =>
  bif (decide ((a.volumes.length : Int) < 1)) then
   k8 true
  else
   bif (decide (64 < (a.volumes.length : Int))) then
    k8 true
   else
    bif (decide (64 < (a.sectors.length : Int))) then
     k8 true
    else
     bif (decide ((a.configs.length : Int) < 1)) then
      k8 true
     else
      k8 (decide (32 < (a.configs.length : Int))))

theorem c31_configs_divisions {w : World} {O : List Nat} {a : XAirspace} {a_a_volumes : Option Addr} {c_a_volumes : Nat} {a_a_sectors : Option Addr} {c_a_sectors : Nat} {a_a_configs : Option Addr} {c_a_configs : Nat} {a_a_segments : Option Addr} {c_a_segments : Nat} {a_a_routes : Option Addr} {c_a_routes : Nat} {a_a_airports : Option Addr} {c_a_airports : Nat} {a_a_classes : Option Addr} {c_a_classes : Nat} {a_a_rules : Option Addr} {c_a_rules : Nat} (hO : ∀ k ∈ O, k < w.heap.size) (f_a_volumes : SlR rXVolume w O a_a_volumes c_a_volumes a.volumes) (f_a_sectors : SlR rXSector w O a_a_sectors c_a_sectors a.sectors) (f_a_configs : SlR rXConfig w O a_a_configs c_a_configs a.configs) (f_a_segments : SlR rXSegment w O a_a_segments c_a_segments a.segments) (f_a_routes : SlR rXRoute w O a_a_routes c_a_routes a.routes) (f_a_airports : SlR rXAirport w O a_a_airports c_a_airports a.airports) (f_a_classes : SlR rXClass w O a_a_classes c_a_classes a.classes) (f_a_rules : SlR rXRule w O a_a_rules c_a_rules a.rules) {x : (List (List (Int × Bool))) × Bool} (hm : m31_configs_divisions a = some x) :
  Ok Try.prog 31 [(Value.agg [(Value.slice a_a_volumes a.volumes.length c_a_volumes), (Value.slice a_a_sectors a.sectors.length c_a_sectors), (Value.slice a_a_configs a.configs.length c_a_configs), (Value.slice a_a_segments a.segments.length c_a_segments), (Value.slice a_a_routes a.routes.length c_a_routes), (Value.slice a_a_airports a.airports.length c_a_airports), (Value.slice a_a_classes a.classes.length c_a_classes), (Value.slice a_a_rules a.rules.length c_a_rules)].toArray)] w O (vT2 (vC (rSl (rMp .u64 mvB))) vB) x := by
 unfold m31_configs_divisions at hm
 refine Fn_of_Wp (n := 105) (xs := [.tmp 2, .tmp 3]) Try.func31 rfl Try.ntmps31 Try.results31 rfl ?_
 have hs := St.start hO
 refine Wp_seq ?_
 refine Wp_region ?_
 refine Rg_op rfl (op_box (cs := [(Value.slice a_a_volumes a.volumes.length c_a_volumes), (Value.slice a_a_sectors a.sectors.length c_a_sectors), (Value.slice a_a_configs a.configs.length c_a_configs), (Value.slice a_a_segments a.segments.length c_a_segments), (Value.slice a_a_routes a.routes.length c_a_routes), (Value.slice a_a_airports a.airports.length c_a_airports), (Value.slice a_a_classes a.classes.length c_a_classes), (Value.slice a_a_rules a.rules.length c_a_rules)]) hs rfl rfl ?_)
 intro b1 w2 _ p3 hs4
 replace f_a_volumes := f_a_volumes.step p3; replace f_a_sectors := f_a_sectors.step p3; replace f_a_configs := f_a_configs.step p3; replace f_a_segments := f_a_segments.step p3; replace f_a_routes := f_a_routes.step p3; replace f_a_airports := f_a_airports.step p3; replace f_a_classes := f_a_classes.step p3; replace f_a_rules := f_a_rules.step p3; clear p3
 refine Rg_op rfl (op_assign (v := (Value.slice none 0 0)) rfl ?_)
 refine Rg_op rfl (op_assign (v := (Value.bool false)) rfl ?_)
 refine Rg_nil ?_
 refine Wp_seq ?_
 refine Wp_reset [] [(1, (Value.pointer (some ⟨b1, 0, none⟩))), (2, (Value.slice none 0 0))] rfl ⟨rfl, rfl, trivial⟩ fun ξ6 => ?_
 replace hm := jn_elim hm; obtain ⟨k8, hk9, hm⟩ := hm
 refine Wp_seqJ [12, 13, 14, 15, 16, 17, 18, 19, 20, 21, 22, 23, 24, 25, 26, 27, 28, 29, 30, 31, 32, 33, 34, 35, 36, 37, 38, 39] (fun fr w' => ∃ (v_1 : Bool) (Ebs : Ents), Ebs = [(some b1, Obj.cells [(Value.slice a_a_volumes a.volumes.length c_a_volumes), (Value.slice a_a_sectors a.sectors.length c_a_sectors), (Value.slice a_a_configs a.configs.length c_a_configs), (Value.slice a_a_segments a.segments.length c_a_segments), (Value.slice a_a_routes a.routes.length c_a_routes), (Value.slice a_a_airports a.airports.length c_a_airports), (Value.slice a_a_classes a.classes.length c_a_classes), (Value.slice a_a_rules a.rules.length c_a_rules)].toArray 31)] ∧ fr [] [(39, (Value.bool v_1))] ∧ Step (ks [(some b1, Obj.cells [(Value.slice a_a_volumes a.volumes.length c_a_volumes), (Value.slice a_a_sectors a.sectors.length c_a_sectors), (Value.slice a_a_configs a.configs.length c_a_configs), (Value.slice a_a_segments a.segments.length c_a_segments), (Value.slice a_a_routes a.routes.length c_a_routes), (Value.slice a_a_airports a.airports.length c_a_airports), (Value.slice a_a_classes a.classes.length c_a_classes), (Value.slice a_a_rules a.rules.length c_a_rules)].toArray 31)] O) w2 (ks Ebs O) w' ∧ St ⟨w, [], []⟩ O w' Ebs ∧ k8 v_1 = some x) ?_ ?_
 ·
  rintro ρ15 w11 ⟨v_1, Ebs, hEbs, hfr14, hst13, hs12, hm⟩
  replace hm := jnE1 hk9 hm
  subst hEbs; rw [hfr14.eq]; clear hfr14
  replace f_a_volumes := f_a_volumes.step hst13; replace f_a_sectors := f_a_sectors.step hst13; replace f_a_configs := f_a_configs.step hst13; replace f_a_segments := f_a_segments.step hst13; replace f_a_routes := f_a_routes.step hst13; replace f_a_airports := f_a_airports.step hst13; replace f_a_classes := f_a_classes.step hst13; replace f_a_rules := f_a_rules.step hst13; clear hst13 hs4
  refine Wp_cond rfl (fun hc16 => ?_) (fun hc16 => ?_)
  ·
   replace hm := bif_t hm hc16
   refine Wp_seq ?_
   obtain ⟨hs17, p18⟩ := hs12.sub (bs' := []) (.cons _ List.Sublist.slnil)
   clear f_a_volumes f_a_sectors f_a_configs f_a_segments f_a_routes f_a_airports f_a_classes f_a_rules
   clear p18 hs12
   refine Wp_region ?_
   refine Rg_op rfl (op_assign (v := (Value.slice none 0 0)) rfl ?_)
   refine Rg_op rfl (op_assign (v := (Value.bool false)) rfl ?_)
   refine Rg_nil ?_
   refine Wp_ret ?_
   have hz := step_all hs17
   refine ⟨_, (show Closes [] _ _ from rfl), [(Value.slice none 0 0), (Value.bool false)], ⟨rfl, rfl, trivial⟩, hs17.ext, ?_⟩
   exact Vr.eq (a := (vT2 (vC (rSl (rMp .u64 mvB))) vB)) (x := (([] : List (List (Int × Bool))), false)) (mkT2 (mkC (mk_sl SlR.nil_)) rfl) (Option.some.inj hm)
  ·
   replace hm := bif_f hm hc16
   refine Wp_skip ?_
   refine Wp_seq ?_
   refine Wp_region ?_
   refine Rg_op rfl (op_loadA (cs := [(Value.slice a_a_volumes a.volumes.length c_a_volumes), (Value.slice a_a_sectors a.sectors.length c_a_sectors), (Value.slice a_a_configs a.configs.length c_a_configs), (Value.slice a_a_segments a.segments.length c_a_segments), (Value.slice a_a_routes a.routes.length c_a_routes), (Value.slice a_a_airports a.airports.length c_a_airports), (Value.slice a_a_classes a.classes.length c_a_classes), (Value.slice a_a_rules a.rules.length c_a_rules)]) (vs := [(Value.slice a_a_volumes a.volumes.length c_a_volumes), (Value.slice a_a_sectors a.sectors.length c_a_sectors), (Value.slice a_a_configs a.configs.length c_a_configs), (Value.slice a_a_segments a.segments.length c_a_segments), (Value.slice a_a_routes a.routes.length c_a_routes), (Value.slice a_a_airports a.airports.length c_a_airports), (Value.slice a_a_classes a.classes.length c_a_classes), (Value.slice a_a_rules a.rules.length c_a_rules)]) (i := 0) ty31 hs12 rfl rfl rfl rfl ?_)
   replace hm := bd hm; obtain ⟨sets_1, hv19, hm⟩ := hm
   refine Rg_op rfl (op_call Try.call41 (c41_configs_sets (a := a) hs12.ltw f_a_volumes f_a_sectors f_a_configs f_a_segments f_a_routes f_a_airports f_a_classes f_a_rules hv19) rfl ?_)
   rintro v20 w21 ⟨hx22, h23⟩
   have hs24 := hs12.call hx22
   have p25 := Step.ext (O := ks [(some b1, Obj.cells [(Value.slice a_a_volumes a.volumes.length c_a_volumes), (Value.slice a_a_sectors a.sectors.length c_a_sectors), (Value.slice a_a_configs a.configs.length c_a_configs), (Value.slice a_a_segments a.segments.length c_a_segments), (Value.slice a_a_routes a.routes.length c_a_routes), (Value.slice a_a_airports a.airports.length c_a_airports), (Value.slice a_a_classes a.classes.length c_a_classes), (Value.slice a_a_rules a.rules.length c_a_rules)].toArray 31)] O) hx22
   clear hx22
   replace f_a_volumes := f_a_volumes.step p25; replace f_a_sectors := f_a_sectors.step p25; replace f_a_configs := f_a_configs.step p25; replace f_a_segments := f_a_segments.step p25; replace f_a_routes := f_a_routes.step p25; replace f_a_airports := f_a_airports.step p25; replace f_a_classes := f_a_classes.step p25; replace f_a_rules := f_a_rules.step p25; clear p25 hs12
   obtain ⟨v26, v27, rfl, h28, h29⟩ := h23
   obtain ⟨a_y30, c_y30, rfl, f_y30⟩ := un_sl h28
   obtain rfl := h29
   refine Rg_op rfl (op_move (v := (Value.tuple [(Value.slice a_y30 sets_1.1.length c_y30), (Value.bool sets_1.2)].toArray)) rfl ?_)
   refine Rg_op rfl (op_extract (v := (Value.slice a_y30 sets_1.1.length c_y30)) rfl rfl ?_)
   refine Rg_op rfl (op_extract (v := (Value.bool sets_1.2)) rfl rfl ?_)
   refine Rg_op rfl (op_assign (v := (Value.slice a_y30 sets_1.1.length c_y30)) rfl ?_)
   refine Rg_op rfl (op_assign (v := (Value.bool sets_1.2)) rfl ?_)
   refine Rg_nil ?_
   refine Wp_seq ?_
   refine Wp_seq ?_
   refine Wp_region ?_
   refine Rg_op rfl (op_move (v := (Value.bool sets_1.2)) rfl ?_)
   refine Rg_op rfl (op_not rfl ?_)
   refine Rg_nil ?_
   refine Wp_cond rfl (fun hc32 => ?_) (fun hc32 => ?_)
   ·
    replace hm := bif_t hm hc32
    refine Wp_seq ?_
    obtain ⟨hs33, p34⟩ := hs24.sub (bs' := []) (.cons _ List.Sublist.slnil)
    clear f_a_volumes f_a_sectors f_a_configs f_a_segments f_a_routes f_a_airports f_a_classes f_a_rules f_y30
    clear p34 hs24
    refine Wp_region ?_
    refine Rg_op rfl (op_assign (v := (Value.slice none 0 0)) rfl ?_)
    refine Rg_op rfl (op_assign (v := (Value.bool false)) rfl ?_)
    refine Rg_nil ?_
    refine Wp_ret ?_
    have hz := step_all hs33
    refine ⟨_, (show Closes [] _ _ from rfl), [(Value.slice none 0 0), (Value.bool false)], ⟨rfl, rfl, trivial⟩, hs33.ext, ?_⟩
    exact Vr.eq (a := (vT2 (vC (rSl (rMp .u64 mvB))) vB)) (x := (([] : List (List (Int × Bool))), false)) (mkT2 (mkC (mk_sl SlR.nil_)) rfl) (Option.some.inj hm)
   ·
    replace hm := bif_f hm hc32
    refine Wp_skip ?_
    refine Wp_seq ?_
    refine Wp_region ?_
    refine Rg_op rfl (op_fieldAddr ty31 rfl ty22 (by decide) rfl (rfl : _ = (⟨_, 0, none⟩ : Addr)) ?_)
    refine Rg_op rfl (op_load (cs := [(Value.slice a_a_volumes a.volumes.length c_a_volumes), (Value.slice a_a_sectors a.sectors.length c_a_sectors), (Value.slice a_a_configs a.configs.length c_a_configs), (Value.slice a_a_segments a.segments.length c_a_segments), (Value.slice a_a_routes a.routes.length c_a_routes), (Value.slice a_a_airports a.airports.length c_a_airports), (Value.slice a_a_classes a.classes.length c_a_classes), (Value.slice a_a_rules a.rules.length c_a_rules)]) (i := 0) ty22 hs24 rfl rfl rfl ?_)
    refine Rg_op rfl (op_len Try.underlying22 rfl ?_)
    refine Rg_op rfl (op_subw rfl rfl ?_)
    replace hm := ck_some hm; obtain ⟨hc35, hm⟩ := hm
    refine Rg_op rfl (op_shr rfl rfl hc35 ?_)
    refine Rg_op rfl (op_assign (v := (Value.int .u64 (18446744073709551615 / 2 ^ min (IntKind.wrap .i64 (64 - (a.volumes.length : Int))).toNat (IntKind.bits .u64)))) rfl ?_)
    refine Rg_nil ?_
    refine Wp_seq ?_
    refine Wp_seq ?_
    refine Wp_region ?_
    refine Rg_op rfl (op_fieldAddr ty31 rfl ty24 (by decide) rfl (rfl : _ = (⟨_, 2, none⟩ : Addr)) ?_)
    refine Rg_op rfl (op_load (cs := [(Value.slice a_a_volumes a.volumes.length c_a_volumes), (Value.slice a_a_sectors a.sectors.length c_a_sectors), (Value.slice a_a_configs a.configs.length c_a_configs), (Value.slice a_a_segments a.segments.length c_a_segments), (Value.slice a_a_routes a.routes.length c_a_routes), (Value.slice a_a_airports a.airports.length c_a_airports), (Value.slice a_a_classes a.classes.length c_a_classes), (Value.slice a_a_rules a.rules.length c_a_rules)]) (i := 0) ty24 hs24 rfl rfl rfl ?_)
    refine Rg_op rfl (op_len Try.underlying24 rfl ?_)
    refine Rg_op rfl (op_move (v := (Value.int .i64 0)) rfl ?_)
    refine Rg_nil ?_
    refine Wp_block ?_
    refine Wp_reset [] [(2, (Value.slice none 0 0)), (4, (Value.slice a_y30 sets_1.1.length c_y30)), (5, (Value.int .u64 (18446744073709551615 / 2 ^ min (IntKind.wrap .i64 (64 - (a.volumes.length : Int))).toNat (IntKind.bits .u64)))), (53, (Value.slice a_a_configs a.configs.length c_a_configs)), (54, (Value.int .i64 (a.configs.length : Int))), (55, (Value.int .i64 0))] rfl ⟨rfl, rfl, rfl, rfl, rfl, rfl, trivial⟩ fun ξ39 => ?_
    have hs44 := hs24.ghost (Obj.cells #[] 63)
    refine Wp_loopM [2, 3, 7, 8, 9, 11, 55, 56, 57, 58, 59, 60, 61, 62, 63, 64, 65, 66, 67, 68, 69, 70, 71, 72, 73, 74, 75, 76, 77, 78, 79, 80, 81, 82, 83, 84, 85, 86, 87, 88, 89, 90, 91, 92, 93, 94, 95, 96, 97, 98, 99, 100, 101, 102, 103] (fun m fr w' => ∃ (l_1 : List (List (Int × Bool))) (v_2 : Int) (a_g37 : Option Addr) (c_g37 : Nat) (k_g37 : Option Nat) (o_g37 : Obj) (Ebs : Ents), Ebs = [(k_g37, o_g37), (some b1, Obj.cells [(Value.slice a_a_volumes a.volumes.length c_a_volumes), (Value.slice a_a_sectors a.sectors.length c_a_sectors), (Value.slice a_a_configs a.configs.length c_a_configs), (Value.slice a_a_segments a.segments.length c_a_segments), (Value.slice a_a_routes a.routes.length c_a_routes), (Value.slice a_a_airports a.airports.length c_a_airports), (Value.slice a_a_classes a.classes.length c_a_classes), (Value.slice a_a_rules a.rules.length c_a_rules)].toArray 31)] ∧ fr [] [(2, (Value.slice a_g37 l_1.length c_g37)), (55, (Value.int .i64 v_2))] ∧ Step (ks [(none, (Obj.cells #[] 63)), (some b1, Obj.cells [(Value.slice a_a_volumes a.volumes.length c_a_volumes), (Value.slice a_a_sectors a.sectors.length c_a_sectors), (Value.slice a_a_configs a.configs.length c_a_configs), (Value.slice a_a_segments a.segments.length c_a_segments), (Value.slice a_a_routes a.routes.length c_a_routes), (Value.slice a_a_airports a.airports.length c_a_airports), (Value.slice a_a_classes a.classes.length c_a_classes), (Value.slice a_a_rules a.rules.length c_a_rules)].toArray 31)] O) w21 (ks Ebs O) w' ∧ St ⟨w, [], []⟩ O w' Ebs ∧ Gs (rMp .u64 mvB) 63 w' (ks Ebs O) a_g37 c_g37 l_1 k_g37 o_g37 ∧ InK .i64 v_2 ∧ loop2 (m31_configs_divisions_B0 a sets_1) m l_1 v_2 = some x) (((a.configs.length : Int) - 0).toNat + 1) ⟨([] : List (List (Int × Bool))), 0, none, 0, none, (Obj.cells #[] 63), _, rfl, ⟨Out.refl _ _, rfl, rfl, rfl, trivial⟩, Step.refl _ _, hs44, Gs.nil_, (show InK .i64 0 from by decide), hm⟩ ?_ ?_
    · rintro _ _ ⟨_, _, _, _, _, _, _, _, _, _, _, _, _, hm⟩; exact loop2_z hm
    ·
     rintro m43 K42 hK42 ρ50 w46 ⟨l_1, v_2, a_g37, c_g37, k_g37, o_g37, Ebs, hEbs, hfr49, hst48, hs47, f_g37, r_y38, hm⟩
     obtain ⟨sf40, hsf41, hm⟩ := loop2_s hm; unfold m31_configs_divisions_B0 at hm
     subst hEbs; rw [hfr49.eq]; clear hfr49
     replace f_a_volumes := f_a_volumes.step hst48; replace f_a_sectors := f_a_sectors.step hst48; replace f_a_configs := f_a_configs.step hst48; replace f_a_segments := f_a_segments.step hst48; replace f_a_routes := f_a_routes.step hst48; replace f_a_airports := f_a_airports.step hst48; replace f_a_classes := f_a_classes.step hst48; replace f_a_rules := f_a_rules.step hst48; replace f_y30 := f_y30.step hst48
     have ch51 := hst48
     refine Wp_seq ?_
     refine Wp_region ?_
     refine Rg_op rfl (op_lss rfl rfl ?_)
     refine Rg_nil ?_
     refine Wp_seq ?_
     refine Wp_cond rfl (fun hc52 => ?_) (fun hc52 => ?_)
     ·
      replace hm := bif_t hm hc52
      refine Wp_skip ?_
      refine Wp_seq ?_
      refine Wp_block ?_
      refine Wp_seq ?_
      refine Wp_region ?_
      replace hm := ck_some hm; obtain ⟨hc53, hm⟩ := hm
      refine Rg_op rfl (op_indexAddr (q := rXConfig) ty24 ty52 rfl rfl f_a_configs rfl hc53.1 hc53.2 ?_)
      intro p54 f55
      refine Rg_op rfl (op_loadPA ty52 rfl f55 rfl ?_)
      intro vs56 h57
      obtain ⟨_, _, rfl, rfl, ⟨_, _, rfl, ⟨a_y58_names, c_y58_names, rfl, f_y58_names⟩, ⟨a_y58_sectors, c_y58_sectors, rfl, f_y58_sectors⟩⟩⟩ := h57
      refine Rg_op rfl (op_alloc ty52 hs47 ?_)
      intro b59 w60 _ p61 hs62
      replace f_a_volumes := f_a_volumes.step p61; replace f_a_sectors := f_a_sectors.step p61; replace f_a_configs := f_a_configs.step p61; replace f_a_segments := f_a_segments.step p61; replace f_a_routes := f_a_routes.step p61; replace f_a_airports := f_a_airports.step p61; replace f_a_classes := f_a_classes.step p61; replace f_a_rules := f_a_rules.step p61; replace f_y30 := f_y30.step p61; replace f_g37 := f_g37.step p61; replace f55 := f55.step p61; replace f_y58_names := f_y58_names.step p61; replace f_y58_sectors := f_y58_sectors.step p61; replace ch51 := ch51.trans p61; clear p61 hs47
      refine Rg_op_ (op_store (cs := [(Value.string (bs [])), (Value.slice none 0 0), (Value.slice none 0 0)]) (vs := [(Value.string (bs ((a.configs.getD v_2.toNat default).name))), (Value.slice a_y58_names ((a.configs.getD v_2.toNat default).names).length c_y58_names), (Value.slice a_y58_sectors ((a.configs.getD v_2.toNat default).sectors).length c_y58_sectors)]) (cs' := [(Value.string (bs ((a.configs.getD v_2.toNat default).name))), (Value.slice a_y58_names ((a.configs.getD v_2.toNat default).names).length c_y58_names), (Value.slice a_y58_sectors ((a.configs.getD v_2.toNat default).sectors).length c_y58_sectors)]) (bs' := [(some b59, Obj.cells [(Value.string (bs ((a.configs.getD v_2.toNat default).name))), (Value.slice a_y58_names ((a.configs.getD v_2.toNat default).names).length c_y58_names), (Value.slice a_y58_sectors ((a.configs.getD v_2.toNat default).sectors).length c_y58_sectors)].toArray 52), (k_g37, o_g37), (some b1, Obj.cells [(Value.slice a_a_volumes a.volumes.length c_a_volumes), (Value.slice a_a_sectors a.sectors.length c_a_sectors), (Value.slice a_a_configs a.configs.length c_a_configs), (Value.slice a_a_segments a.segments.length c_a_segments), (Value.slice a_a_routes a.routes.length c_a_routes), (Value.slice a_a_airports a.airports.length c_a_airports), (Value.slice a_a_classes a.classes.length c_a_classes), (Value.slice a_a_rules a.rules.length c_a_rules)].toArray 31)]) (i := 0) ty52 hs62 rfl rfl rfl rfl rfl (le_lit rfl) rfl rfl rfl ?_)
      intro w64 p65 hs66
      replace f_a_volumes := f_a_volumes.step p65; replace f_a_sectors := f_a_sectors.step p65; replace f_a_configs := f_a_configs.step p65; replace f_a_segments := f_a_segments.step p65; replace f_a_routes := f_a_routes.step p65; replace f_a_airports := f_a_airports.step p65; replace f_a_classes := f_a_classes.step p65; replace f_a_rules := f_a_rules.step p65; replace f_y30 := f_y30.step p65; replace f_g37 := f_g37.step p65; replace f55 := f55.step p65; replace f_y58_names := f_y58_names.step p65; replace f_y58_sectors := f_y58_sectors.step p65; replace ch51 := ch51.trans p65; clear p65 hs62
      refine Rg_nil ?_
      refine Wp_seq ?_
      clear f55
      refine Wp_region ?_
      refine Rg_op rfl (op_assign (v := (Value.int .u64 0)) rfl ?_)
      refine Rg_nil ?_
      refine Wp_seq ?_
      refine Wp_region ?_
      refine Rg_op rfl (op_makeMap hs66 ?_)
      intro b67 w68 p69 hs70
      replace f_a_volumes := f_a_volumes.step p69; replace f_a_sectors := f_a_sectors.step p69; replace f_a_configs := f_a_configs.step p69; replace f_a_segments := f_a_segments.step p69; replace f_a_routes := f_a_routes.step p69; replace f_a_airports := f_a_airports.step p69; replace f_a_classes := f_a_classes.step p69; replace f_a_rules := f_a_rules.step p69; replace f_y30 := f_y30.step p69; replace f_g37 := f_g37.step p69; replace f_y58_names := f_y58_names.step p69; replace f_y58_sectors := f_y58_sectors.step p69; replace ch51 := ch51.trans p69; clear p69 hs66
      have M71 : Mo .u64 mvB (Obj.map #[] 0) ([] : List (Int × Bool)) := Mo.nil_
      refine Rg_op rfl (op_assign (v := (Value.map (some b67))) rfl ?_)
      refine Rg_nil ?_
      refine Wp_seq ?_
      refine Wp_seq ?_
      refine Wp_region ?_
      refine Rg_op rfl (op_fieldAddr ty52 rfl ty39 (by decide) rfl (rfl : _ = (⟨_, 2, none⟩ : Addr)) ?_)
      refine Rg_op rfl (op_load (cs := [(Value.string (bs ((a.configs.getD v_2.toNat default).name))), (Value.slice a_y58_names ((a.configs.getD v_2.toNat default).names).length c_y58_names), (Value.slice a_y58_sectors ((a.configs.getD v_2.toNat default).sectors).length c_y58_sectors)]) (i := 1) ty39 hs70 rfl rfl rfl ?_)
      refine Rg_op rfl (op_len Try.underlying39 rfl ?_)
      refine Rg_op rfl (op_move (v := (Value.int .i64 0)) rfl ?_)
      refine Rg_nil ?_
      refine Wp_block ?_
      refine Wp_reset2 [2, 3, 7, 8, 9, 11, 55, 56, 57, 58, 59, 60, 61, 62, 63, 64, 65, 66, 67, 68, 69, 70, 71, 72, 73, 74, 75, 76, 77, 78, 79, 80, 81, 82, 83, 84, 85, 86, 87, 88, 89, 90, 91, 92, 93, 94, 95, 96, 97, 98, 99, 100, 101, 102, 103] [] (updL ⟨ξ39, []⟩ [(2, (Value.slice none 0 0)), (4, (Value.slice a_y30 sets_1.1.length c_y30)), (5, (Value.int .u64 (18446744073709551615 / 2 ^ min (IntKind.wrap .i64 (64 - (a.volumes.length : Int))).toNat (IntKind.bits .u64)))), (53, (Value.slice a_a_configs a.configs.length c_a_configs)), (54, (Value.int .i64 (a.configs.length : Int))), (55, (Value.int .i64 0))]) [(2, (Value.slice a_g37 l_1.length c_g37)), (8, (Value.int .u64 0)), (9, (Value.map (some b67))), (55, (Value.int .i64 v_2)), (61, (Value.slice a_y58_sectors ((a.configs.getD v_2.toNat default).sectors).length c_y58_sectors)), (62, (Value.int .i64 (((a.configs.getD v_2.toNat default).sectors).length : Int))), (63, (Value.int .i64 0))] (by repeat (first | with_reducible exact Out.refl _ _ | refine Out.upd ?_ rfl | refine Out.updL ?_ rfl | refine Out.mix' ?_ rfl | exact Out.refl _ _)) rfl ⟨rfl, rfl, rfl, rfl, rfl, rfl, rfl, trivial⟩ fun ξ77 => ?_
      refine Wp_loopM [2, 3, 8, 11, 63, 64, 65, 66, 67, 68, 69, 70, 71, 72, 73, 74, 75, 76, 77, 78, 79, 80, 81, 82, 83, 84, 85, 86, 87, 88, 89, 90, 91, 92, 93, 94, 95] (fun m fr w' => ∃ (l_2 : List (List (Int × Bool))) (met_1 : Int) (v_3 : Int) (map_1 : List (Int × Bool)) (a_g73 : Option Addr) (c_g73 : Nat) (k_g73 : Option Nat) (o_g73 : Obj) (o_g76 : Obj) (Ebs : Ents), Ebs = [(some b67, o_g76), (some b59, Obj.cells [(Value.string (bs ((a.configs.getD v_2.toNat default).name))), (Value.slice a_y58_names ((a.configs.getD v_2.toNat default).names).length c_y58_names), (Value.slice a_y58_sectors ((a.configs.getD v_2.toNat default).sectors).length c_y58_sectors)].toArray 52), (k_g73, o_g73), (some b1, Obj.cells [(Value.slice a_a_volumes a.volumes.length c_a_volumes), (Value.slice a_a_sectors a.sectors.length c_a_sectors), (Value.slice a_a_configs a.configs.length c_a_configs), (Value.slice a_a_segments a.segments.length c_a_segments), (Value.slice a_a_routes a.routes.length c_a_routes), (Value.slice a_a_airports a.airports.length c_a_airports), (Value.slice a_a_classes a.classes.length c_a_classes), (Value.slice a_a_rules a.rules.length c_a_rules)].toArray 31)] ∧ fr [] [(2, (Value.slice a_g73 l_2.length c_g73)), (8, (Value.int .u64 met_1)), (63, (Value.int .i64 v_3))] ∧ Step (ks [(some b67, (Obj.map #[] 0)), (some b59, Obj.cells [(Value.string (bs ((a.configs.getD v_2.toNat default).name))), (Value.slice a_y58_names ((a.configs.getD v_2.toNat default).names).length c_y58_names), (Value.slice a_y58_sectors ((a.configs.getD v_2.toNat default).sectors).length c_y58_sectors)].toArray 52), (k_g37, o_g37), (some b1, Obj.cells [(Value.slice a_a_volumes a.volumes.length c_a_volumes), (Value.slice a_a_sectors a.sectors.length c_a_sectors), (Value.slice a_a_configs a.configs.length c_a_configs), (Value.slice a_a_segments a.segments.length c_a_segments), (Value.slice a_a_routes a.routes.length c_a_routes), (Value.slice a_a_airports a.airports.length c_a_airports), (Value.slice a_a_classes a.classes.length c_a_classes), (Value.slice a_a_rules a.rules.length c_a_rules)].toArray 31)] O) w68 (ks Ebs O) w' ∧ St ⟨w, [], []⟩ O w' Ebs ∧ Gs (rMp .u64 mvB) 63 w' (ks Ebs O) a_g73 c_g73 l_2 k_g73 o_g73 ∧ InK .u64 met_1 ∧ InK .i64 v_3 ∧ Mo .u64 mvB o_g76 map_1 ∧ loop4 (m31_configs_divisions_B1 a sets_1 v_2 sf40) m l_2 met_1 v_3 map_1 = some x) (((((a.configs.getD v_2.toNat default).sectors).length : Int) - 0).toNat + 1) ⟨l_1, 0, 0, ([] : List (Int × Bool)), a_g37, c_g37, k_g37, o_g37, (Obj.map #[] 0), _, rfl, ⟨Out.refl _ _, rfl, rfl, rfl, rfl, trivial⟩, Step.refl _ _, hs70, f_g37, (show InK .u64 0 from by decide), (show InK .i64 0 from by decide), M71, hm⟩ ?_ ?_
      · rintro _ _ ⟨_, _, _, _, _, _, _, _, _, _, _, _, _, _, _, _, _, _, hm⟩; exact loop4_z hm
      ·
       rintro m81 K80 hK80 ρ86 w82 ⟨l_2, met_1, v_3, map_1, a_g73, c_g73, k_g73, o_g73, o_g76, Ebs, hEbs, hfr85, hst84, hs83, f_g73, r_y74, r_y75, M_g76, hm⟩
       obtain ⟨sf78, hsf79, hm⟩ := loop4_s hm; unfold m31_configs_divisions_B1 at hm
       subst hEbs; rw [hfr85.eq]; clear hfr85
       replace f_a_volumes := f_a_volumes.step hst84; replace f_a_sectors := f_a_sectors.step hst84; replace f_a_configs := f_a_configs.step hst84; replace f_a_segments := f_a_segments.step hst84; replace f_a_routes := f_a_routes.step hst84; replace f_a_airports := f_a_airports.step hst84; replace f_a_classes := f_a_classes.step hst84; replace f_a_rules := f_a_rules.step hst84; replace f_y30 := f_y30.step hst84; replace f_g37 := f_g37.step hst84; replace f_y58_names := f_y58_names.step hst84; replace f_y58_sectors := f_y58_sectors.step hst84; replace ch51 := ch51.trans hst84
       have ch87 := hst84
       refine Wp_seq ?_
       clear f_g37
       refine Wp_region ?_
       refine Rg_op rfl (op_lss rfl rfl ?_)
       refine Rg_nil ?_
       refine Wp_seq ?_
       refine Wp_cond rfl (fun hc88 => ?_) (fun hc88 => ?_)
       ·
        replace hm := bif_t hm hc88
        refine Wp_skip ?_
        refine Wp_seq ?_
        refine Wp_block ?_
        refine Wp_seq ?_
        refine Wp_region ?_
        replace hm := ck_some hm; obtain ⟨hc89, hm⟩ := hm
        refine Rg_op rfl (op_indexAddr (q := (rInt .i64)) ty39 ty3 rfl rfl f_y58_sectors rfl hc89.1 hc89.2 ?_)
        intro p90 f91
        refine Rg_op rfl (op_loadP ty3 rfl f91 rfl ?_)
        intro v92 h93
        obtain ⟨rfl, r_y94⟩ := un_int h93
        refine Rg_op rfl (op_assign (v := (Value.int .i64 (((a.configs.getD v_2.toNat default).sectors).getD v_3.toNat default))) rfl ?_)
        refine Rg_nil ?_
        refine Wp_seq ?_
        refine Wp_reset2 [2, 3, 8, 11, 63, 64, 65, 66, 67, 68, 69, 70, 71, 72, 73, 74, 75, 76, 77, 78, 79, 80, 81, 82, 83, 84, 85, 86, 87, 88, 89, 90, 91, 92, 93, 94, 95] [] (updL (mix [2, 3, 7, 8, 9, 11, 55, 56, 57, 58, 59, 60, 61, 62, 63, 64, 65, 66, 67, 68, 69, 70, 71, 72, 73, 74, 75, 76, 77, 78, 79, 80, 81, 82, 83, 84, 85, 86, 87, 88, 89, 90, 91, 92, 93, 94, 95, 96, 97, 98, 99, 100, 101, 102, 103] [] ξ77 (updL ⟨ξ39, []⟩ [(2, (Value.slice none 0 0)), (4, (Value.slice a_y30 sets_1.1.length c_y30)), (5, (Value.int .u64 (18446744073709551615 / 2 ^ min (IntKind.wrap .i64 (64 - (a.volumes.length : Int))).toNat (IntKind.bits .u64)))), (53, (Value.slice a_a_configs a.configs.length c_a_configs)), (54, (Value.int .i64 (a.configs.length : Int))), (55, (Value.int .i64 0))])) [(2, (Value.slice a_g37 l_1.length c_g37)), (8, (Value.int .u64 0)), (9, (Value.map (some b67))), (55, (Value.int .i64 v_2)), (61, (Value.slice a_y58_sectors ((a.configs.getD v_2.toNat default).sectors).length c_y58_sectors)), (62, (Value.int .i64 (((a.configs.getD v_2.toNat default).sectors).length : Int))), (63, (Value.int .i64 0))]) [(2, (Value.slice a_g73 l_2.length c_g73)), (8, (Value.int .u64 met_1)), (11, (Value.int .i64 (((a.configs.getD v_2.toNat default).sectors).getD v_3.toNat default))), (63, (Value.int .i64 v_3))] (by repeat (first | with_reducible exact Out.refl _ _ | refine Out.upd ?_ rfl | refine Out.updL ?_ rfl | refine Out.mix' ?_ rfl | exact Out.refl _ _)) rfl ⟨rfl, rfl, rfl, rfl, trivial⟩ fun ξ95 => ?_
        replace hm := jn_elim hm; obtain ⟨k97, hk98, hm⟩ := hm
        refine Wp_seqJ [67, 68, 69, 70, 71, 72, 73, 74, 75, 76, 77, 78, 79, 80, 81, 82, 83] (fun fr w' => ∃ (v_4 : Bool) (Ebs : Ents), Ebs = [(some b67, o_g76), (some b59, Obj.cells [(Value.string (bs ((a.configs.getD v_2.toNat default).name))), (Value.slice a_y58_names ((a.configs.getD v_2.toNat default).names).length c_y58_names), (Value.slice a_y58_sectors ((a.configs.getD v_2.toNat default).sectors).length c_y58_sectors)].toArray 52), (k_g73, o_g73), (some b1, Obj.cells [(Value.slice a_a_volumes a.volumes.length c_a_volumes), (Value.slice a_a_sectors a.sectors.length c_a_sectors), (Value.slice a_a_configs a.configs.length c_a_configs), (Value.slice a_a_segments a.segments.length c_a_segments), (Value.slice a_a_routes a.routes.length c_a_routes), (Value.slice a_a_airports a.airports.length c_a_airports), (Value.slice a_a_classes a.classes.length c_a_classes), (Value.slice a_a_rules a.rules.length c_a_rules)].toArray 31)] ∧ fr [] [(83, (Value.bool v_4))] ∧ Step (ks [(some b67, o_g76), (some b59, Obj.cells [(Value.string (bs ((a.configs.getD v_2.toNat default).name))), (Value.slice a_y58_names ((a.configs.getD v_2.toNat default).names).length c_y58_names), (Value.slice a_y58_sectors ((a.configs.getD v_2.toNat default).sectors).length c_y58_sectors)].toArray 52), (k_g73, o_g73), (some b1, Obj.cells [(Value.slice a_a_volumes a.volumes.length c_a_volumes), (Value.slice a_a_sectors a.sectors.length c_a_sectors), (Value.slice a_a_configs a.configs.length c_a_configs), (Value.slice a_a_segments a.segments.length c_a_segments), (Value.slice a_a_routes a.routes.length c_a_routes), (Value.slice a_a_airports a.airports.length c_a_airports), (Value.slice a_a_classes a.classes.length c_a_classes), (Value.slice a_a_rules a.rules.length c_a_rules)].toArray 31)] O) w82 (ks Ebs O) w' ∧ St ⟨w, [], []⟩ O w' Ebs ∧ k97 v_4 = some x) ?_ ?_
        ·
         rintro ρ104 w100 ⟨v_4, Ebs, hEbs, hfr103, hst102, hs101, hm⟩
         replace hm := jnE1 hk98 hm
         subst hEbs; rw [hfr103.eq]; clear hfr103
         replace f_a_volumes := f_a_volumes.step hst102; replace f_a_sectors := f_a_sectors.step hst102; replace f_a_configs := f_a_configs.step hst102; replace f_a_segments := f_a_segments.step hst102; replace f_a_routes := f_a_routes.step hst102; replace f_a_airports := f_a_airports.step hst102; replace f_a_classes := f_a_classes.step hst102; replace f_a_rules := f_a_rules.step hst102; replace f_y30 := f_y30.step hst102; replace f_y58_names := f_y58_names.step hst102; replace f_y58_sectors := f_y58_sectors.step hst102; replace f_g73 := f_g73.step hst102; replace f91 := f91.step hst102; replace ch51 := ch51.trans hst102; replace ch87 := ch87.trans hst102; clear hst102 hs83
         refine Wp_cond rfl (fun hc105 => ?_) (fun hc105 => ?_)
         ·
          replace hm := bif_t hm hc105
          refine Wp_seq ?_
          clear f_y30 f_g73 f91
          refine Wp_region ?_
          refine Rg_op rfl (op_assign (v := (Value.slice none 0 0)) rfl ?_)
          refine Rg_op rfl (op_assign (v := (Value.bool false)) rfl ?_)
          refine Rg_nil ?_
          refine Wp_ret ?_
          have hz := step_all hs101
          replace f_a_volumes := f_a_volumes.step hz; replace f_a_sectors := f_a_sectors.step hz; replace f_a_configs := f_a_configs.step hz; replace f_a_segments := f_a_segments.step hz; replace f_a_routes := f_a_routes.step hz; replace f_a_airports := f_a_airports.step hz; replace f_a_classes := f_a_classes.step hz; replace f_a_rules := f_a_rules.step hz; replace f_y58_names := f_y58_names.step hz; replace f_y58_sectors := f_y58_sectors.step hz
          refine ⟨_, (show Closes [] _ _ from rfl), [(Value.slice none 0 0), (Value.bool false)], ⟨rfl, rfl, trivial⟩, hs101.ext, ?_⟩
          exact Vr.eq (a := (vT2 (vC (rSl (rMp .u64 mvB))) vB)) (x := (([] : List (List (Int × Bool))), false)) (mkT2 (mkC (mk_sl SlR.nil_)) rfl) (Option.some.inj hm)
         ·
          replace hm := bif_f hm hc105
          refine Wp_skip ?_
          refine Wp_seq ?_
          clear f91
          refine Wp_region ?_
          refine Rg_op rfl (op_move (v := (Value.int .u64 met_1)) rfl ?_)
          refine Rg_op rfl (op_move (v := (Value.slice a_y30 sets_1.1.length c_y30)) rfl ?_)
          refine Rg_op rfl (op_move (v := (Value.int .i64 (((a.configs.getD v_2.toNat default).sectors).getD v_3.toNat default))) rfl ?_)
          replace hm := ck_some hm; obtain ⟨hc106, hm⟩ := hm
          refine Rg_op rfl (op_indexAddr (q := (rInt .u64)) ty69 ty73 rfl rfl f_y30 rfl hc106.1 hc106.2 ?_)
          intro p107 f108
          refine Rg_op rfl (op_loadP ty73 rfl f108 rfl ?_)
          intro v109 h110
          obtain ⟨rfl, r_y111⟩ := un_int h110
          refine Rg_op rfl (op_or rfl rfl ?_)
          refine Rg_op rfl (op_assign (v := (Value.int .u64 (Go.bits .or .u64 met_1 (sets_1.1.getD (((a.configs.getD v_2.toNat default).sectors).getD v_3.toNat default).toNat default)))) rfl ?_)
          refine Rg_nil ?_
          clear f108
          refine Wp_region ?_
          refine Rg_op rfl (op_move (v := (Value.map (some b67))) rfl ?_)
          refine Rg_op rfl (op_move (v := (Value.slice a_y30 sets_1.1.length c_y30)) rfl ?_)
          refine Rg_op rfl (op_move (v := (Value.int .i64 (((a.configs.getD v_2.toNat default).sectors).getD v_3.toNat default))) rfl ?_)
          replace hm := ck_some hm; obtain ⟨hc112, hm⟩ := hm
          refine Rg_op rfl (op_indexAddr (q := (rInt .u64)) ty69 ty73 rfl rfl f_y30 rfl hc112.1 hc112.2 ?_)
          intro p113 f114
          refine Rg_op rfl (op_loadP ty73 rfl f114 rfl ?_)
          intro v115 h116
          obtain ⟨rfl, r_y117⟩ := un_int h116
          refine Rg_op_ (op_mapUpdate (q := .u64) (m := mvB) (v := true) (i := 0) Try.underlying63 Try.underlying73 hs101 rfl M_g76 rfl rfl rfl rfl r_y117 trivial ?_)
          intro o118 w119 p120 hs121 M122
          replace f_a_volumes := f_a_volumes.step p120; replace f_a_sectors := f_a_sectors.step p120; replace f_a_configs := f_a_configs.step p120; replace f_a_segments := f_a_segments.step p120; replace f_a_routes := f_a_routes.step p120; replace f_a_airports := f_a_airports.step p120; replace f_a_classes := f_a_classes.step p120; replace f_a_rules := f_a_rules.step p120; replace f_y30 := f_y30.step p120; replace f_y58_names := f_y58_names.step p120; replace f_y58_sectors := f_y58_sectors.step p120; replace f_g73 := f_g73.step p120; replace f114 := f114.step p120; replace ch51 := ch51.trans p120; replace ch87 := ch87.trans p120; clear p120 hs101
          refine Rg_nil ?_
          clear f114
          refine Wp_reset2 [2, 3, 8, 11, 63, 64, 65, 66, 67, 68, 69, 70, 71, 72, 73, 74, 75, 76, 77, 78, 79, 80, 81, 82, 83, 84, 85, 86, 87, 88, 89, 90, 91, 92, 93, 94, 95] [] (updL (mix [2, 3, 7, 8, 9, 11, 55, 56, 57, 58, 59, 60, 61, 62, 63, 64, 65, 66, 67, 68, 69, 70, 71, 72, 73, 74, 75, 76, 77, 78, 79, 80, 81, 82, 83, 84, 85, 86, 87, 88, 89, 90, 91, 92, 93, 94, 95, 96, 97, 98, 99, 100, 101, 102, 103] [] ξ77 (updL ⟨ξ39, []⟩ [(2, (Value.slice none 0 0)), (4, (Value.slice a_y30 sets_1.1.length c_y30)), (5, (Value.int .u64 (18446744073709551615 / 2 ^ min (IntKind.wrap .i64 (64 - (a.volumes.length : Int))).toNat (IntKind.bits .u64)))), (53, (Value.slice a_a_configs a.configs.length c_a_configs)), (54, (Value.int .i64 (a.configs.length : Int))), (55, (Value.int .i64 0))])) [(2, (Value.slice a_g37 l_1.length c_g37)), (8, (Value.int .u64 0)), (9, (Value.map (some b67))), (55, (Value.int .i64 v_2)), (61, (Value.slice a_y58_sectors ((a.configs.getD v_2.toNat default).sectors).length c_y58_sectors)), (62, (Value.int .i64 (((a.configs.getD v_2.toNat default).sectors).length : Int))), (63, (Value.int .i64 0))]) [(2, (Value.slice a_g73 l_2.length c_g73)), (8, (Value.int .u64 (Go.bits .or .u64 met_1 (sets_1.1.getD (((a.configs.getD v_2.toNat default).sectors).getD v_3.toNat default).toNat default)))), (63, (Value.int .i64 v_3))] (by repeat (first | with_reducible exact Out.refl _ _ | refine Out.upd ?_ rfl | refine Out.updL ?_ rfl | refine Out.mix' ?_ rfl | exact Out.refl _ _)) rfl ⟨rfl, rfl, rfl, trivial⟩ fun ξ123 => ?_
          refine Wp_region ?_
          refine Rg_op rfl (op_addw rfl rfl ?_)
          refine Rg_op rfl (op_move (v := (Value.int .i64 (IntKind.wrap .i64 (v_3 + 1)))) rfl ?_)
          refine Rg_nil ?_
          exact hK80 _ _ ⟨l_2, (Go.bits .or .u64 met_1 (sets_1.1.getD (((a.configs.getD v_2.toNat default).sectors).getD v_3.toNat default).toNat default)), (IntKind.wrap .i64 (v_3 + 1)), (mput map_1 (sets_1.1.getD (((a.configs.getD v_2.toNat default).sectors).getD v_3.toNat default).toNat default) true), a_g73, c_g73, k_g73, o_g73, o118, _, rfl, ⟨(by repeat (first | with_reducible exact Out.refl _ _ | refine Out.upd ?_ rfl | refine Out.updL ?_ rfl | refine Out.mix' ?_ rfl | exact Out.refl _ _)), rfl, rfl, rfl, rfl, trivial⟩, ch87, hs121, f_g73, (inK_bits .or .u64 _ _), (inK_wrap .i64 _), M122, jnE4 hsf79 hm⟩
        ·
         intro K99 hK99
         have ch124 := Step.refl (ks [(some b67, o_g76), (some b59, Obj.cells [(Value.string (bs ((a.configs.getD v_2.toNat default).name))), (Value.slice a_y58_names ((a.configs.getD v_2.toNat default).names).length c_y58_names), (Value.slice a_y58_sectors ((a.configs.getD v_2.toNat default).sectors).length c_y58_sectors)].toArray 52), (k_g73, o_g73), (some b1, Obj.cells [(Value.slice a_a_volumes a.volumes.length c_a_volumes), (Value.slice a_a_sectors a.sectors.length c_a_sectors), (Value.slice a_a_configs a.configs.length c_a_configs), (Value.slice a_a_segments a.segments.length c_a_segments), (Value.slice a_a_routes a.routes.length c_a_routes), (Value.slice a_a_airports a.airports.length c_a_airports), (Value.slice a_a_classes a.classes.length c_a_classes), (Value.slice a_a_rules a.rules.length c_a_rules)].toArray 31)] O) w82
         clear f91
         refine Wp_region ?_
         refine Rg_op rfl (op_move (v := (Value.int .i64 (((a.configs.getD v_2.toNat default).sectors).getD v_3.toNat default))) rfl ?_)
         refine Rg_op rfl (op_lss rfl rfl ?_)
         refine Rg_op rfl (op_move (v := (Value.bool (decide ((((a.configs.getD v_2.toNat default).sectors).getD v_3.toNat default) < 0)))) rfl ?_)
         refine Rg_case (fun hg125 => ?_) (fun hg125 => ?_)
         ·
          replace hm := bif_t hm hg125
          iterate 4 refine Rg_opx rfl (asB_ne rfl rfl) rfl ?_
          refine Rg_op rfl (op_pick_t (v := (Value.bool true)) rfl rfl ?_)
          refine Rg_op rfl (op_move (v := (Value.bool true)) rfl ?_)
          iterate 7 refine Rg_opx rfl (asB_ne rfl rfl) rfl ?_
          refine Rg_op rfl (op_pick_t (v := (Value.bool true)) rfl rfl ?_)
          refine Rg_nil ?_
          exact hK99 _ _ ⟨true, _, rfl, ⟨(by repeat (first | with_reducible exact Out.refl _ _ | refine Out.upd ?_ rfl | refine Out.updL ?_ rfl | refine Out.mix' ?_ rfl | exact Out.refl _ _)), rfl, rfl, trivial⟩, ch124, hs83, hm⟩
         ·
          replace hm := bif_f hm hg125
          refine Rg_opg rfl rfl rfl (op_move (v := (Value.int .i64 (((a.configs.getD v_2.toNat default).sectors).getD v_3.toNat default))) rfl ?_)
          refine Rg_opg rfl rfl rfl (op_move (v := (Value.slice a_y30 sets_1.1.length c_y30)) rfl ?_)
          refine Rg_opg rfl rfl rfl (op_len Try.underlying69 rfl ?_)
          refine Rg_opg rfl rfl rfl (op_geq rfl rfl ?_)
          refine Rg_op rfl (op_pick_f (v := (Value.bool (decide ((sets_1.1.length : Int) ≤ (((a.configs.getD v_2.toNat default).sectors).getD v_3.toNat default))))) rfl rfl ?_)
          refine Rg_op rfl (op_move (v := (Value.bool (decide ((sets_1.1.length : Int) ≤ (((a.configs.getD v_2.toNat default).sectors).getD v_3.toNat default))))) rfl ?_)
          refine Rg_case (fun hg126 => ?_) (fun hg126 => ?_)
          ·
           replace hm := bif_t hm hg126
           iterate 7 refine Rg_opx rfl (asB_ne rfl rfl) rfl ?_
           refine Rg_op rfl (op_pick_t (v := (Value.bool true)) rfl rfl ?_)
           refine Rg_nil ?_
           exact hK99 _ _ ⟨true, _, rfl, ⟨(by repeat (first | with_reducible exact Out.refl _ _ | refine Out.upd ?_ rfl | refine Out.updL ?_ rfl | refine Out.mix' ?_ rfl | exact Out.refl _ _)), rfl, rfl, trivial⟩, ch124, hs83, hm⟩
          ·
           replace hm := bif_f hm hg126
           refine Rg_opg rfl rfl rfl (op_move (v := (Value.int .u64 met_1)) rfl ?_)
           refine Rg_opg rfl rfl rfl (op_move (v := (Value.slice a_y30 sets_1.1.length c_y30)) rfl ?_)
           refine Rg_opg rfl rfl rfl (op_move (v := (Value.int .i64 (((a.configs.getD v_2.toNat default).sectors).getD v_3.toNat default))) rfl ?_)
           replace hm := ck_some hm; obtain ⟨hc127, hm⟩ := hm
           refine Rg_opg rfl rfl rfl (op_indexAddr (q := (rInt .u64)) ty69 ty73 rfl rfl f_y30 rfl hc127.1 hc127.2 ?_)
           intro p128 f129
           refine Rg_opg rfl rfl rfl (op_loadP ty73 rfl f129 rfl ?_)
           intro v130 h131
           obtain ⟨rfl, r_y132⟩ := un_int h131
           refine Rg_opg rfl rfl rfl (op_and rfl rfl ?_)
           refine Rg_opg rfl rfl rfl (op_neq rfl rfl ?_)
           refine Rg_op rfl (op_pick_f (v := (Value.bool (decide ((Go.bits .and .u64 met_1 (sets_1.1.getD (((a.configs.getD v_2.toNat default).sectors).getD v_3.toNat default).toNat default)) ≠ 0)))) rfl rfl ?_)
           refine Rg_nil ?_
           exact hK99 _ _ ⟨(decide ((Go.bits .and .u64 met_1 (sets_1.1.getD (((a.configs.getD v_2.toNat default).sectors).getD v_3.toNat default).toNat default)) ≠ 0)), _, rfl, ⟨(by repeat (first | with_reducible exact Out.refl _ _ | refine Out.upd ?_ rfl | refine Out.updL ?_ rfl | refine Out.mix' ?_ rfl | exact Out.refl _ _)), rfl, rfl, trivial⟩, ch124, hs83, hm⟩
       ·
        replace hm := bif_f hm hc88
        refine Wp_exit ?_
        refine Wp_seq ?_
        refine Wp_seq ?_
        refine Wp_region ?_
        refine Rg_op rfl (op_move (v := (Value.int .u64 met_1)) rfl ?_)
        refine Rg_op rfl (op_move (v := (Value.int .u64 (18446744073709551615 / 2 ^ min (IntKind.wrap .i64 (64 - (a.volumes.length : Int))).toNat (IntKind.bits .u64)))) rfl ?_)
        refine Rg_op rfl (op_neq rfl rfl ?_)
        refine Rg_nil ?_
        refine Wp_cond rfl (fun hc133 => ?_) (fun hc133 => ?_)
        ·
         replace hm := bif_t hm hc133
         refine Wp_seq ?_
         clear f_y30 f_g73
         refine Wp_region ?_
         refine Rg_op rfl (op_assign (v := (Value.slice none 0 0)) rfl ?_)
         refine Rg_op rfl (op_assign (v := (Value.bool false)) rfl ?_)
         refine Rg_nil ?_
         refine Wp_ret ?_
         have hz := step_all hs83
         replace f_a_volumes := f_a_volumes.step hz; replace f_a_sectors := f_a_sectors.step hz; replace f_a_configs := f_a_configs.step hz; replace f_a_segments := f_a_segments.step hz; replace f_a_routes := f_a_routes.step hz; replace f_a_airports := f_a_airports.step hz; replace f_a_classes := f_a_classes.step hz; replace f_a_rules := f_a_rules.step hz; replace f_y58_names := f_y58_names.step hz; replace f_y58_sectors := f_y58_sectors.step hz
         refine ⟨_, (show Closes [] _ _ from rfl), [(Value.slice none 0 0), (Value.bool false)], ⟨rfl, rfl, trivial⟩, hs83.ext, ?_⟩
         exact Vr.eq (a := (vT2 (vC (rSl (rMp .u64 mvB))) vB)) (x := (([] : List (List (Int × Bool))), false)) (mkT2 (mkC (mk_sl SlR.nil_)) rfl) (Option.some.inj hm)
        ·
         replace hm := bif_f hm hc133
         refine Wp_skip ?_
         refine Wp_region ?_
         refine Rg_op rfl (op_move (v := (Value.slice a_g73 l_2.length c_g73)) rfl ?_)
         refine Rg_op rfl (op_move (v := (Value.map (some b67))) rfl ?_)
         obtain ⟨hs135, p136, f134⟩ := St.publishM (i := 0) hs83 rfl M_g76
         replace f_a_volumes := f_a_volumes.step p136; replace f_a_sectors := f_a_sectors.step p136; replace f_a_configs := f_a_configs.step p136; replace f_a_segments := f_a_segments.step p136; replace f_a_routes := f_a_routes.step p136; replace f_a_airports := f_a_airports.step p136; replace f_a_classes := f_a_classes.step p136; replace f_a_rules := f_a_rules.step p136; replace f_y30 := f_y30.step p136; replace f_y58_names := f_y58_names.step p136; replace f_y58_sectors := f_y58_sectors.step p136; replace f_g73 := f_g73.step p136; replace ch51 := ch51.trans p136; replace ch87 := ch87.trans p136; clear p136 hs83
         refine Rg_op rfl (op_buildSlice (cs := [(Value.map (some b67))]) (parts := [(0, .tmp 100)]) ty56 ty63 hs135 (by decide) rfl ?_)
         intro b137 w138 hx141 p139 hs140
         replace f_a_volumes := f_a_volumes.step p139; replace f_a_sectors := f_a_sectors.step p139; replace f_a_configs := f_a_configs.step p139; replace f_a_segments := f_a_segments.step p139; replace f_a_routes := f_a_routes.step p139; replace f_a_airports := f_a_airports.step p139; replace f_a_classes := f_a_classes.step p139; replace f_a_rules := f_a_rules.step p139; replace f_y30 := f_y30.step p139; replace f_y58_names := f_y58_names.step p139; replace f_y58_sectors := f_y58_sectors.step p139; replace f_g73 := f_g73.step p139; replace f134 := f134.step p139; replace ch51 := ch51.trans p139; replace ch87 := ch87.trans p139; clear p139 hs135
         replace hm := ck_some hm; obtain ⟨hc143, hm⟩ := hm
         refine Rg_op rfl (op_append (q := (rMp .u64 mvB)) (i := 2) (xs := l_2) (ys := [map_1]) (news := [(Value.map (some b67))]) ty56 ty63 rfl (by decide) hs140 rfl rfl f_g73 rfl (Src.owned' (len := 1) (hs140.get (i := 0) rfl) rfl) (show Els (rMp .u64 mvB) _ _ [(Value.map (some b67))] [map_1] from ⟨_, _, rfl, (mk_mp f134), Els.nil⟩) hc143 (by have := hc143; simp only [maxLen]; omega) ?_)
         intro a147 c148 k149 o150 w144 p145 hs146 f151
         replace f_a_volumes := f_a_volumes.step p145; replace f_a_sectors := f_a_sectors.step p145; replace f_a_configs := f_a_configs.step p145; replace f_a_segments := f_a_segments.step p145; replace f_a_routes := f_a_routes.step p145; replace f_a_airports := f_a_airports.step p145; replace f_a_classes := f_a_classes.step p145; replace f_a_rules := f_a_rules.step p145; replace f_y30 := f_y30.step p145; replace f_y58_names := f_y58_names.step p145; replace f_y58_sectors := f_y58_sectors.step p145; replace f134 := f134.step p145; replace ch51 := ch51.trans p145; replace ch87 := ch87.trans p145; clear p145 hs140
         have hs152 := hs146.drop 0
         replace f_a_volumes := f_a_volumes.step (hs146.dropS 0)
         replace f_a_sectors := f_a_sectors.step (hs146.dropS 0)
         replace f_a_configs := f_a_configs.step (hs146.dropS 0)
         replace f_a_segments := f_a_segments.step (hs146.dropS 0)
         replace f_a_routes := f_a_routes.step (hs146.dropS 0)
         replace f_a_airports := f_a_airports.step (hs146.dropS 0)
         replace f_a_classes := f_a_classes.step (hs146.dropS 0)
         replace f_a_rules := f_a_rules.step (hs146.dropS 0)
         replace f_y30 := f_y30.step (hs146.dropS 0)
         replace f_y58_names := f_y58_names.step (hs146.dropS 0)
         replace f_y58_sectors := f_y58_sectors.step (hs146.dropS 0)
         replace f134 := f134.step (hs146.dropS 0)
         replace f151 := f151.step (hs146.dropS 0)
         replace ch51 := ch51.trans (hs146.dropS 0)
         replace ch87 := ch87.trans (hs146.dropS 0); clear hs146
         refine Rg_op rfl (op_assign (v := (Value.slice a147 (l_2 ++ [map_1]).length c148)) rfl ?_)
         refine Rg_nil ?_
         clear f134
         refine Wp_region ?_
         refine Rg_op rfl (op_addw rfl rfl ?_)
         refine Rg_op rfl (op_move (v := (Value.int .i64 (IntKind.wrap .i64 (v_2 + 1)))) rfl ?_)
         refine Rg_nil ?_
         have hs153 := hs152.drop 0
         replace f_a_volumes := f_a_volumes.step (hs152.dropS 0)
         replace f_a_sectors := f_a_sectors.step (hs152.dropS 0)
         replace f_a_configs := f_a_configs.step (hs152.dropS 0)
         replace f_a_segments := f_a_segments.step (hs152.dropS 0)
         replace f_a_routes := f_a_routes.step (hs152.dropS 0)
         replace f_a_airports := f_a_airports.step (hs152.dropS 0)
         replace f_a_classes := f_a_classes.step (hs152.dropS 0)
         replace f_a_rules := f_a_rules.step (hs152.dropS 0)
         replace f_y30 := f_y30.step (hs152.dropS 0)
         replace f_y58_names := f_y58_names.step (hs152.dropS 0)
         replace f_y58_sectors := f_y58_sectors.step (hs152.dropS 0)
         replace f151 := f151.step (hs152.dropS 0)
         replace ch51 := ch51.trans (hs152.dropS 0)
         replace ch87 := ch87.trans (hs152.dropS 0); clear hs152
         exact hK42 _ _ ⟨(l_2 ++ [map_1]), (IntKind.wrap .i64 (v_2 + 1)), a147, c148, k149, o150, _, rfl, ⟨(by repeat (first | with_reducible exact Out.refl _ _ | refine Out.upd ?_ rfl | refine Out.updL ?_ rfl | refine Out.mix' ?_ rfl | exact Out.refl _ _)), rfl, rfl, rfl, trivial⟩, ch51, hs153, f151, (inK_wrap .i64 _), jnE2 hsf41 hm⟩
     ·
      replace hm := bif_f hm hc52
      refine Wp_exit ?_
      refine Wp_seq ?_
      obtain ⟨hs154, p155⟩ := hs47.sub (bs' := [(k_g37, o_g37)]) (.cons_cons _ (.cons _ List.Sublist.slnil))
      clear f_a_volumes f_a_sectors f_a_configs f_a_segments f_a_routes f_a_airports f_a_classes f_a_rules f_y30
      replace f_g37 := f_g37.step p155; replace ch51 := ch51.trans p155; clear p155 hs47
      refine Wp_region ?_
      refine Rg_op rfl (op_move (v := (Value.slice a_g37 l_1.length c_g37)) rfl ?_)
      refine Rg_op rfl (op_assign (v := (Value.slice a_g37 l_1.length c_g37)) rfl ?_)
      refine Rg_op rfl (op_assign (v := (Value.bool true)) rfl ?_)
      refine Rg_nil ?_
      refine Wp_ret ?_
      obtain ⟨hs157, p158, f156⟩ := Gs.publish (i := 0) hs154 rfl f_g37
      replace ch51 := ch51.trans p158; clear p158 hs154
      have hz := step_all hs157
      replace f156 := f156.step hz
      refine ⟨_, (show Closes [] _ _ from rfl), [(Value.slice a_g37 l_1.length c_g37), (Value.bool true)], ⟨rfl, rfl, trivial⟩, hs157.ext, ?_⟩
      exact Vr.eq (a := (vT2 (vC (rSl (rMp .u64 mvB))) vB)) (x := (l_1, true)) (mkT2 (mkC (mk_sl f156)) rfl) (Option.some.inj hm)
 ·
  intro K10 hK10
  have ch159 := Step.refl (ks [(some b1, Obj.cells [(Value.slice a_a_volumes a.volumes.length c_a_volumes), (Value.slice a_a_sectors a.sectors.length c_a_sectors), (Value.slice a_a_configs a.configs.length c_a_configs), (Value.slice a_a_segments a.segments.length c_a_segments), (Value.slice a_a_routes a.routes.length c_a_routes), (Value.slice a_a_airports a.airports.length c_a_airports), (Value.slice a_a_classes a.classes.length c_a_classes), (Value.slice a_a_rules a.rules.length c_a_rules)].toArray 31)] O) w2
  refine Wp_region ?_
  refine Rg_op rfl (op_fieldAddr ty31 rfl ty22 (by decide) rfl (rfl : _ = (⟨_, 0, none⟩ : Addr)) ?_)
  refine Rg_op rfl (op_load (cs := [(Value.slice a_a_volumes a.volumes.length c_a_volumes), (Value.slice a_a_sectors a.sectors.length c_a_sectors), (Value.slice a_a_configs a.configs.length c_a_configs), (Value.slice a_a_segments a.segments.length c_a_segments), (Value.slice a_a_routes a.routes.length c_a_routes), (Value.slice a_a_airports a.airports.length c_a_airports), (Value.slice a_a_classes a.classes.length c_a_classes), (Value.slice a_a_rules a.rules.length c_a_rules)]) (i := 0) ty22 hs4 rfl rfl rfl ?_)
  refine Rg_op rfl (op_len Try.underlying22 rfl ?_)
  refine Rg_op rfl (op_lss rfl rfl ?_)
  refine Rg_op rfl (op_move (v := (Value.bool (decide ((a.volumes.length : Int) < 1)))) rfl ?_)
  refine Rg_case (fun hg160 => ?_) (fun hg160 => ?_)
  ·
   replace hm := bif_t hm hg160
   iterate 4 refine Rg_opx rfl (asB_ne rfl rfl) rfl ?_
   refine Rg_op rfl (op_pick_t (v := (Value.bool true)) rfl rfl ?_)
   refine Rg_op rfl (op_move (v := (Value.bool true)) rfl ?_)
   iterate 4 refine Rg_opx rfl (asB_ne rfl rfl) rfl ?_
   refine Rg_op rfl (op_pick_t (v := (Value.bool true)) rfl rfl ?_)
   refine Rg_op rfl (op_move (v := (Value.bool true)) rfl ?_)
   iterate 4 refine Rg_opx rfl (asB_ne rfl rfl) rfl ?_
   refine Rg_op rfl (op_pick_t (v := (Value.bool true)) rfl rfl ?_)
   refine Rg_op rfl (op_move (v := (Value.bool true)) rfl ?_)
   iterate 4 refine Rg_opx rfl (asB_ne rfl rfl) rfl ?_
   refine Rg_op rfl (op_pick_t (v := (Value.bool true)) rfl rfl ?_)
   refine Rg_nil ?_
   exact hK10 _ _ ⟨true, _, rfl, ⟨(by repeat (first | with_reducible exact Out.refl _ _ | refine Out.upd ?_ rfl | refine Out.updL ?_ rfl | refine Out.mix' ?_ rfl | exact Out.refl _ _)), rfl, rfl, trivial⟩, ch159, hs4, hm⟩
  ·
   replace hm := bif_f hm hg160
   refine Rg_opg rfl rfl rfl (op_fieldAddr ty31 rfl ty22 (by decide) rfl (rfl : _ = (⟨_, 0, none⟩ : Addr)) ?_)
   refine Rg_opg rfl rfl rfl (op_load (cs := [(Value.slice a_a_volumes a.volumes.length c_a_volumes), (Value.slice a_a_sectors a.sectors.length c_a_sectors), (Value.slice a_a_configs a.configs.length c_a_configs), (Value.slice a_a_segments a.segments.length c_a_segments), (Value.slice a_a_routes a.routes.length c_a_routes), (Value.slice a_a_airports a.airports.length c_a_airports), (Value.slice a_a_classes a.classes.length c_a_classes), (Value.slice a_a_rules a.rules.length c_a_rules)]) (i := 0) ty22 hs4 rfl rfl rfl ?_)
   refine Rg_opg rfl rfl rfl (op_len Try.underlying22 rfl ?_)
   refine Rg_opg rfl rfl rfl (op_gtr rfl rfl ?_)
   refine Rg_op rfl (op_pick_f (v := (Value.bool (decide (64 < (a.volumes.length : Int))))) rfl rfl ?_)
   refine Rg_op rfl (op_move (v := (Value.bool (decide (64 < (a.volumes.length : Int))))) rfl ?_)
   refine Rg_case (fun hg161 => ?_) (fun hg161 => ?_)
   ·
    replace hm := bif_t hm hg161
    iterate 4 refine Rg_opx rfl (asB_ne rfl rfl) rfl ?_
    refine Rg_op rfl (op_pick_t (v := (Value.bool true)) rfl rfl ?_)
    refine Rg_op rfl (op_move (v := (Value.bool true)) rfl ?_)
    iterate 4 refine Rg_opx rfl (asB_ne rfl rfl) rfl ?_
    refine Rg_op rfl (op_pick_t (v := (Value.bool true)) rfl rfl ?_)
    refine Rg_op rfl (op_move (v := (Value.bool true)) rfl ?_)
    iterate 4 refine Rg_opx rfl (asB_ne rfl rfl) rfl ?_
    refine Rg_op rfl (op_pick_t (v := (Value.bool true)) rfl rfl ?_)
    refine Rg_nil ?_
    exact hK10 _ _ ⟨true, _, rfl, ⟨(by repeat (first | with_reducible exact Out.refl _ _ | refine Out.upd ?_ rfl | refine Out.updL ?_ rfl | refine Out.mix' ?_ rfl | exact Out.refl _ _)), rfl, rfl, trivial⟩, ch159, hs4, hm⟩
   ·
    replace hm := bif_f hm hg161
    refine Rg_opg rfl rfl rfl (op_fieldAddr ty31 rfl ty23 (by decide) rfl (rfl : _ = (⟨_, 1, none⟩ : Addr)) ?_)
    refine Rg_opg rfl rfl rfl (op_load (cs := [(Value.slice a_a_volumes a.volumes.length c_a_volumes), (Value.slice a_a_sectors a.sectors.length c_a_sectors), (Value.slice a_a_configs a.configs.length c_a_configs), (Value.slice a_a_segments a.segments.length c_a_segments), (Value.slice a_a_routes a.routes.length c_a_routes), (Value.slice a_a_airports a.airports.length c_a_airports), (Value.slice a_a_classes a.classes.length c_a_classes), (Value.slice a_a_rules a.rules.length c_a_rules)]) (i := 0) ty23 hs4 rfl rfl rfl ?_)
    refine Rg_opg rfl rfl rfl (op_len Try.underlying23 rfl ?_)
    refine Rg_opg rfl rfl rfl (op_gtr rfl rfl ?_)
    refine Rg_op rfl (op_pick_f (v := (Value.bool (decide (64 < (a.sectors.length : Int))))) rfl rfl ?_)
    refine Rg_op rfl (op_move (v := (Value.bool (decide (64 < (a.sectors.length : Int))))) rfl ?_)
    refine Rg_case (fun hg162 => ?_) (fun hg162 => ?_)
    ·
     replace hm := bif_t hm hg162
     iterate 4 refine Rg_opx rfl (asB_ne rfl rfl) rfl ?_
     refine Rg_op rfl (op_pick_t (v := (Value.bool true)) rfl rfl ?_)
     refine Rg_op rfl (op_move (v := (Value.bool true)) rfl ?_)
     iterate 4 refine Rg_opx rfl (asB_ne rfl rfl) rfl ?_
     refine Rg_op rfl (op_pick_t (v := (Value.bool true)) rfl rfl ?_)
     refine Rg_nil ?_
     exact hK10 _ _ ⟨true, _, rfl, ⟨(by repeat (first | with_reducible exact Out.refl _ _ | refine Out.upd ?_ rfl | refine Out.updL ?_ rfl | refine Out.mix' ?_ rfl | exact Out.refl _ _)), rfl, rfl, trivial⟩, ch159, hs4, hm⟩
    ·
     replace hm := bif_f hm hg162
     refine Rg_opg rfl rfl rfl (op_fieldAddr ty31 rfl ty24 (by decide) rfl (rfl : _ = (⟨_, 2, none⟩ : Addr)) ?_)
     refine Rg_opg rfl rfl rfl (op_load (cs := [(Value.slice a_a_volumes a.volumes.length c_a_volumes), (Value.slice a_a_sectors a.sectors.length c_a_sectors), (Value.slice a_a_configs a.configs.length c_a_configs), (Value.slice a_a_segments a.segments.length c_a_segments), (Value.slice a_a_routes a.routes.length c_a_routes), (Value.slice a_a_airports a.airports.length c_a_airports), (Value.slice a_a_classes a.classes.length c_a_classes), (Value.slice a_a_rules a.rules.length c_a_rules)]) (i := 0) ty24 hs4 rfl rfl rfl ?_)
     refine Rg_opg rfl rfl rfl (op_len Try.underlying24 rfl ?_)
     refine Rg_opg rfl rfl rfl (op_lss rfl rfl ?_)
     refine Rg_op rfl (op_pick_f (v := (Value.bool (decide ((a.configs.length : Int) < 1)))) rfl rfl ?_)
     refine Rg_op rfl (op_move (v := (Value.bool (decide ((a.configs.length : Int) < 1)))) rfl ?_)
     refine Rg_case (fun hg163 => ?_) (fun hg163 => ?_)
     ·
      replace hm := bif_t hm hg163
      iterate 4 refine Rg_opx rfl (asB_ne rfl rfl) rfl ?_
      refine Rg_op rfl (op_pick_t (v := (Value.bool true)) rfl rfl ?_)
      refine Rg_nil ?_
      exact hK10 _ _ ⟨true, _, rfl, ⟨(by repeat (first | with_reducible exact Out.refl _ _ | refine Out.upd ?_ rfl | refine Out.updL ?_ rfl | refine Out.mix' ?_ rfl | exact Out.refl _ _)), rfl, rfl, trivial⟩, ch159, hs4, hm⟩
     ·
      replace hm := bif_f hm hg163
      refine Rg_opg rfl rfl rfl (op_fieldAddr ty31 rfl ty24 (by decide) rfl (rfl : _ = (⟨_, 2, none⟩ : Addr)) ?_)
      refine Rg_opg rfl rfl rfl (op_load (cs := [(Value.slice a_a_volumes a.volumes.length c_a_volumes), (Value.slice a_a_sectors a.sectors.length c_a_sectors), (Value.slice a_a_configs a.configs.length c_a_configs), (Value.slice a_a_segments a.segments.length c_a_segments), (Value.slice a_a_routes a.routes.length c_a_routes), (Value.slice a_a_airports a.airports.length c_a_airports), (Value.slice a_a_classes a.classes.length c_a_classes), (Value.slice a_a_rules a.rules.length c_a_rules)]) (i := 0) ty24 hs4 rfl rfl rfl ?_)
      refine Rg_opg rfl rfl rfl (op_len Try.underlying24 rfl ?_)
      refine Rg_opg rfl rfl rfl (op_gtr rfl rfl ?_)
      refine Rg_op rfl (op_pick_f (v := (Value.bool (decide (32 < (a.configs.length : Int))))) rfl rfl ?_)
      refine Rg_nil ?_
      exact hK10 _ _ ⟨(decide (32 < (a.configs.length : Int))), _, rfl, ⟨(by repeat (first | with_reducible exact Out.refl _ _ | refine Out.upd ?_ rfl | refine Out.updL ?_ rfl | refine Out.mix' ?_ rfl | exact Out.refl _ _)), rfl, rfl, trivial⟩, ch159, hs4, hm⟩

end Go.Fx



set_option linter.unusedVariables false
set_option linter.unusedSimpArgs false
set_option maxRecDepth 100000
set_option maxHeartbeats 0
namespace Go.Fx
open Go Go.RowKit Go.Proofs
def m15_configs_Check (a : XAirspace) : Option Int :=
 (m31_configs_divisions a).bind fun divisions_1 =>
 bif (!divisions_1.2) then
  some 100
 else
  some 0

theorem c15_configs_Check {w : World} {O : List Nat} {a : XAirspace} {a_a_volumes : Option Addr} {c_a_volumes : Nat} {a_a_sectors : Option Addr} {c_a_sectors : Nat} {a_a_configs : Option Addr} {c_a_configs : Nat} {a_a_segments : Option Addr} {c_a_segments : Nat} {a_a_routes : Option Addr} {c_a_routes : Nat} {a_a_airports : Option Addr} {c_a_airports : Nat} {a_a_classes : Option Addr} {c_a_classes : Nat} {a_a_rules : Option Addr} {c_a_rules : Nat} (hO : ∀ k ∈ O, k < w.heap.size) (f_a_volumes : SlR rXVolume w O a_a_volumes c_a_volumes a.volumes) (f_a_sectors : SlR rXSector w O a_a_sectors c_a_sectors a.sectors) (f_a_configs : SlR rXConfig w O a_a_configs c_a_configs a.configs) (f_a_segments : SlR rXSegment w O a_a_segments c_a_segments a.segments) (f_a_routes : SlR rXRoute w O a_a_routes c_a_routes a.routes) (f_a_airports : SlR rXAirport w O a_a_airports c_a_airports a.airports) (f_a_classes : SlR rXClass w O a_a_classes c_a_classes a.classes) (f_a_rules : SlR rXRule w O a_a_rules c_a_rules a.rules) {x : Int} (hm : m15_configs_Check a = some x) :
  Ok Try.prog 15 [(Value.agg [(Value.slice a_a_volumes a.volumes.length c_a_volumes), (Value.slice a_a_sectors a.sectors.length c_a_sectors), (Value.slice a_a_configs a.configs.length c_a_configs), (Value.slice a_a_segments a.segments.length c_a_segments), (Value.slice a_a_routes a.routes.length c_a_routes), (Value.slice a_a_airports a.airports.length c_a_airports), (Value.slice a_a_classes a.classes.length c_a_classes), (Value.slice a_a_rules a.rules.length c_a_rules)].toArray)] w O (vI .i64) x := by
 unfold m15_configs_Check at hm
 refine Fn_of_Wp (n := 12) (xs := [.tmp 2]) Try.func15 rfl Try.ntmps15 Try.results15 rfl ?_
 have hs := St.start hO
 refine Wp_seq ?_
 refine Wp_region ?_
 refine Rg_op rfl (op_box (cs := [(Value.slice a_a_volumes a.volumes.length c_a_volumes), (Value.slice a_a_sectors a.sectors.length c_a_sectors), (Value.slice a_a_configs a.configs.length c_a_configs), (Value.slice a_a_segments a.segments.length c_a_segments), (Value.slice a_a_routes a.routes.length c_a_routes), (Value.slice a_a_airports a.airports.length c_a_airports), (Value.slice a_a_classes a.classes.length c_a_classes), (Value.slice a_a_rules a.rules.length c_a_rules)]) hs rfl rfl ?_)
 intro b1 w2 _ p3 hs4
 replace f_a_volumes := f_a_volumes.step p3; replace f_a_sectors := f_a_sectors.step p3; replace f_a_configs := f_a_configs.step p3; replace f_a_segments := f_a_segments.step p3; replace f_a_routes := f_a_routes.step p3; replace f_a_airports := f_a_airports.step p3; replace f_a_classes := f_a_classes.step p3; replace f_a_rules := f_a_rules.step p3; clear p3
 refine Rg_op rfl (op_assign (v := (Value.int .i64 0)) rfl ?_)
 refine Rg_nil ?_
 refine Wp_seq ?_
 refine Wp_seq ?_
 refine Wp_region ?_
 refine Rg_op rfl (op_loadA (cs := [(Value.slice a_a_volumes a.volumes.length c_a_volumes), (Value.slice a_a_sectors a.sectors.length c_a_sectors), (Value.slice a_a_configs a.configs.length c_a_configs), (Value.slice a_a_segments a.segments.length c_a_segments), (Value.slice a_a_routes a.routes.length c_a_routes), (Value.slice a_a_airports a.airports.length c_a_airports), (Value.slice a_a_classes a.classes.length c_a_classes), (Value.slice a_a_rules a.rules.length c_a_rules)]) (vs := [(Value.slice a_a_volumes a.volumes.length c_a_volumes), (Value.slice a_a_sectors a.sectors.length c_a_sectors), (Value.slice a_a_configs a.configs.length c_a_configs), (Value.slice a_a_segments a.segments.length c_a_segments), (Value.slice a_a_routes a.routes.length c_a_routes), (Value.slice a_a_airports a.airports.length c_a_airports), (Value.slice a_a_classes a.classes.length c_a_classes), (Value.slice a_a_rules a.rules.length c_a_rules)]) (i := 0) ty31 hs4 rfl rfl rfl rfl ?_)
 replace hm := bd hm; obtain ⟨divisions_1, hv6, hm⟩ := hm
 refine Rg_op rfl (op_call Try.call31 (c31_configs_divisions (a := a) hs4.ltw f_a_volumes f_a_sectors f_a_configs f_a_segments f_a_routes f_a_airports f_a_classes f_a_rules hv6) rfl ?_)
 rintro v7 w8 ⟨hx9, h10⟩
 have hs11 := hs4.call hx9
 have p12 := Step.ext (O := ks [(some b1, Obj.cells [(Value.slice a_a_volumes a.volumes.length c_a_volumes), (Value.slice a_a_sectors a.sectors.length c_a_sectors), (Value.slice a_a_configs a.configs.length c_a_configs), (Value.slice a_a_segments a.segments.length c_a_segments), (Value.slice a_a_routes a.routes.length c_a_routes), (Value.slice a_a_airports a.airports.length c_a_airports), (Value.slice a_a_classes a.classes.length c_a_classes), (Value.slice a_a_rules a.rules.length c_a_rules)].toArray 31)] O) hx9
 clear hx9
 replace f_a_volumes := f_a_volumes.step p12; replace f_a_sectors := f_a_sectors.step p12; replace f_a_configs := f_a_configs.step p12; replace f_a_segments := f_a_segments.step p12; replace f_a_routes := f_a_routes.step p12; replace f_a_airports := f_a_airports.step p12; replace f_a_classes := f_a_classes.step p12; replace f_a_rules := f_a_rules.step p12; clear p12 hs4
 obtain ⟨v13, v14, rfl, h15, h16⟩ := h10
 obtain ⟨a_y17, c_y17, rfl, f_y17⟩ := un_sl h15
 obtain rfl := h16
 refine Rg_op rfl (op_move (v := (Value.tuple [(Value.slice a_y17 divisions_1.1.length c_y17), (Value.bool divisions_1.2)].toArray)) rfl ?_)
 refine Rg_op rfl (op_extract (v := (Value.slice a_y17 divisions_1.1.length c_y17)) rfl rfl ?_)
 refine Rg_op rfl (op_extract (v := (Value.bool divisions_1.2)) rfl rfl ?_)
 refine Rg_op rfl (op_assign (v := (Value.slice a_y17 divisions_1.1.length c_y17)) rfl ?_)
 refine Rg_op rfl (op_assign (v := (Value.bool divisions_1.2)) rfl ?_)
 refine Rg_nil ?_
 refine Wp_seq ?_
 obtain ⟨hs19, p20⟩ := hs11.sub (bs' := []) (.cons _ List.Sublist.slnil)
 clear f_a_volumes f_a_sectors f_a_configs f_a_segments f_a_routes f_a_airports f_a_classes f_a_rules f_y17
 clear p20 hs11
 refine Wp_region ?_
 refine Rg_op rfl (op_move (v := (Value.bool divisions_1.2)) rfl ?_)
 refine Rg_op rfl (op_not rfl ?_)
 refine Rg_nil ?_
 refine Wp_cond rfl (fun hc21 => ?_) (fun hc21 => ?_)
 ·
  replace hm := bif_t hm hc21
  refine Wp_seq ?_
  refine Wp_region ?_
  refine Rg_op rfl (op_assign (v := (Value.int .i64 100)) rfl ?_)
  refine Rg_nil ?_
  refine Wp_ret ?_
  have hz := step_all hs19
  refine ⟨_, (show Closes [] _ _ from rfl), [(Value.int .i64 100)], ⟨rfl, trivial⟩, hs19.ext, ?_⟩
  exact Vr.eq (a := (vI .i64)) (x := 100) ⟨rfl, (show InK .i64 100 from by decide)⟩ (Option.some.inj hm)
 ·
  replace hm := bif_f hm hc21
  refine Wp_skip ?_
  refine Wp_seq ?_
  refine Wp_region ?_
  refine Rg_op rfl (op_assign (v := (Value.int .i64 0)) rfl ?_)
  refine Rg_nil ?_
  refine Wp_ret ?_
  have hz := step_all hs19
  refine ⟨_, (show Closes [] _ _ from rfl), [(Value.int .i64 0)], ⟨rfl, trivial⟩, hs19.ext, ?_⟩
  exact Vr.eq (a := (vI .i64)) (x := 0) ⟨rfl, (show InK .i64 0 from by decide)⟩ (Option.some.inj hm)

end Go.Fx



set_option linter.unusedVariables false
set_option linter.unusedSimpArgs false
set_option maxRecDepth 100000
set_option maxHeartbeats 0
namespace Go.Fx
open Go Go.RowKit Go.Proofs
def m43_configs_missing_K0 (n_1 : Int) : Option Int :=
 some n_1

def m43_configs_missing_B0 (other : List (Int × Bool)) (sf13 : Int → Option Int) (xp24 : Int × Bool) (n_1 : Int) : Option Int :=
 bif (!((mget other xp24.1).getD false)) then
  sf13 (IntKind.wrap .i64 (n_1 + 1))
 else
  sf13 n_1

def m43_configs_missing (d : List (Int × Bool)) (other : List (Int × Bool)) : Option Int :=
 mrng1 (m43_configs_missing_B0 other) m43_configs_missing_K0 d 0

theorem c43_configs_missing {w : World} {O : List Nat} {d : List (Int × Bool)} {other : List (Int × Bool)} {v_d : Value} {v_other : Value} (hO : ∀ k ∈ O, k < w.heap.size) (M_d : MpR .u64 mvB w O v_d d) (M_other : MpR .u64 mvB w O v_other other) {x : Int} (hm : m43_configs_missing d other = some x) :
  Ok Try.prog 43 [v_d, v_other] w O (vI .i64) x := by
 unfold m43_configs_missing at hm
 refine Fn_of_Wp (n := 19) (xs := [.tmp 4]) Try.func43 rfl Try.ntmps43 Try.results43 rfl ?_
 have hs := St.start hO
 refine Wp_seq ?_
 refine Wp_region ?_
 refine Rg_op rfl (op_assign (v := (Value.int .i64 0)) rfl ?_)
 refine Rg_nil ?_
 refine Wp_seq ?_
 refine Wp_seq ?_
 refine Wp_region ?_
 refine Rg_op rfl (op_move (v := v_d) rfl ?_)
 refine Rg_op rfl (op_rangeM (q := .u64) (m := mvB) Try.underlying63 hs M_d rfl ?_)
 intro b1 o2 rem3 w4 p5 hs6 f7 hp8
 replace M_d := M_d.step p5; replace M_other := M_other.step p5; clear p5
 refine Rg_nil ?_
 refine Wp_block ?_
 refine Wp_reset [] [(1, v_other), (4, (Value.int .i64 0)), (7, (Value.pointer (some ⟨b1, 0, none⟩)))] rfl ⟨rfl, rfl, rfl, trivial⟩ fun ξ12 => ?_
 rw [← mrng1_perm hp8] at hm
 refine Wp_loopM [4, 5, 8, 9, 10, 11, 12, 13, 14, 15, 16, 17] (fun m fr w' => ∃ (n_1 : Int) (o_g11 : Obj) (rem_g11 : List (Int × Bool)) (Ebs : Ents), Ebs = [(some b1, o_g11)] ∧ fr [] [(4, (Value.int .i64 n_1))] ∧ Step (ks [(some b1, o2)] O) w4 (ks Ebs O) w' ∧ St ⟨w, [], []⟩ O w' Ebs ∧ InK .i64 n_1 ∧ MitR .u64 mvB w' (ks Ebs O) v_d o_g11 none rem_g11 ∧ rem_g11.length < m ∧ mrng1 (m43_configs_missing_B0 other) m43_configs_missing_K0 rem_g11 n_1 = some x) (rem3.length + 1) ⟨0, o2, rem3, _, rfl, ⟨Out.refl _ _, rfl, rfl, trivial⟩, Step.refl _ _, hs6, (show InK .i64 0 from by decide), f7.any, Nat.lt_succ_self _, hm⟩ ?_ ?_
 · rintro _ _ ⟨_, _, _, _, _, _, _, _, _, _, hl, _⟩; exact absurd hl (Nat.not_lt_zero _)
 ·
  rintro m16 K15 hK15 ρ21 w17 ⟨n_1, o_g11, rem_g11, Ebs, hEbs, hfr20, hst19, hs18, r_y10, M_g11, hl23, hm⟩
  subst hEbs; rw [hfr20.eq]; clear hfr20
  replace M_d := M_d.step hst19; replace M_other := M_other.step hst19; replace f7 := f7.step hst19
  have ch22 := hst19
  refine Wp_seq ?_
  clear M_d f7
  refine Wp_region ?_
  refine Rg_op rfl (op_nextM (q := .u64) (m := mvB) (i := 0) hs18 rfl M_g11 rfl ?_ ?_)
  ·
   intro hr25; subst hr25; replace hm := mrng1_z hm; unfold m43_configs_missing_K0 at hm
   refine Rg_op rfl (op_extract (v := (Value.bool false)) rfl rfl ?_)
   refine Rg_nil ?_
   refine Wp_seq ?_
   refine Wp_cond_f rfl ?_
   refine Wp_exit ?_
   refine Wp_seq ?_
   obtain ⟨hs35, p36⟩ := hs18.sub (bs' := []) (.cons _ List.Sublist.slnil)
   clear M_other M_g11
   replace ch22 := ch22.trans p36; clear p36 hs18
   refine Wp_region ?_
   refine Rg_op rfl (op_move (v := (Value.int .i64 n_1)) rfl ?_)
   refine Rg_op rfl (op_assign (v := (Value.int .i64 n_1)) rfl ?_)
   refine Rg_nil ?_
   refine Wp_ret ?_
   have hz := step_all hs35
   refine ⟨_, (show Closes [] _ _ from rfl), [(Value.int .i64 n_1)], ⟨rfl, trivial⟩, hs35.ext, ?_⟩
   exact Vr.eq (a := (vI .i64)) (x := n_1) ⟨rfl, r_y10⟩ (Option.some.inj hm)
  ·
   intro xp24 r26 r27 o28 w29 hr25 p30 hs31 f32 hk33 ho34; subst hr25
   have hl37 : (r26 ++ r27).length < m16 := by have := hl23; simp only [List.length_append, List.length_cons] at this ⊢; omega
   obtain ⟨sf13, hsf14, hm⟩ := mrng1_s hm; unfold m43_configs_missing_B0 at hm
   replace M_other := M_other.step p30; replace M_g11 := M_g11.step p30; replace ch22 := ch22.trans p30; clear p30 hs18
   refine Rg_op rfl (op_extract (v := (Value.bool true)) rfl rfl ?_)
   refine Rg_nil ?_
   refine Wp_seq ?_
   refine Wp_cond_t rfl ?_
   refine Wp_skip ?_
   refine Wp_block ?_
   refine Wp_seq ?_
   clear M_g11
   refine Wp_region ?_
   refine Rg_op rfl (op_entryM (q := .u64) (m := mvB) (i := 0) hs31 rfl f32 rfl ?_)
   refine Rg_op rfl (op_extract (v := (Value.int .u64 xp24.1)) rfl rfl ?_)
   refine Rg_op rfl (op_assign (v := (Value.int .u64 xp24.1)) rfl ?_)
   refine Rg_nil ?_
   refine Wp_seq ?_
   refine Wp_region ?_
   refine Rg_op rfl (op_move (v := v_other) rfl ?_)
   refine Rg_op rfl (op_move (v := (Value.int .u64 xp24.1)) rfl ?_)
   refine Rg_op rfl (op_lookupR (q := .u64) (m := mvB) (z := false) Try.underlying63 Try.underlying73 Try.zeroValue4 M_other rfl rfl ?_)
   refine Rg_op rfl (op_not rfl ?_)
   refine Rg_nil ?_
   refine Wp_cond rfl (fun hc38 => ?_) (fun hc38 => ?_)
   ·
    replace hm := bif_t hm hc38
    refine Wp_region ?_
    refine Rg_op rfl (op_move (v := (Value.int .i64 n_1)) rfl ?_)
    refine Rg_op rfl (op_addw rfl rfl ?_)
    refine Rg_op rfl (op_assign (v := (Value.int .i64 (IntKind.wrap .i64 (n_1 + 1)))) rfl ?_)
    refine Rg_nil ?_
    exact hK15 _ _ ⟨(IntKind.wrap .i64 (n_1 + 1)), o28, (r26 ++ r27), _, rfl, ⟨(by repeat (first | with_reducible exact Out.refl _ _ | refine Out.upd ?_ rfl | refine Out.updL ?_ rfl | refine Out.mix' ?_ rfl | exact Out.refl _ _)), rfl, rfl, trivial⟩, ch22, hs31, (inK_wrap .i64 _), f32.any, hl37, jnE1 hsf14 hm⟩
   ·
    replace hm := bif_f hm hc38
    refine Wp_skip ?_
    exact hK15 _ _ ⟨n_1, o28, (r26 ++ r27), _, rfl, ⟨(by repeat (first | with_reducible exact Out.refl _ _ | refine Out.upd ?_ rfl | refine Out.updL ?_ rfl | refine Out.mix' ?_ rfl | exact Out.refl _ _)), rfl, rfl, trivial⟩, ch22, hs31, r_y10, f32.any, hl37, jnE1 hsf14 hm⟩

end Go.Fx



set_option linter.unusedVariables false
set_option linter.unusedSimpArgs false
set_option maxRecDepth 100000
set_option maxHeartbeats 0
namespace Go.Fx
open Go Go.RowKit Go.Proofs
def m36_configs_step (d : List (Int × Bool)) (other : List (Int × Bool)) : Option Bool :=
 (m43_configs_missing d other).bind fun missing_1 =>
 (m43_configs_missing other d).bind fun missing_2 =>
 jn (fun (v_1 : Bool) =>
  some v_1)
 (fun k19 =>
  bif (decide (missing_1 = 0)) then
   bif (decide (missing_2 = 0)) then
    k19 true
   else
    bif (decide (missing_1 = 1)) then
     bif (decide (missing_2 = 2)) then
      k19 true
     else
      bif (decide (missing_1 = 2)) then
       k19 (decide (missing_2 = 1))
      else
       k19 false
    else
     bif (decide (missing_1 = 2)) then
      k19 (decide (missing_2 = 1))
     else
      k19 false
  else
   bif (decide (missing_1 = 1)) then
    bif (decide (missing_2 = 2)) then
     k19 true
    else
     bif (decide (missing_1 = 2)) then
      k19 (decide (missing_2 = 1))
     else
      k19 false
   else
    bif (decide (missing_1 = 2)) then
     k19 (decide (missing_2 = 1))
    else
     k19 false)

theorem c36_configs_step {w : World} {O : List Nat} {d : List (Int × Bool)} {other : List (Int × Bool)} {v_d : Value} {v_other : Value} (hO : ∀ k ∈ O, k < w.heap.size) (M_d : MpR .u64 mvB w O v_d d) (M_other : MpR .u64 mvB w O v_other other) {x : Bool} (hm : m36_configs_step d other = some x) :
  Ok Try.prog 36 [v_d, v_other] w O vB x := by
 unfold m36_configs_step at hm
 refine Fn_of_Wp (n := 35) (xs := [.tmp 4]) Try.func36 rfl Try.ntmps36 Try.results36 rfl ?_
 have hs := St.start hO
 refine Wp_seq ?_
 refine Wp_region ?_
 refine Rg_op rfl (op_assign (v := (Value.bool false)) rfl ?_)
 refine Rg_nil ?_
 refine Wp_seq ?_
 refine Wp_region ?_
 refine Rg_op rfl (op_move (v := v_d) rfl ?_)
 refine Rg_op rfl (op_move (v := v_other) rfl ?_)
 replace hm := bd hm; obtain ⟨missing_1, hv1, hm⟩ := hm
 refine Rg_op rfl (op_call Try.call43 (c43_configs_missing (d := d) (other := other) hs.ltw M_d M_other hv1) rfl ?_)
 rintro v2 w3 ⟨hx4, h5⟩
 have hs6 := hs.call hx4
 have p7 := Step.ext (O := ks [] O) hx4
 clear hx4
 replace M_d := M_d.step p7; replace M_other := M_other.step p7; clear p7
 obtain ⟨rfl, r_y8⟩ := h5
 refine Rg_op rfl (op_move (v := v_other) rfl ?_)
 refine Rg_op rfl (op_move (v := v_d) rfl ?_)
 replace hm := bd hm; obtain ⟨missing_2, hv9, hm⟩ := hm
 refine Rg_op rfl (op_call Try.call43 (c43_configs_missing (d := other) (other := d) hs6.ltw M_other M_d hv9) rfl ?_)
 rintro v10 w11 ⟨hx12, h13⟩
 have hs14 := hs6.call hx12
 have p15 := Step.ext (O := ks [] O) hx12
 clear hx12
 replace M_d := M_d.step p15; replace M_other := M_other.step p15; clear p15 hs6
 obtain ⟨rfl, r_y16⟩ := h13
 refine Rg_op rfl (op_assign (v := (Value.int .i64 missing_1)) rfl ?_)
 refine Rg_op rfl (op_assign (v := (Value.int .i64 missing_2)) rfl ?_)
 refine Rg_nil ?_
 refine Wp_reset [] [(5, (Value.int .i64 missing_1)), (6, (Value.int .i64 missing_2))] rfl ⟨rfl, rfl, trivial⟩ fun ξ17 => ?_
 replace hm := jn_elim hm; obtain ⟨k19, hk20, hm⟩ := hm
 refine Wp_seqJ [4, 13, 14, 15, 16, 17, 18, 19, 20, 21, 22, 23, 24, 25, 26, 27, 28, 29, 30, 31, 32, 33, 34] (fun fr w' => ∃ (v_1 : Bool) (Ebs : Ents), Ebs = [] ∧ fr [] [(4, (Value.bool v_1))] ∧ Step (ks [] O) w11 (ks Ebs O) w' ∧ St ⟨w, [], []⟩ O w' Ebs ∧ k19 v_1 = some x) ?_ ?_
 ·
  rintro ρ26 w22 ⟨v_1, Ebs, hEbs, hfr25, hst24, hs23, hm⟩
  replace hm := jnE1 hk20 hm
  subst hEbs; rw [hfr25.eq]; clear hfr25
  replace M_d := M_d.step hst24; replace M_other := M_other.step hst24; clear hst24 hs14
  refine Wp_ret ?_
  have hz := step_all hs23
  replace M_d := M_d.step hz; replace M_other := M_other.step hz
  refine ⟨_, (show Closes [] _ _ from rfl), [(Value.bool v_1)], ⟨rfl, trivial⟩, hs23.ext, ?_⟩
  exact Vr.eq (a := vB) (x := v_1) rfl (Option.some.inj hm)
 ·
  intro K21 hK21
  have ch27 := Step.refl (ks [] O) w11
  clear M_d M_other
  refine Wp_region ?_
  refine Rg_op rfl (op_move (v := (Value.int .i64 missing_1)) rfl ?_)
  refine Rg_op rfl (op_eql rfl rfl ?_)
  refine Rg_op rfl (op_move (v := (Value.bool (decide (missing_1 = 0)))) rfl ?_)
  refine Rg_case (fun hg28 => ?_) (fun hg28 => ?_)
  ·
   replace hm := bif_t hm hg28
   refine Rg_opg rfl rfl rfl (op_move (v := (Value.int .i64 missing_2)) rfl ?_)
   refine Rg_opg rfl rfl rfl (op_eql rfl rfl ?_)
   refine Rg_op rfl (op_pick_t (v := (Value.bool (decide (missing_2 = 0)))) rfl rfl ?_)
   refine Rg_op rfl (op_move (v := (Value.bool (decide (missing_2 = 0)))) rfl ?_)
   refine Rg_case (fun hg29 => ?_) (fun hg29 => ?_)
   ·
    replace hm := bif_t hm hg29
    iterate 6 refine Rg_opx rfl (asB_ne rfl rfl) rfl ?_
    refine Rg_op rfl (op_pick_t (v := (Value.bool true)) rfl rfl ?_)
    refine Rg_op rfl (op_move (v := (Value.bool true)) rfl ?_)
    iterate 6 refine Rg_opx rfl (asB_ne rfl rfl) rfl ?_
    refine Rg_op rfl (op_pick_t (v := (Value.bool true)) rfl rfl ?_)
    refine Rg_op rfl (op_assign (v := (Value.bool true)) rfl ?_)
    refine Rg_nil ?_
    exact hK21 _ _ ⟨true, _, rfl, ⟨(by repeat (first | with_reducible exact Out.refl _ _ | refine Out.upd ?_ rfl | refine Out.updL ?_ rfl | refine Out.mix' ?_ rfl | exact Out.refl _ _)), rfl, rfl, trivial⟩, ch27, hs14, hm⟩
   ·
    replace hm := bif_f hm hg29
    refine Rg_opg rfl rfl rfl (op_move (v := (Value.int .i64 missing_1)) rfl ?_)
    refine Rg_opg rfl rfl rfl (op_eql rfl rfl ?_)
    refine Rg_opg rfl rfl rfl (op_move (v := (Value.bool (decide (missing_1 = 1)))) rfl ?_)
    refine Rg_case (fun hg30 => ?_) (fun hg30 => ?_)
    ·
     replace hm := bif_t hm hg30
     refine Rg_opg rfl rfl rfl (op_move (v := (Value.int .i64 missing_2)) rfl ?_)
     refine Rg_opg rfl rfl rfl (op_eql rfl rfl ?_)
     refine Rg_opg rfl rfl rfl (op_pick_t (v := (Value.bool (decide (missing_2 = 2)))) rfl rfl ?_)
     refine Rg_op rfl (op_pick_f (v := (Value.bool (decide (missing_2 = 2)))) rfl rfl ?_)
     refine Rg_op rfl (op_move (v := (Value.bool (decide (missing_2 = 2)))) rfl ?_)
     refine Rg_case (fun hg31 => ?_) (fun hg31 => ?_)
     ·
      replace hm := bif_t hm hg31
      iterate 6 refine Rg_opx rfl (asB_ne rfl rfl) rfl ?_
      refine Rg_op rfl (op_pick_t (v := (Value.bool true)) rfl rfl ?_)
      refine Rg_op rfl (op_assign (v := (Value.bool true)) rfl ?_)
      refine Rg_nil ?_
      exact hK21 _ _ ⟨true, _, rfl, ⟨(by repeat (first | with_reducible exact Out.refl _ _ | refine Out.upd ?_ rfl | refine Out.updL ?_ rfl | refine Out.mix' ?_ rfl | exact Out.refl _ _)), rfl, rfl, trivial⟩, ch27, hs14, hm⟩
     ·
      replace hm := bif_f hm hg31
      refine Rg_opg rfl rfl rfl (op_move (v := (Value.int .i64 missing_1)) rfl ?_)
      refine Rg_opg rfl rfl rfl (op_eql rfl rfl ?_)
      refine Rg_opg rfl rfl rfl (op_move (v := (Value.bool (decide (missing_1 = 2)))) rfl ?_)
      refine Rg_case (fun hg32 => ?_) (fun hg32 => ?_)
      ·
       replace hm := bif_t hm hg32
       refine Rg_opg rfl rfl rfl (op_move (v := (Value.int .i64 missing_2)) rfl ?_)
       refine Rg_opg rfl rfl rfl (op_eql rfl rfl ?_)
       refine Rg_opg rfl rfl rfl (op_pick_t (v := (Value.bool (decide (missing_2 = 1)))) rfl rfl ?_)
       refine Rg_op rfl (op_pick_f (v := (Value.bool (decide (missing_2 = 1)))) rfl rfl ?_)
       refine Rg_op rfl (op_assign (v := (Value.bool (decide (missing_2 = 1)))) rfl ?_)
       refine Rg_nil ?_
       exact hK21 _ _ ⟨(decide (missing_2 = 1)), _, rfl, ⟨(by repeat (first | with_reducible exact Out.refl _ _ | refine Out.upd ?_ rfl | refine Out.updL ?_ rfl | refine Out.mix' ?_ rfl | exact Out.refl _ _)), rfl, rfl, trivial⟩, ch27, hs14, hm⟩
      ·
       replace hm := bif_f hm hg32
       iterate 2 refine Rg_opx rfl (asB_ne rfl rfl) rfl ?_
       refine Rg_opg rfl rfl rfl (op_pick_f (v := (Value.bool false)) rfl rfl ?_)
       refine Rg_op rfl (op_pick_f (v := (Value.bool false)) rfl rfl ?_)
       refine Rg_op rfl (op_assign (v := (Value.bool false)) rfl ?_)
       refine Rg_nil ?_
       exact hK21 _ _ ⟨false, _, rfl, ⟨(by repeat (first | with_reducible exact Out.refl _ _ | refine Out.upd ?_ rfl | refine Out.updL ?_ rfl | refine Out.mix' ?_ rfl | exact Out.refl _ _)), rfl, rfl, trivial⟩, ch27, hs14, hm⟩
    ·
     replace hm := bif_f hm hg30
     iterate 2 refine Rg_opx rfl (asB_ne rfl rfl) rfl ?_
     refine Rg_opg rfl rfl rfl (op_pick_f (v := (Value.bool false)) rfl rfl ?_)
     refine Rg_op rfl (op_pick_f (v := (Value.bool false)) rfl rfl ?_)
     refine Rg_op rfl (op_move (v := (Value.bool false)) rfl ?_)
     refine Rg_opg rfl rfl rfl (op_move (v := (Value.int .i64 missing_1)) rfl ?_)
     refine Rg_opg rfl rfl rfl (op_eql rfl rfl ?_)
     refine Rg_opg rfl rfl rfl (op_move (v := (Value.bool (decide (missing_1 = 2)))) rfl ?_)
     refine Rg_case (fun hg33 => ?_) (fun hg33 => ?_)
     ·
      replace hm := bif_t hm hg33
      refine Rg_opg rfl rfl rfl (op_move (v := (Value.int .i64 missing_2)) rfl ?_)
      refine Rg_opg rfl rfl rfl (op_eql rfl rfl ?_)
      refine Rg_opg rfl rfl rfl (op_pick_t (v := (Value.bool (decide (missing_2 = 1)))) rfl rfl ?_)
      refine Rg_op rfl (op_pick_f (v := (Value.bool (decide (missing_2 = 1)))) rfl rfl ?_)
      refine Rg_op rfl (op_assign (v := (Value.bool (decide (missing_2 = 1)))) rfl ?_)
      refine Rg_nil ?_
      exact hK21 _ _ ⟨(decide (missing_2 = 1)), _, rfl, ⟨(by repeat (first | with_reducible exact Out.refl _ _ | refine Out.upd ?_ rfl | refine Out.updL ?_ rfl | refine Out.mix' ?_ rfl | exact Out.refl _ _)), rfl, rfl, trivial⟩, ch27, hs14, hm⟩
     ·
      replace hm := bif_f hm hg33
      iterate 2 refine Rg_opx rfl (asB_ne rfl rfl) rfl ?_
      refine Rg_opg rfl rfl rfl (op_pick_f (v := (Value.bool false)) rfl rfl ?_)
      refine Rg_op rfl (op_pick_f (v := (Value.bool false)) rfl rfl ?_)
      refine Rg_op rfl (op_assign (v := (Value.bool false)) rfl ?_)
      refine Rg_nil ?_
      exact hK21 _ _ ⟨false, _, rfl, ⟨(by repeat (first | with_reducible exact Out.refl _ _ | refine Out.upd ?_ rfl | refine Out.updL ?_ rfl | refine Out.mix' ?_ rfl | exact Out.refl _ _)), rfl, rfl, trivial⟩, ch27, hs14, hm⟩
  ·
   replace hm := bif_f hm hg28
   iterate 2 refine Rg_opx rfl (asB_ne rfl rfl) rfl ?_
   refine Rg_op rfl (op_pick_f (v := (Value.bool false)) rfl rfl ?_)
   refine Rg_op rfl (op_move (v := (Value.bool false)) rfl ?_)
   refine Rg_opg rfl rfl rfl (op_move (v := (Value.int .i64 missing_1)) rfl ?_)
   refine Rg_opg rfl rfl rfl (op_eql rfl rfl ?_)
   refine Rg_opg rfl rfl rfl (op_move (v := (Value.bool (decide (missing_1 = 1)))) rfl ?_)
   refine Rg_case (fun hg34 => ?_) (fun hg34 => ?_)
   ·
    replace hm := bif_t hm hg34
    refine Rg_opg rfl rfl rfl (op_move (v := (Value.int .i64 missing_2)) rfl ?_)
    refine Rg_opg rfl rfl rfl (op_eql rfl rfl ?_)
    refine Rg_opg rfl rfl rfl (op_pick_t (v := (Value.bool (decide (missing_2 = 2)))) rfl rfl ?_)
    refine Rg_op rfl (op_pick_f (v := (Value.bool (decide (missing_2 = 2)))) rfl rfl ?_)
    refine Rg_op rfl (op_move (v := (Value.bool (decide (missing_2 = 2)))) rfl ?_)
    refine Rg_case (fun hg35 => ?_) (fun hg35 => ?_)
    ·
     replace hm := bif_t hm hg35
     iterate 6 refine Rg_opx rfl (asB_ne rfl rfl) rfl ?_
     refine Rg_op rfl (op_pick_t (v := (Value.bool true)) rfl rfl ?_)
     refine Rg_op rfl (op_assign (v := (Value.bool true)) rfl ?_)
     refine Rg_nil ?_
     exact hK21 _ _ ⟨true, _, rfl, ⟨(by repeat (first | with_reducible exact Out.refl _ _ | refine Out.upd ?_ rfl | refine Out.updL ?_ rfl | refine Out.mix' ?_ rfl | exact Out.refl _ _)), rfl, rfl, trivial⟩, ch27, hs14, hm⟩
    ·
     replace hm := bif_f hm hg35
     refine Rg_opg rfl rfl rfl (op_move (v := (Value.int .i64 missing_1)) rfl ?_)
     refine Rg_opg rfl rfl rfl (op_eql rfl rfl ?_)
     refine Rg_opg rfl rfl rfl (op_move (v := (Value.bool (decide (missing_1 = 2)))) rfl ?_)
     refine Rg_case (fun hg36 => ?_) (fun hg36 => ?_)
     ·
      replace hm := bif_t hm hg36
      refine Rg_opg rfl rfl rfl (op_move (v := (Value.int .i64 missing_2)) rfl ?_)
      refine Rg_opg rfl rfl rfl (op_eql rfl rfl ?_)
      refine Rg_opg rfl rfl rfl (op_pick_t (v := (Value.bool (decide (missing_2 = 1)))) rfl rfl ?_)
      refine Rg_op rfl (op_pick_f (v := (Value.bool (decide (missing_2 = 1)))) rfl rfl ?_)
      refine Rg_op rfl (op_assign (v := (Value.bool (decide (missing_2 = 1)))) rfl ?_)
      refine Rg_nil ?_
      exact hK21 _ _ ⟨(decide (missing_2 = 1)), _, rfl, ⟨(by repeat (first | with_reducible exact Out.refl _ _ | refine Out.upd ?_ rfl | refine Out.updL ?_ rfl | refine Out.mix' ?_ rfl | exact Out.refl _ _)), rfl, rfl, trivial⟩, ch27, hs14, hm⟩
     ·
      replace hm := bif_f hm hg36
      iterate 2 refine Rg_opx rfl (asB_ne rfl rfl) rfl ?_
      refine Rg_opg rfl rfl rfl (op_pick_f (v := (Value.bool false)) rfl rfl ?_)
      refine Rg_op rfl (op_pick_f (v := (Value.bool false)) rfl rfl ?_)
      refine Rg_op rfl (op_assign (v := (Value.bool false)) rfl ?_)
      refine Rg_nil ?_
      exact hK21 _ _ ⟨false, _, rfl, ⟨(by repeat (first | with_reducible exact Out.refl _ _ | refine Out.upd ?_ rfl | refine Out.updL ?_ rfl | refine Out.mix' ?_ rfl | exact Out.refl _ _)), rfl, rfl, trivial⟩, ch27, hs14, hm⟩
   ·
    replace hm := bif_f hm hg34
    iterate 2 refine Rg_opx rfl (asB_ne rfl rfl) rfl ?_
    refine Rg_opg rfl rfl rfl (op_pick_f (v := (Value.bool false)) rfl rfl ?_)
    refine Rg_op rfl (op_pick_f (v := (Value.bool false)) rfl rfl ?_)
    refine Rg_op rfl (op_move (v := (Value.bool false)) rfl ?_)
    refine Rg_opg rfl rfl rfl (op_move (v := (Value.int .i64 missing_1)) rfl ?_)
    refine Rg_opg rfl rfl rfl (op_eql rfl rfl ?_)
    refine Rg_opg rfl rfl rfl (op_move (v := (Value.bool (decide (missing_1 = 2)))) rfl ?_)
    refine Rg_case (fun hg37 => ?_) (fun hg37 => ?_)
    ·
     replace hm := bif_t hm hg37
     refine Rg_opg rfl rfl rfl (op_move (v := (Value.int .i64 missing_2)) rfl ?_)
     refine Rg_opg rfl rfl rfl (op_eql rfl rfl ?_)
     refine Rg_opg rfl rfl rfl (op_pick_t (v := (Value.bool (decide (missing_2 = 1)))) rfl rfl ?_)
     refine Rg_op rfl (op_pick_f (v := (Value.bool (decide (missing_2 = 1)))) rfl rfl ?_)
     refine Rg_op rfl (op_assign (v := (Value.bool (decide (missing_2 = 1)))) rfl ?_)
     refine Rg_nil ?_
     exact hK21 _ _ ⟨(decide (missing_2 = 1)), _, rfl, ⟨(by repeat (first | with_reducible exact Out.refl _ _ | refine Out.upd ?_ rfl | refine Out.updL ?_ rfl | refine Out.mix' ?_ rfl | exact Out.refl _ _)), rfl, rfl, trivial⟩, ch27, hs14, hm⟩
    ·
     replace hm := bif_f hm hg37
     iterate 2 refine Rg_opx rfl (asB_ne rfl rfl) rfl ?_
     refine Rg_opg rfl rfl rfl (op_pick_f (v := (Value.bool false)) rfl rfl ?_)
     refine Rg_op rfl (op_pick_f (v := (Value.bool false)) rfl rfl ?_)
     refine Rg_op rfl (op_assign (v := (Value.bool false)) rfl ?_)
     refine Rg_nil ?_
     exact hK21 _ _ ⟨false, _, rfl, ⟨(by repeat (first | with_reducible exact Out.refl _ _ | refine Out.upd ?_ rfl | refine Out.updL ?_ rfl | refine Out.mix' ?_ rfl | exact Out.refl _ _)), rfl, rfl, trivial⟩, ch27, hs14, hm⟩

end Go.Fx



set_option linter.unusedVariables false
set_option linter.unusedSimpArgs false
set_option maxRecDepth 100000
set_option maxHeartbeats 0
namespace Go.Fx
open Go Go.RowKit Go.Proofs
def m45_configs_next_1_B0 (fv0_ : List (List (Int × Bool))) (fv1_ : Int) (sf13 : Int → Option (List Int)) (v_1 : Int) : Option (List Int) :=
 bif (decide (v_1 < (fv0_.length : Int))) then
  bif (decide (v_1 ≠ fv1_)) then
   ck ((0 : Int) ≤ fv1_ ∧ fv1_ < (fv0_.length : Int)) <|
   ck ((0 : Int) ≤ v_1 ∧ v_1 < (fv0_.length : Int)) <|
   (m36_configs_step (fv0_.getD fv1_.toNat default) (fv0_.getD v_1.toNat default)).bind fun step_1 =>
   bif step_1 then
    yl v_1 (
    sf13 (IntKind.wrap .i64 (v_1 + 1)))
   else
    sf13 (IntKind.wrap .i64 (v_1 + 1))
  else
   sf13 (IntKind.wrap .i64 (v_1 + 1))
 else
  some ([] : List Int)

def m45_configs_next_1 (fv0_ : List (List (Int × Bool))) (fv1_ : Int) : Option (List Int) :=
 loop1 (m45_configs_next_1_B0 fv0_ fv1_) (((fv0_.length : Int) - 0).toNat + 1) 0

theorem c45_configs_next_1 {w : World} {O : List Nat} {fv0_ : List (List (Int × Bool))} {fv1_ : Int} {p_fv0_ : Addr} {p_fv1_ : Addr} (hO : ∀ k ∈ O, k < w.heap.size) (f_fv0_ : PtR (rSl (rMp .u64 mvB)) w O p_fv0_ fv0_) (f_fv1_ : PtR (rInt .i64) w O p_fv1_ fv1_) {L : List Int} (hm : m45_configs_next_1 fv0_ fv1_ = some L) :
  IterF Try.prog w O 45 [(Value.pointer (some p_fv0_)), (Value.pointer (some p_fv1_))] (enc1 (vI .i64)) L := by
 unfold m45_configs_next_1 at hm
 obtain ⟨x, hm, hL⟩ : ∃ x, _ = some x ∧ L = [] ++ x := ⟨L, hm, rfl⟩
 intro w1 O1 hst0 hO1 l J Jx hJ hJx hY h0
 replace f_fv0_ := f_fv0_.step hst0; replace f_fv1_ := f_fv1_.step hst0
 refine Fn_of_Wp (n := 31) (xs := []) Try.func45 rfl Try.ntmps45 Try.results45 rfl ?_
 have hs := St.start hO1
 have hI := Itr.start h0
 refine Wp_seq ?_
 refine Wp_region ?_
 refine Rg_op rfl (op_loadP ty56 rfl f_fv0_ rfl ?_)
 intro v1 h2
 obtain ⟨a_y3, c_y3, rfl, f_y3⟩ := un_sl h2
 refine Rg_op rfl (op_len Try.underlying56 rfl ?_)
 refine Rg_op rfl (op_move (v := (Value.int .i64 0)) rfl ?_)
 refine Rg_nil ?_
 refine Wp_block ?_
 refine Wp_reset [] [(0, (Value.func (.yield l) #[] #[])), (1, (Value.pointer (some p_fv0_))), (2, (Value.pointer (some p_fv1_))), (6, (Value.int .i64 (fv0_.length : Int))), (7, (Value.int .i64 0))] rfl ⟨rfl, rfl, rfl, rfl, rfl, trivial⟩ fun ξ12 => ?_
 refine Wp_loopM [4, 7, 8, 9, 10, 11, 12, 13, 14, 15, 16, 17, 18, 19, 20, 21, 22, 23, 24, 25, 26, 27, 28, 29, 30] (fun m fr w' => ∃ (v_1 : Int) (xr5 pre6 : List Int) (wz7 : World) (Kz8 Oz9 : List Nat) (Ebs : Ents), Ebs = [] ∧ fr [] [(7, (Value.int .i64 v_1))] ∧ Step (ks [] O1) w1 (ks Ebs Oz9) w' ∧ St ⟨wz7, Kz8, []⟩ Oz9 w' Ebs ∧ InK .i64 v_1 ∧ Itr J pre6 ⟨wz7, Kz8, []⟩ Oz9 ∧ L = pre6 ++ xr5 ∧ loop1 (m45_configs_next_1_B0 fv0_ fv1_) m v_1 = some xr5) (((fv0_.length : Int) - 0).toNat + 1) ⟨0, x, ([] : List _), w1, [], O1, _, rfl, ⟨Out.refl _ _, rfl, rfl, trivial⟩, Step.refl _ _, hs, (show InK .i64 0 from by decide), hI, hL, hm⟩ ?_ ?_
 · rintro _ _ ⟨_, _, _, _, _, _, _, _, _, _, _, _, _, _, hm⟩; exact loop1_z hm
 ·
  rintro m16 K15 hK15 ρ21 w17 ⟨v_1, xr5, pre6, wz7, Kz8, Oz9, Ebs, hEbs, hfr20, hst19, hs18, r_y4, hI10, hL11, hm⟩
  obtain ⟨sf13, hsf14, hm⟩ := loop1_s hm; unfold m45_configs_next_1_B0 at hm
  subst hEbs; rw [hfr20.eq]; clear hfr20
  replace f_fv0_ := f_fv0_.step hst19; replace f_fv1_ := f_fv1_.step hst19; replace f_y3 := f_y3.step hst19
  have ch22 := hst19
  refine Wp_seq ?_
  clear f_y3
  refine Wp_region ?_
  refine Rg_op rfl (op_lss rfl rfl ?_)
  refine Rg_nil ?_
  refine Wp_seq ?_
  refine Wp_cond rfl (fun hc23 => ?_) (fun hc23 => ?_)
  ·
   replace hm := bif_t hm hc23
   refine Wp_skip ?_
   refine Wp_seq ?_
   refine Wp_block ?_
   refine Wp_seq ?_
   refine Wp_region ?_
   refine Rg_op rfl (op_move (v := (Value.int .i64 v_1)) rfl ?_)
   refine Rg_op rfl (op_assign (v := (Value.int .i64 v_1)) rfl ?_)
   refine Rg_nil ?_
   refine Wp_seq ?_
   refine Wp_drawR (g0 := []) (m := 17) (fl := []) (TS_inv hs18) (.inl rfl) rfl (by decide +kernel) ?_  -- 3
   refine Dw_eq (Value.int .i64 v_1) (fun ρ24 w25 g hle hi ht => ?_) ?_
   ·
    obtain ⟨-, hst, -⟩ := hle
    refine StepOp_plain (op_move (v := (Value.int .i64 v_1)) (ht 4 rfl) ?_)
    exact Goes.same hi rfl
   refine Dw_op (VD Oz9 [] (vI .i64) fv1_) (VD.stab _ _) (fun ρ27 w28 g hle hi ht => ?_) ?_
   ·
    obtain ⟨-, hst, -⟩ := hle
    replace f_fv1_ := f_fv1_.step hst
    refine StepOp_plain (op_loadP ty3 (ht 2 rfl) f_fv1_ rfl ?_)
    intro v30 h31
    obtain ⟨rfl, r_y32⟩ := un_int h31
    exact Goes.same hi (show Vr.vd (vI .i64) _ _ _ _ from ⟨rfl, r_y32⟩)
   refine Dw_eq (Value.bool (decide (v_1 ≠ fv1_))) (fun ρ33 w34 g hle hi ht => ?_) ?_
   ·
    obtain ⟨-, hst, -⟩ := hle
    have h36 : Vr.vd (vI .i64) _ _ _ _ := ht 11 rfl
    obtain ⟨q37, r_y38⟩ := h36
    refine StepOp_plain (op_neq (ht 10 rfl) q37 ?_)
    exact Goes.same hi rfl
   refine Dw_opB (decide (v_1 ≠ fv1_)) (fun ρ39 w40 g hle hi ht => ?_) (fun hg42 => ?_) (fun hg42 => ?_)
   ·
    obtain ⟨-, hst, -⟩ := hle
    refine StepOp_plain (op_move (v := (Value.bool (decide (v_1 ≠ fv1_)))) (ht 12 rfl) ?_)
    exact Goes.same hi rfl
   ·
    replace hm := bif_t hm hg42
    refine Dw_op (VD Oz9 [] (vC (rSl (rMp .u64 mvB))) fv0_) (VD.stab _ _) (fun ρ43 w44 g hle hi ht => ?_) ?_
    ·
     obtain ⟨-, hst, -⟩ := hle
     replace f_fv0_ := f_fv0_.step hst
     refine StepOp_g rfl (ht 13 rfl) (op_loadP ty56 (ht 1 rfl) f_fv0_ rfl ?_)
     intro v46 h47
     obtain ⟨a_y48, c_y48, rfl, f_y48⟩ := un_sl h47
     exact Goes.same hi (show Vr.vd (vC (rSl (rMp .u64 mvB))) _ _ _ _ from (mkC (mk_sl f_y48)))
    refine Dw_op (VD Oz9 [] (vI .i64) fv1_) (VD.stab _ _) (fun ρ49 w50 g hle hi ht => ?_) ?_
    ·
     obtain ⟨-, hst, -⟩ := hle
     replace f_fv1_ := f_fv1_.step hst
     refine StepOp_g rfl (ht 13 rfl) (op_loadP ty3 (ht 2 rfl) f_fv1_ rfl ?_)
     intro v52 h53
     obtain ⟨rfl, r_y54⟩ := un_int h53
     exact Goes.same hi (show Vr.vd (vI .i64) _ _ _ _ from ⟨rfl, r_y54⟩)
    replace hm := ck_some hm; obtain ⟨hc64, hm⟩ := hm
    refine Dw_op (VP Oz9 [] (rMp .u64 mvB) (fv0_.getD fv1_.toNat default)) (VP.stab _ _) (fun ρ55 w56 g hle hi ht => ?_) ?_
    ·
     obtain ⟨-, hst, -⟩ := hle
     have h58 : Vr.vd (vC (rSl (rMp .u64 mvB))) _ _ _ _ := ht 14 rfl
     obtain ⟨a_y60, c_y60, q59, f_y60⟩ := un_sl h58
     have h61 : Vr.vd (vI .i64) _ _ _ _ := ht 15 rfl
     obtain ⟨q62, r_y63⟩ := h61
     refine StepOp_g rfl (ht 13 rfl) (op_indexAddr (q := (rMp .u64 mvB)) ty56 ty63 q59 q62 f_y60 rfl hc64.1 hc64.2 ?_)
     intro p65 f66
     exact Goes.same hi ⟨_, rfl, f66⟩
    refine Dw_op (VD Oz9 [] (vC (rMp .u64 mvB)) (fv0_.getD fv1_.toNat default)) (VD.stab _ _) (fun ρ67 w68 g hle hi ht => ?_) ?_
    ·
     obtain ⟨-, hst, -⟩ := hle
     obtain ⟨p70, q71, f72⟩ := ht 16 rfl
     refine StepOp_g rfl (ht 13 rfl) (op_loadP ty63 q71 f72 rfl ?_)
     intro v73 h74
     have M75 := un_mp h74; clear h74
     exact Goes.same hi (show Vr.vd (vC (rMp .u64 mvB)) _ _ _ _ from (mkC (mk_mp M75)))
    refine Dw_op (VD Oz9 [] (vC (rSl (rMp .u64 mvB))) fv0_) (VD.stab _ _) (fun ρ76 w77 g hle hi ht => ?_) ?_
    ·
     obtain ⟨-, hst, -⟩ := hle
     replace f_fv0_ := f_fv0_.step hst
     refine StepOp_g rfl (ht 13 rfl) (op_loadP ty56 (ht 1 rfl) f_fv0_ rfl ?_)
     intro v79 h80
     obtain ⟨a_y81, c_y81, rfl, f_y81⟩ := un_sl h80
     exact Goes.same hi (show Vr.vd (vC (rSl (rMp .u64 mvB))) _ _ _ _ from (mkC (mk_sl f_y81)))
    refine Dw_eq (Value.int .i64 v_1) (fun ρ82 w83 g hle hi ht => ?_) ?_
    ·
     obtain ⟨-, hst, -⟩ := hle
     refine StepOp_g rfl (ht 13 rfl) (op_move (v := (Value.int .i64 v_1)) (ht 4 rfl) ?_)
     exact Goes.same hi rfl
    replace hm := ck_some hm; obtain ⟨hc91, hm⟩ := hm
    refine Dw_op (VP Oz9 [] (rMp .u64 mvB) (fv0_.getD v_1.toNat default)) (VP.stab _ _) (fun ρ85 w86 g hle hi ht => ?_) ?_
    ·
     obtain ⟨-, hst, -⟩ := hle
     have h88 : Vr.vd (vC (rSl (rMp .u64 mvB))) _ _ _ _ := ht 18 rfl
     obtain ⟨a_y90, c_y90, q89, f_y90⟩ := un_sl h88
     refine StepOp_g rfl (ht 13 rfl) (op_indexAddr (q := (rMp .u64 mvB)) ty56 ty63 q89 (ht 19 rfl) f_y90 rfl hc91.1 hc91.2 ?_)
     intro p92 f93
     exact Goes.same hi ⟨_, rfl, f93⟩
    refine Dw_op (VD Oz9 [] (vC (rMp .u64 mvB)) (fv0_.getD v_1.toNat default)) (VD.stab _ _) (fun ρ94 w95 g hle hi ht => ?_) ?_
    ·
     obtain ⟨-, hst, -⟩ := hle
     obtain ⟨p97, q98, f99⟩ := ht 20 rfl
     refine StepOp_g rfl (ht 13 rfl) (op_loadP ty63 q98 f99 rfl ?_)
     intro v100 h101
     have M102 := un_mp h101; clear h101
     exact Goes.same hi (show Vr.vd (vC (rMp .u64 mvB)) _ _ _ _ from (mkC (mk_mp M102)))
    replace hm := bd hm; obtain ⟨step_1, hv114, hm⟩ := hm
    refine Dw_op (VD Oz9 [] vB step_1) (VD.stab _ _) (fun ρ103 w104 g hle hi ht => ?_) ?_
    ·
     obtain ⟨-, hst, -⟩ := hle
     have h106 : Vr.vd (vC (rMp .u64 mvB)) _ _ _ _ := ht 17 rfl
     obtain ⟨v109, q107, M_y108⟩ : ∃ v, _ = v ∧ Vr.vd (vC (rMp .u64 mvB)) _ _ v (fv0_.getD fv1_.toNat default) := ⟨_, rfl, h106⟩
     have M_y108 : MpR .u64 mvB _ _ v109 (fv0_.getD fv1_.toNat default) := un_mp M_y108
     have h110 : Vr.vd (vC (rMp .u64 mvB)) _ _ _ _ := ht 21 rfl
     obtain ⟨v113, q111, M_y112⟩ : ∃ v, _ = v ∧ Vr.vd (vC (rMp .u64 mvB)) _ _ v (fv0_.getD v_1.toNat default) := ⟨_, rfl, h110⟩
     have M_y112 : MpR .u64 mvB _ _ v113 (fv0_.getD v_1.toNat default) := un_mp M_y112
     refine StepOp_g rfl (ht 13 rfl) (op_call Try.call36 (c36_configs_step (O := ks (ents g ++ []) Oz9) (d := (fv0_.getD fv1_.toNat default)) (other := (fv0_.getD v_1.toNat default)) hi.ltw M_y108 M_y112 hv114) (by simp only [List.map, Array.toList, (show ev _ (.tmp 17) = _ from q107), (show ev _ (.tmp 21) = _ from q111)] <;> rfl) ?_)
     rintro v115 w116 ⟨hx117, h118⟩
     exact Goes.call hi hx117 h118
    refine Dw_eq (Value.bool step_1) (fun ρ120 w121 g hle hi ht => ?_) ?_
    ·
     obtain ⟨-, hst, -⟩ := hle
     have h123 : Vr.vd vB _ _ _ _ := ht 22 rfl
     have q124 : _ = (Value.bool step_1) := h123
     refine StepOp_plain (op_pick_t (v := (Value.bool step_1)) (ht 13 rfl) q124 ?_)
     exact Goes.same hi rfl
    refine Dw_opB step_1 (fun ρ126 w127 g hle hi ht => ?_) (fun hg129 => ?_) (fun hg129 => ?_)
    ·
     obtain ⟨-, hst, -⟩ := hle
     refine StepOp_plain (op_move (v := (Value.bool step_1)) (ht 23 rfl) ?_)
     exact Goes.same hi rfl
    ·
     replace hm := bif_t hm hg129
     refine Dw_eq (Value.func (.yield l) #[] #[]) (fun ρ130 w131 g hle hi ht => ?_) ?_
     ·
      obtain ⟨-, hst, -⟩ := hle
      refine StepOp_g rfl (ht 24 rfl) (op_move (v := (Value.func (.yield l) #[] #[])) (ht 0 rfl) ?_)
      exact Goes.same hi rfl
     refine Dw_eq (Value.int .i64 v_1) (fun ρ133 w134 g hle hi ht => ?_) ?_
     ·
      obtain ⟨-, hst, -⟩ := hle
      refine StepOp_g rfl (ht 24 rfl) (op_move (v := (Value.int .i64 v_1)) (ht 4 rfl) ?_)
      exact Goes.same hi rfl
     refine Dw_nil fun w140 g141 hl142 hi143 => ?_
     obtain ⟨-, hst144, -⟩ := hl142
     obtain ⟨hs146, p145⟩ := Step.nx hi143
     rintro _ rfl
     rintro _ rfl
     rintro _ rfl
     rintro _ rfl
     rintro v147 h148
     replace h148 : Vr.vd vB _ _ _ _ := h148
     obtain rfl := h148
     rintro v150 h151
     replace h151 : Vr.vd (vC (rMp .u64 mvB)) _ _ _ _ := h151
     have M_y152 : MpR .u64 mvB _ _ v150 (fv0_.getD v_1.toNat default) := un_mp h151
     rintro _ ⟨p153, rfl, f154⟩
     rintro _ rfl
     rintro v155 h156
     replace h156 : Vr.vd (vC (rSl (rMp .u64 mvB))) _ _ _ _ := h156
     obtain ⟨a_y157, c_y157, rfl, f_y157⟩ := un_sl h156
     rintro v158 h159
     replace h159 : Vr.vd (vC (rMp .u64 mvB)) _ _ _ _ := h159
     have M_y160 : MpR .u64 mvB _ _ v158 (fv0_.getD fv1_.toNat default) := un_mp h159
     rintro _ ⟨p161, rfl, f162⟩
     rintro v163 h164
     replace h164 : Vr.vd (vI .i64) _ _ _ _ := h164
     obtain ⟨rfl, r_y165⟩ := h164
     rintro v166 h167
     replace h167 : Vr.vd (vC (rSl (rMp .u64 mvB))) _ _ _ _ := h167
     obtain ⟨a_y168, c_y168, rfl, f_y168⟩ := un_sl h167
     rintro _ rfl
     rintro _ rfl
     rintro v169 h170
     replace h170 : Vr.vd (vI .i64) _ _ _ _ := h170
     obtain ⟨rfl, r_y171⟩ := h170
     rintro _ rfl
     have p172 : Step (ks [] Oz9) w17 (ks [] Oz9) w140 := hst144.trans p145
     replace M_y152 := M_y152.step p145; replace f154 := f154.step p145; replace f_y157 := f_y157.step p145; replace M_y160 := M_y160.step p145; replace f162 := f162.step p145; replace f_y168 := f_y168.step p145; replace f_fv0_ := f_fv0_.step p172; replace f_fv1_ := f_fv1_.step p172; replace ch22 := ch22.trans p172; clear p172 hs18
     replace hm := yl_elim hm; obtain ⟨xr173, hm, hL174⟩ := hm
     rw [hL174] at hL11
     refine Rg_opg rfl rfl rfl (op_yield (pre := pre6) (a := v_1) rfl rfl hY hJ hI10 hs146 ⟨xr173, by rw [hL11]; simp⟩ (show (enc1 (vI .i64)) _ _ _ _ from ⟨_, rfl, ⟨rfl, r_y4⟩⟩) ?_ ?_)
     ·
      intro w175 O176 hs177 p178 hI179
      replace f_fv0_ := f_fv0_.step p178; replace f_fv1_ := f_fv1_.step p178; replace M_y152 := M_y152.step p178; replace f154 := f154.step p178; replace f_y157 := f_y157.step p178; replace M_y160 := M_y160.step p178; replace f162 := f162.step p178; replace f_y168 := f_y168.step p178; replace ch22 := ch22.trans p178; clear p178 hs146
      have hL180 : L = (pre6 ++ [v_1]) ++ xr173 := by rw [hL11]; simp
      refine Rg_opg rfl rfl rfl (op_not rfl ?_)
      refine Rg_op rfl (op_pick_t (v := (Value.bool false)) rfl rfl ?_)
      refine Rg_nil ?_
      refine Wp_cond_f rfl ?_
      refine Wp_skip ?_
      refine Wp_region ?_
      refine Rg_op rfl (op_addw rfl rfl ?_)
      refine Rg_op rfl (op_move (v := (Value.int .i64 (IntKind.wrap .i64 (v_1 + 1)))) rfl ?_)
      refine Rg_nil ?_
      exact hK15 _ _ ⟨(IntKind.wrap .i64 (v_1 + 1)), xr173, (pre6 ++ [v_1]), w175, (List.filterMap Prod.fst []), O176, _, rfl, ⟨(by repeat (first | with_reducible exact Out.refl _ _ | refine Out.upd ?_ rfl | refine Out.updL ?_ rfl | refine Out.mix' ?_ rfl | exact Out.refl _ _)), rfl, rfl, trivial⟩, ch22, hs177, (inK_wrap .i64 _), hI179, hL180, jnE1 hsf14 hm⟩
     ·
      intro w181 O182 hs183 hI185
      refine Rg_opg rfl rfl rfl (op_not rfl ?_)
      refine Rg_op rfl (op_pick_t (v := (Value.bool true)) rfl rfl ?_)
      refine Rg_nil ?_
      refine Wp_cond_t rfl ?_
      refine Wp_ret ?_
      exact ⟨_, (show Closes [] _ _ from rfl), [], trivial, _, .inr ⟨_, hI185.fin hJx hs183⟩⟩
    ·
     replace hm := bif_f hm hg129
     refine Dw_skip (fun _ _ _ ht => wanted_x rfl (ht 24 rfl) rfl) ?_
     refine Dw_skip (fun _ _ _ ht => wanted_x rfl (ht 24 rfl) rfl) ?_
     refine Dw_nil fun w190 g191 hl192 hi193 => ?_
     obtain ⟨-, hst194, -⟩ := hl192
     obtain ⟨hs196, p195⟩ := Step.nx hi193
     rintro _ rfl
     rintro _ rfl
     rintro _ rfl
     rintro _ rfl
     rintro v197 h198
     replace h198 : Vr.vd vB _ _ _ _ := h198
     obtain rfl := h198
     rintro v200 h201
     replace h201 : Vr.vd (vC (rMp .u64 mvB)) _ _ _ _ := h201
     have M_y202 : MpR .u64 mvB _ _ v200 (fv0_.getD v_1.toNat default) := un_mp h201
     rintro _ ⟨p203, rfl, f204⟩
     rintro _ rfl
     rintro v205 h206
     replace h206 : Vr.vd (vC (rSl (rMp .u64 mvB))) _ _ _ _ := h206
     obtain ⟨a_y207, c_y207, rfl, f_y207⟩ := un_sl h206
     rintro v208 h209
     replace h209 : Vr.vd (vC (rMp .u64 mvB)) _ _ _ _ := h209
     have M_y210 : MpR .u64 mvB _ _ v208 (fv0_.getD fv1_.toNat default) := un_mp h209
     rintro _ ⟨p211, rfl, f212⟩
     rintro v213 h214
     replace h214 : Vr.vd (vI .i64) _ _ _ _ := h214
     obtain ⟨rfl, r_y215⟩ := h214
     rintro v216 h217
     replace h217 : Vr.vd (vC (rSl (rMp .u64 mvB))) _ _ _ _ := h217
     obtain ⟨a_y218, c_y218, rfl, f_y218⟩ := un_sl h217
     rintro _ rfl
     rintro _ rfl
     rintro v219 h220
     replace h220 : Vr.vd (vI .i64) _ _ _ _ := h220
     obtain ⟨rfl, r_y221⟩ := h220
     rintro _ rfl
     have p222 : Step (ks [] Oz9) w17 (ks [] Oz9) w190 := hst194.trans p195
     replace M_y202 := M_y202.step p195; replace f204 := f204.step p195; replace f_y207 := f_y207.step p195; replace M_y210 := M_y210.step p195; replace f212 := f212.step p195; replace f_y218 := f_y218.step p195; replace f_fv0_ := f_fv0_.step p222; replace f_fv1_ := f_fv1_.step p222; replace ch22 := ch22.trans p222; clear p222 hs18
     iterate 2 refine Rg_opx rfl (asB_ne rfl rfl) rfl ?_
     refine Rg_op rfl (op_pick_f (v := (Value.bool false)) rfl rfl ?_)
     refine Rg_nil ?_
     refine Wp_cond_f rfl ?_
     refine Wp_skip ?_
     refine Wp_region ?_
     refine Rg_op rfl (op_addw rfl rfl ?_)
     refine Rg_op rfl (op_move (v := (Value.int .i64 (IntKind.wrap .i64 (v_1 + 1)))) rfl ?_)
     refine Rg_nil ?_
     exact hK15 _ _ ⟨(IntKind.wrap .i64 (v_1 + 1)), xr5, pre6, wz7, Kz8, Oz9, _, rfl, ⟨(by repeat (first | with_reducible exact Out.refl _ _ | refine Out.upd ?_ rfl | refine Out.updL ?_ rfl | refine Out.mix' ?_ rfl | exact Out.refl _ _)), rfl, rfl, trivial⟩, ch22, hs196, (inK_wrap .i64 _), hI10, hL11, jnE1 hsf14 hm⟩
   ·
    replace hm := bif_f hm hg42
    refine Dw_skip (fun _ _ _ ht => wanted_x rfl (ht 13 rfl) rfl) ?_
    refine Dw_skip (fun _ _ _ ht => wanted_x rfl (ht 13 rfl) rfl) ?_
    refine Dw_skip (fun _ _ _ ht => wanted_x rfl (ht 13 rfl) rfl) ?_
    refine Dw_skip (fun _ _ _ ht => wanted_x rfl (ht 13 rfl) rfl) ?_
    refine Dw_skip (fun _ _ _ ht => wanted_x rfl (ht 13 rfl) rfl) ?_
    refine Dw_skip (fun _ _ _ ht => wanted_x rfl (ht 13 rfl) rfl) ?_
    refine Dw_skip (fun _ _ _ ht => wanted_x rfl (ht 13 rfl) rfl) ?_
    refine Dw_skip (fun _ _ _ ht => wanted_x rfl (ht 13 rfl) rfl) ?_
    refine Dw_skip (fun _ _ _ ht => wanted_x rfl (ht 13 rfl) rfl) ?_
    refine Dw_eq (Value.bool false) (fun ρ223 w224 g hle hi ht => ?_) ?_
    ·
     obtain ⟨-, hst, -⟩ := hle
     refine StepOp_plain (op_pick_f (v := (Value.bool false)) (ht 13 rfl) rfl ?_)
     exact Goes.same hi rfl
    refine Dw_eq (Value.bool false) (fun ρ226 w227 g hle hi ht => ?_) ?_
    ·
     obtain ⟨-, hst, -⟩ := hle
     refine StepOp_plain (op_move (v := (Value.bool false)) (ht 23 rfl) ?_)
     exact Goes.same hi rfl
    refine Dw_skip (fun _ _ _ ht => wanted_x rfl (ht 24 rfl) rfl) ?_
    refine Dw_skip (fun _ _ _ ht => wanted_x rfl (ht 24 rfl) rfl) ?_
    refine Dw_nil fun w233 g234 hl235 hi236 => ?_
    obtain ⟨-, hst237, -⟩ := hl235
    obtain ⟨hs239, p238⟩ := Step.nx hi236
    rintro _ rfl
    rintro _ rfl
    rintro _ rfl
    rintro _ rfl
    rintro _ rfl
    rintro _ rfl
    rintro _ rfl
    rintro _ rfl
    rintro _ rfl
    rintro _ rfl
    rintro _ rfl
    rintro _ rfl
    rintro _ rfl
    rintro _ rfl
    rintro _ rfl
    rintro v240 h241
    replace h241 : Vr.vd (vI .i64) _ _ _ _ := h241
    obtain ⟨rfl, r_y242⟩ := h241
    rintro _ rfl
    have p243 : Step (ks [] Oz9) w17 (ks [] Oz9) w233 := hst237.trans p238
    replace f_fv0_ := f_fv0_.step p243; replace f_fv1_ := f_fv1_.step p243; replace ch22 := ch22.trans p243; clear p243 hs18
    iterate 2 refine Rg_opx rfl (asB_ne rfl rfl) rfl ?_
    refine Rg_op rfl (op_pick_f (v := (Value.bool false)) rfl rfl ?_)
    refine Rg_nil ?_
    refine Wp_cond_f rfl ?_
    refine Wp_skip ?_
    refine Wp_region ?_
    refine Rg_op rfl (op_addw rfl rfl ?_)
    refine Rg_op rfl (op_move (v := (Value.int .i64 (IntKind.wrap .i64 (v_1 + 1)))) rfl ?_)
    refine Rg_nil ?_
    exact hK15 _ _ ⟨(IntKind.wrap .i64 (v_1 + 1)), xr5, pre6, wz7, Kz8, Oz9, _, rfl, ⟨(by repeat (first | with_reducible exact Out.refl _ _ | refine Out.upd ?_ rfl | refine Out.updL ?_ rfl | refine Out.mix' ?_ rfl | exact Out.refl _ _)), rfl, rfl, trivial⟩, ch22, hs239, (inK_wrap .i64 _), hI10, hL11, jnE1 hsf14 hm⟩
  ·
   replace hm := bif_f hm hc23
   refine Wp_exit ?_
   have h244 := hI10.fin hJ hs18
   rw [← Option.some.inj hm, List.append_nil] at hL11; rw [← hL11] at h244
   exact ⟨_, (show Closes [] _ _ from rfl), [], trivial, _, .inl h244⟩

end Go.Fx



set_option linter.unusedVariables false
set_option linter.unusedSimpArgs false
set_option maxRecDepth 100000
set_option maxHeartbeats 0
namespace Go.Fx
open Go Go.RowKit Go.Proofs
def m38_configs_next (l : List (List (Int × Bool))) (from_ : Int) : Option (List Int) :=
 (m45_configs_next_1 l from_).bind fun l_1 =>
 some l_1

theorem c38_configs_next {w : World} {O : List Nat} {l : List (List (Int × Bool))} {from_ : Int} {a_l : Option Addr} {c_l : Nat} (hO : ∀ k ∈ O, k < w.heap.size) (f_l : SlR (rMp .u64 mvB) w O a_l c_l l) (r_from_ : InK .i64 from_) {x : (List Int)} (hm : m38_configs_next l from_ = some x) :
  Ok Try.prog 38 [(Value.slice a_l l.length c_l), (Value.int .i64 from_)] w O (vIt Try.prog (enc1 (vI .i64))) x := by
 unfold m38_configs_next at hm
 refine Fn_of_Wp (n := 6) (xs := [.tmp 4]) Try.func38 rfl Try.ntmps38 Try.results38 rfl ?_
 have hs := St.start hO
 refine Wp_seq ?_
 refine Wp_region ?_
 refine Rg_op rfl (op_box (cs := [(Value.slice a_l l.length c_l)]) hs rfl rfl ?_)
 intro b1 w2 _ p3 hs4
 replace f_l := f_l.step p3; clear p3
 refine Rg_op rfl (op_box (cs := [(Value.int .i64 from_)]) hs4 rfl rfl ?_)
 intro b6 w7 _ p8 hs9
 replace f_l := f_l.step p8; clear p8 hs4
 refine Rg_op rfl (op_assign (v := Value.nilFunc) rfl ?_)
 refine Rg_nil ?_
 refine Wp_seq ?_
 refine Wp_region ?_
 obtain ⟨hs12, p13, f11⟩ := St.publishP (p := (rSl (rMp .u64 mvB))) (i := 1) (x := l) hs9 rfl (mk_sl f_l)
 replace f_l := f_l.step p13; clear p13 hs9
 obtain ⟨hs15, p16, f14⟩ := St.publishP (p := (rInt .i64)) (i := 0) (x := from_) hs12 rfl (mk_int r_from_)
 replace f_l := f_l.step p16; replace f11 := f11.step p16; clear p16 hs12
 refine Rg_op rfl (op_makeFunc' (a' := []) (c' := [(Value.pointer (some (⟨b1, 0, none⟩ : Addr))), (Value.pointer (some (⟨b6, 0, none⟩ : Addr)))]) rfl rfl ?_)
 replace hm := bd hm; obtain ⟨l_1, hv17, hm⟩ := hm
 have F18 : ItR Try.prog (enc1 (vI .i64)) w7 (ks [] O) (Value.func (.func 45) #[] #[(Value.pointer (some (⟨b1, 0, none⟩ : Addr))), (Value.pointer (some (⟨b6, 0, none⟩ : Addr)))]) l_1 := ⟨45, [(Value.pointer (some (⟨b1, 0, none⟩ : Addr))), (Value.pointer (some (⟨b6, 0, none⟩ : Addr)))], rfl, Try.call45, c45_configs_next_1 hs15.ltw f11 f14 hv17⟩
 refine Rg_op rfl (op_assign (v := (Value.func (.func 45) #[] #[(Value.pointer (some (⟨b1, 0, none⟩ : Addr))), (Value.pointer (some (⟨b6, 0, none⟩ : Addr)))])) rfl ?_)
 refine Rg_nil ?_
 refine Wp_ret ?_
 have hz := step_all hs15
 replace f_l := f_l.step hz; replace f11 := f11.step hz; replace f14 := f14.step hz; replace F18 := F18.step hz
 refine ⟨_, (show Closes [] _ _ from rfl), [(Value.func (.func 45) #[] #[(Value.pointer (some (⟨b1, 0, none⟩ : Addr))), (Value.pointer (some (⟨b6, 0, none⟩ : Addr)))])], ⟨rfl, trivial⟩, hs15.ext, ?_⟩
 exact Vr.eq (a := (vIt Try.prog (enc1 (vI .i64)))) (x := l_1) F18 (Option.some.inj hm)

end Go.Fx



set_option linter.unusedVariables false
set_option linter.unusedSimpArgs false
set_option maxRecDepth 100000
set_option maxHeartbeats 0
namespace Go.Fx
open Go Go.RowKit Go.Proofs
end Go.Fx



set_option linter.unusedVariables false
set_option linter.unusedSimpArgs false
set_option maxRecDepth 100000
set_option maxHeartbeats 0
namespace Go.Fx
open Go Go.RowKit Go.Proofs
def m48_bits_Mul64 (x_ : Int) (y : Int) : Option (Int × Int) :=
 some ((IntKind.wrap .u64 ((IntKind.wrap .u64 ((IntKind.wrap .u64 ((x_ / 2 ^ min 32 (IntKind.bits .u64)) * (y / 2 ^ min 32 (IntKind.bits .u64)))) + ((IntKind.wrap .u64 ((IntKind.wrap .u64 ((x_ / 2 ^ min 32 (IntKind.bits .u64)) * (Go.bits .and .u64 y 4294967295))) + ((IntKind.wrap .u64 ((Go.bits .and .u64 x_ 4294967295) * (Go.bits .and .u64 y 4294967295))) / 2 ^ min 32 (IntKind.bits .u64)))) / 2 ^ min 32 (IntKind.bits .u64)))) + ((IntKind.wrap .u64 ((Go.bits .and .u64 (IntKind.wrap .u64 ((IntKind.wrap .u64 ((x_ / 2 ^ min 32 (IntKind.bits .u64)) * (Go.bits .and .u64 y 4294967295))) + ((IntKind.wrap .u64 ((Go.bits .and .u64 x_ 4294967295) * (Go.bits .and .u64 y 4294967295))) / 2 ^ min 32 (IntKind.bits .u64)))) 4294967295) + (IntKind.wrap .u64 ((Go.bits .and .u64 x_ 4294967295) * (y / 2 ^ min 32 (IntKind.bits .u64)))))) / 2 ^ min 32 (IntKind.bits .u64)))), (IntKind.wrap .u64 (x_ * y)))

theorem c48_bits_Mul64 {w : World} {O : List Nat} {x_ : Int} {y : Int} (hO : ∀ k ∈ O, k < w.heap.size) (r_x_ : InK .u64 x_) (r_y : InK .u64 y) {x : Int × Int} (hm : m48_bits_Mul64 x_ y = some x) :
  Ok Try.prog 48 [(Value.int .u64 x_), (Value.int .u64 y)] w O (vT2 (vI .u64) (vI .u64)) x := by
 unfold m48_bits_Mul64 at hm
 refine Fn_of_Wp (n := 51) (xs := [.tmp 4, .tmp 5]) Try.func48 rfl Try.ntmps48 Try.results48 rfl ?_
 have hs := St.start hO
 refine Wp_seq ?_
 refine Wp_region ?_
 refine Rg_op rfl (op_assign (v := (Value.int .u64 0)) rfl ?_)
 refine Rg_op rfl (op_assign (v := (Value.int .u64 0)) rfl ?_)
 refine Rg_nil ?_
 refine Wp_seq ?_
 refine Wp_region ?_
 refine Rg_op rfl (op_move (v := (Value.int .u64 x_)) rfl ?_)
 refine Rg_op rfl (op_and rfl rfl ?_)
 refine Rg_op rfl (op_assign (v := (Value.int .u64 (Go.bits .and .u64 x_ 4294967295))) rfl ?_)
 refine Rg_nil ?_
 refine Wp_seq ?_
 refine Wp_region ?_
 refine Rg_op rfl (op_move (v := (Value.int .u64 x_)) rfl ?_)
 refine Rg_op rfl (op_shr rfl rfl (by decide) ?_)
 refine Rg_op rfl (op_assign (v := (Value.int .u64 (x_ / 2 ^ min 32 (IntKind.bits .u64)))) rfl ?_)
 refine Rg_nil ?_
 refine Wp_seq ?_
 refine Wp_region ?_
 refine Rg_op rfl (op_move (v := (Value.int .u64 y)) rfl ?_)
 refine Rg_op rfl (op_and rfl rfl ?_)
 refine Rg_op rfl (op_assign (v := (Value.int .u64 (Go.bits .and .u64 y 4294967295))) rfl ?_)
 refine Rg_nil ?_
 refine Wp_seq ?_
 refine Wp_region ?_
 refine Rg_op rfl (op_move (v := (Value.int .u64 y)) rfl ?_)
 refine Rg_op rfl (op_shr rfl rfl (by decide) ?_)
 refine Rg_op rfl (op_assign (v := (Value.int .u64 (y / 2 ^ min 32 (IntKind.bits .u64)))) rfl ?_)
 refine Rg_nil ?_
 refine Wp_seq ?_
 refine Wp_region ?_
 refine Rg_op rfl (op_move (v := (Value.int .u64 (Go.bits .and .u64 x_ 4294967295))) rfl ?_)
 refine Rg_op rfl (op_move (v := (Value.int .u64 (Go.bits .and .u64 y 4294967295))) rfl ?_)
 refine Rg_op rfl (op_mulw rfl rfl ?_)
 refine Rg_op rfl (op_assign (v := (Value.int .u64 (IntKind.wrap .u64 ((Go.bits .and .u64 x_ 4294967295) * (Go.bits .and .u64 y 4294967295))))) rfl ?_)
 refine Rg_nil ?_
 refine Wp_seq ?_
 refine Wp_region ?_
 refine Rg_op rfl (op_move (v := (Value.int .u64 (x_ / 2 ^ min 32 (IntKind.bits .u64)))) rfl ?_)
 refine Rg_op rfl (op_move (v := (Value.int .u64 (Go.bits .and .u64 y 4294967295))) rfl ?_)
 refine Rg_op rfl (op_mulw rfl rfl ?_)
 refine Rg_op rfl (op_move (v := (Value.int .u64 (IntKind.wrap .u64 ((Go.bits .and .u64 x_ 4294967295) * (Go.bits .and .u64 y 4294967295))))) rfl ?_)
 refine Rg_op rfl (op_shr rfl rfl (by decide) ?_)
 refine Rg_op rfl (op_addw rfl rfl ?_)
 refine Rg_op rfl (op_assign (v := (Value.int .u64 (IntKind.wrap .u64 ((IntKind.wrap .u64 ((x_ / 2 ^ min 32 (IntKind.bits .u64)) * (Go.bits .and .u64 y 4294967295))) + ((IntKind.wrap .u64 ((Go.bits .and .u64 x_ 4294967295) * (Go.bits .and .u64 y 4294967295))) / 2 ^ min 32 (IntKind.bits .u64)))))) rfl ?_)
 refine Rg_nil ?_
 refine Wp_seq ?_
 refine Wp_reset [] [(0, (Value.int .u64 x_)), (1, (Value.int .u64 y)), (6, (Value.int .u64 (Go.bits .and .u64 x_ 4294967295))), (7, (Value.int .u64 (x_ / 2 ^ min 32 (IntKind.bits .u64)))), (9, (Value.int .u64 (y / 2 ^ min 32 (IntKind.bits .u64)))), (11, (Value.int .u64 (IntKind.wrap .u64 ((IntKind.wrap .u64 ((x_ / 2 ^ min 32 (IntKind.bits .u64)) * (Go.bits .and .u64 y 4294967295))) + ((IntKind.wrap .u64 ((Go.bits .and .u64 x_ 4294967295) * (Go.bits .and .u64 y 4294967295))) / 2 ^ min 32 (IntKind.bits .u64))))))] rfl ⟨rfl, rfl, rfl, rfl, rfl, rfl, trivial⟩ fun ξ1 => ?_
 refine Wp_region ?_
 refine Rg_op rfl (op_move (v := (Value.int .u64 (IntKind.wrap .u64 ((IntKind.wrap .u64 ((x_ / 2 ^ min 32 (IntKind.bits .u64)) * (Go.bits .and .u64 y 4294967295))) + ((IntKind.wrap .u64 ((Go.bits .and .u64 x_ 4294967295) * (Go.bits .and .u64 y 4294967295))) / 2 ^ min 32 (IntKind.bits .u64)))))) rfl ?_)
 refine Rg_op rfl (op_and rfl rfl ?_)
 refine Rg_op rfl (op_assign (v := (Value.int .u64 (Go.bits .and .u64 (IntKind.wrap .u64 ((IntKind.wrap .u64 ((x_ / 2 ^ min 32 (IntKind.bits .u64)) * (Go.bits .and .u64 y 4294967295))) + ((IntKind.wrap .u64 ((Go.bits .and .u64 x_ 4294967295) * (Go.bits .and .u64 y 4294967295))) / 2 ^ min 32 (IntKind.bits .u64)))) 4294967295))) rfl ?_)
 refine Rg_nil ?_
 refine Wp_seq ?_
 refine Wp_region ?_
 refine Rg_op rfl (op_move (v := (Value.int .u64 (IntKind.wrap .u64 ((IntKind.wrap .u64 ((x_ / 2 ^ min 32 (IntKind.bits .u64)) * (Go.bits .and .u64 y 4294967295))) + ((IntKind.wrap .u64 ((Go.bits .and .u64 x_ 4294967295) * (Go.bits .and .u64 y 4294967295))) / 2 ^ min 32 (IntKind.bits .u64)))))) rfl ?_)
 refine Rg_op rfl (op_shr rfl rfl (by decide) ?_)
 refine Rg_op rfl (op_assign (v := (Value.int .u64 ((IntKind.wrap .u64 ((IntKind.wrap .u64 ((x_ / 2 ^ min 32 (IntKind.bits .u64)) * (Go.bits .and .u64 y 4294967295))) + ((IntKind.wrap .u64 ((Go.bits .and .u64 x_ 4294967295) * (Go.bits .and .u64 y 4294967295))) / 2 ^ min 32 (IntKind.bits .u64)))) / 2 ^ min 32 (IntKind.bits .u64)))) rfl ?_)
 refine Rg_nil ?_
 refine Wp_seq ?_
 refine Wp_region ?_
 refine Rg_op rfl (op_move (v := (Value.int .u64 (Go.bits .and .u64 (IntKind.wrap .u64 ((IntKind.wrap .u64 ((x_ / 2 ^ min 32 (IntKind.bits .u64)) * (Go.bits .and .u64 y 4294967295))) + ((IntKind.wrap .u64 ((Go.bits .and .u64 x_ 4294967295) * (Go.bits .and .u64 y 4294967295))) / 2 ^ min 32 (IntKind.bits .u64)))) 4294967295))) rfl ?_)
 refine Rg_op rfl (op_move (v := (Value.int .u64 (Go.bits .and .u64 x_ 4294967295))) rfl ?_)
 refine Rg_op rfl (op_move (v := (Value.int .u64 (y / 2 ^ min 32 (IntKind.bits .u64)))) rfl ?_)
 refine Rg_op rfl (op_mulw rfl rfl ?_)
 refine Rg_op rfl (op_addw rfl rfl ?_)
 refine Rg_op rfl (op_assign (v := (Value.int .u64 (IntKind.wrap .u64 ((Go.bits .and .u64 (IntKind.wrap .u64 ((IntKind.wrap .u64 ((x_ / 2 ^ min 32 (IntKind.bits .u64)) * (Go.bits .and .u64 y 4294967295))) + ((IntKind.wrap .u64 ((Go.bits .and .u64 x_ 4294967295) * (Go.bits .and .u64 y 4294967295))) / 2 ^ min 32 (IntKind.bits .u64)))) 4294967295) + (IntKind.wrap .u64 ((Go.bits .and .u64 x_ 4294967295) * (y / 2 ^ min 32 (IntKind.bits .u64)))))))) rfl ?_)
 refine Rg_nil ?_
 refine Wp_seq ?_
 refine Wp_region ?_
 refine Rg_op rfl (op_move (v := (Value.int .u64 (x_ / 2 ^ min 32 (IntKind.bits .u64)))) rfl ?_)
 refine Rg_op rfl (op_move (v := (Value.int .u64 (y / 2 ^ min 32 (IntKind.bits .u64)))) rfl ?_)
 refine Rg_op rfl (op_mulw rfl rfl ?_)
 refine Rg_op rfl (op_move (v := (Value.int .u64 ((IntKind.wrap .u64 ((IntKind.wrap .u64 ((x_ / 2 ^ min 32 (IntKind.bits .u64)) * (Go.bits .and .u64 y 4294967295))) + ((IntKind.wrap .u64 ((Go.bits .and .u64 x_ 4294967295) * (Go.bits .and .u64 y 4294967295))) / 2 ^ min 32 (IntKind.bits .u64)))) / 2 ^ min 32 (IntKind.bits .u64)))) rfl ?_)
 refine Rg_op rfl (op_addw rfl rfl ?_)
 refine Rg_op rfl (op_move (v := (Value.int .u64 (IntKind.wrap .u64 ((Go.bits .and .u64 (IntKind.wrap .u64 ((IntKind.wrap .u64 ((x_ / 2 ^ min 32 (IntKind.bits .u64)) * (Go.bits .and .u64 y 4294967295))) + ((IntKind.wrap .u64 ((Go.bits .and .u64 x_ 4294967295) * (Go.bits .and .u64 y 4294967295))) / 2 ^ min 32 (IntKind.bits .u64)))) 4294967295) + (IntKind.wrap .u64 ((Go.bits .and .u64 x_ 4294967295) * (y / 2 ^ min 32 (IntKind.bits .u64)))))))) rfl ?_)
 refine Rg_op rfl (op_shr rfl rfl (by decide) ?_)
 refine Rg_op rfl (op_addw rfl rfl ?_)
 refine Rg_op rfl (op_assign (v := (Value.int .u64 (IntKind.wrap .u64 ((IntKind.wrap .u64 ((IntKind.wrap .u64 ((x_ / 2 ^ min 32 (IntKind.bits .u64)) * (y / 2 ^ min 32 (IntKind.bits .u64)))) + ((IntKind.wrap .u64 ((IntKind.wrap .u64 ((x_ / 2 ^ min 32 (IntKind.bits .u64)) * (Go.bits .and .u64 y 4294967295))) + ((IntKind.wrap .u64 ((Go.bits .and .u64 x_ 4294967295) * (Go.bits .and .u64 y 4294967295))) / 2 ^ min 32 (IntKind.bits .u64)))) / 2 ^ min 32 (IntKind.bits .u64)))) + ((IntKind.wrap .u64 ((Go.bits .and .u64 (IntKind.wrap .u64 ((IntKind.wrap .u64 ((x_ / 2 ^ min 32 (IntKind.bits .u64)) * (Go.bits .and .u64 y 4294967295))) + ((IntKind.wrap .u64 ((Go.bits .and .u64 x_ 4294967295) * (Go.bits .and .u64 y 4294967295))) / 2 ^ min 32 (IntKind.bits .u64)))) 4294967295) + (IntKind.wrap .u64 ((Go.bits .and .u64 x_ 4294967295) * (y / 2 ^ min 32 (IntKind.bits .u64)))))) / 2 ^ min 32 (IntKind.bits .u64)))))) rfl ?_)
 refine Rg_nil ?_
 refine Wp_seq ?_
 refine Wp_region ?_
 refine Rg_op rfl (op_move (v := (Value.int .u64 x_)) rfl ?_)
 refine Rg_op rfl (op_move (v := (Value.int .u64 y)) rfl ?_)
 refine Rg_op rfl (op_mulw rfl rfl ?_)
 refine Rg_op rfl (op_assign (v := (Value.int .u64 (IntKind.wrap .u64 (x_ * y)))) rfl ?_)
 refine Rg_nil ?_
 refine Wp_ret ?_
 have hz := step_all hs
 refine ⟨_, (show Closes [] _ _ from rfl), [(Value.int .u64 (IntKind.wrap .u64 ((IntKind.wrap .u64 ((IntKind.wrap .u64 ((x_ / 2 ^ min 32 (IntKind.bits .u64)) * (y / 2 ^ min 32 (IntKind.bits .u64)))) + ((IntKind.wrap .u64 ((IntKind.wrap .u64 ((x_ / 2 ^ min 32 (IntKind.bits .u64)) * (Go.bits .and .u64 y 4294967295))) + ((IntKind.wrap .u64 ((Go.bits .and .u64 x_ 4294967295) * (Go.bits .and .u64 y 4294967295))) / 2 ^ min 32 (IntKind.bits .u64)))) / 2 ^ min 32 (IntKind.bits .u64)))) + ((IntKind.wrap .u64 ((Go.bits .and .u64 (IntKind.wrap .u64 ((IntKind.wrap .u64 ((x_ / 2 ^ min 32 (IntKind.bits .u64)) * (Go.bits .and .u64 y 4294967295))) + ((IntKind.wrap .u64 ((Go.bits .and .u64 x_ 4294967295) * (Go.bits .and .u64 y 4294967295))) / 2 ^ min 32 (IntKind.bits .u64)))) 4294967295) + (IntKind.wrap .u64 ((Go.bits .and .u64 x_ 4294967295) * (y / 2 ^ min 32 (IntKind.bits .u64)))))) / 2 ^ min 32 (IntKind.bits .u64))))), (Value.int .u64 (IntKind.wrap .u64 (x_ * y)))], ⟨rfl, rfl, trivial⟩, hs.ext, ?_⟩
 exact Vr.eq (a := (vT2 (vI .u64) (vI .u64))) (x := ((IntKind.wrap .u64 ((IntKind.wrap .u64 ((IntKind.wrap .u64 ((x_ / 2 ^ min 32 (IntKind.bits .u64)) * (y / 2 ^ min 32 (IntKind.bits .u64)))) + ((IntKind.wrap .u64 ((IntKind.wrap .u64 ((x_ / 2 ^ min 32 (IntKind.bits .u64)) * (Go.bits .and .u64 y 4294967295))) + ((IntKind.wrap .u64 ((Go.bits .and .u64 x_ 4294967295) * (Go.bits .and .u64 y 4294967295))) / 2 ^ min 32 (IntKind.bits .u64)))) / 2 ^ min 32 (IntKind.bits .u64)))) + ((IntKind.wrap .u64 ((Go.bits .and .u64 (IntKind.wrap .u64 ((IntKind.wrap .u64 ((x_ / 2 ^ min 32 (IntKind.bits .u64)) * (Go.bits .and .u64 y 4294967295))) + ((IntKind.wrap .u64 ((Go.bits .and .u64 x_ 4294967295) * (Go.bits .and .u64 y 4294967295))) / 2 ^ min 32 (IntKind.bits .u64)))) 4294967295) + (IntKind.wrap .u64 ((Go.bits .and .u64 x_ 4294967295) * (y / 2 ^ min 32 (IntKind.bits .u64)))))) / 2 ^ min 32 (IntKind.bits .u64)))), (IntKind.wrap .u64 (x_ * y)))) (mkT2 ⟨rfl, (inK_wrap .u64 _)⟩ ⟨rfl, (inK_wrap .u64 _)⟩) (Option.some.inj hm)

end Go.Fx



set_option linter.unusedVariables false
set_option linter.unusedSimpArgs false
set_option maxRecDepth 100000
set_option maxHeartbeats 0
namespace Go.Fx
open Go Go.RowKit Go.Proofs
def m46_bits_Mul (x_ : Int) (y : Int) : Option (Int × Int) :=
 (m48_bits_Mul64 x_ y).bind fun mul64_1 =>
 some (mul64_1.1, mul64_1.2)

theorem c46_bits_Mul {w : World} {O : List Nat} {x_ : Int} {y : Int} (hO : ∀ k ∈ O, k < w.heap.size) (r_x_ : InK .u64 x_) (r_y : InK .u64 y) {x : Int × Int} (hm : m46_bits_Mul x_ y = some x) :
  Ok Try.prog 46 [(Value.int .u64 x_), (Value.int .u64 y)] w O (vT2 (vI .u64) (vI .u64)) x := by
 unfold m46_bits_Mul at hm
 refine Fn_of_Wp (n := 30) (xs := [.tmp 4, .tmp 5]) Try.func46 rfl Try.ntmps46 Try.results46 rfl ?_
 have hs := St.start hO
 refine Wp_seq ?_
 refine Wp_region ?_
 refine Rg_op rfl (op_assign (v := (Value.int .u64 0)) rfl ?_)
 refine Rg_op rfl (op_assign (v := (Value.int .u64 0)) rfl ?_)
 refine Rg_nil ?_
 refine Wp_seq ?_
 refine Wp_cond_f rfl ?_
 refine Wp_skip ?_
 refine Wp_seq ?_
 refine Wp_region ?_
 refine Rg_op rfl (op_move (v := (Value.int .u64 x_)) rfl ?_)
 refine Rg_op rfl (op_move (v := (Value.int .u64 y)) rfl ?_)
 replace hm := bd hm; obtain ⟨mul64_1, hv1, hm⟩ := hm
 refine Rg_op rfl (op_call Try.call48 (c48_bits_Mul64 (x_ := x_) (y := y) hs.ltw r_x_ r_y hv1) rfl ?_)
 rintro v2 w3 ⟨hx4, h5⟩
 have hs6 := hs.call hx4
 have p7 := Step.ext (O := ks [] O) hx4
 clear hx4
 clear p7
 obtain ⟨v8, v9, rfl, h10, h11⟩ := h5
 obtain ⟨rfl, r_y12⟩ := h10
 obtain ⟨rfl, r_y13⟩ := h11
 refine Rg_op rfl (op_move (v := (Value.tuple [(Value.int .u64 mul64_1.1), (Value.int .u64 mul64_1.2)].toArray)) rfl ?_)
 refine Rg_op rfl (op_extract (v := (Value.int .u64 mul64_1.1)) rfl rfl ?_)
 refine Rg_op rfl (op_extract (v := (Value.int .u64 mul64_1.2)) rfl rfl ?_)
 refine Rg_op rfl (op_assign (v := (Value.int .u64 mul64_1.1)) rfl ?_)
 refine Rg_op rfl (op_assign (v := (Value.int .u64 mul64_1.2)) rfl ?_)
 refine Rg_nil ?_
 refine Wp_seq ?_
 refine Wp_region ?_
 refine Rg_op rfl (op_move (v := (Value.int .u64 mul64_1.1)) rfl ?_)
 refine Rg_op rfl (op_move (v := (Value.int .u64 mul64_1.2)) rfl ?_)
 refine Rg_op rfl (op_assign (v := (Value.int .u64 mul64_1.1)) rfl ?_)
 refine Rg_op rfl (op_assign (v := (Value.int .u64 mul64_1.2)) rfl ?_)
 refine Rg_nil ?_
 refine Wp_ret ?_
 have hz := step_all hs6
 refine ⟨_, (show Closes [] _ _ from rfl), [(Value.int .u64 mul64_1.1), (Value.int .u64 mul64_1.2)], ⟨rfl, rfl, trivial⟩, hs6.ext, ?_⟩
 exact Vr.eq (a := (vT2 (vI .u64) (vI .u64))) (x := (mul64_1.1, mul64_1.2)) (mkT2 ⟨rfl, r_y12⟩ ⟨rfl, r_y13⟩) (Option.some.inj hm)

end Go.Fx



set_option linter.unusedVariables false
set_option linter.unusedSimpArgs false
set_option maxRecDepth 100000
set_option maxHeartbeats 0
namespace Go.Fx
open Go Go.RowKit Go.Proofs
def m42_slices_Repeatint_int__B0 (sf42 : (List Int) → Int → Option (List Int)) (newslice_1 : List Int) (n_1 : Int) : Option (List Int) :=
 bif (decide (n_1 < (newslice_1.length : Int))) then
  ck ((0 : Int) ≤ n_1 ∧ n_1 < (newslice_1.length : Int) ∧ (newslice_1.length : Int) ≤ (newslice_1.length : Int)) <|
  ck ((0 : Int) ≤ (0 : Int) ∧ (0 : Int) < n_1 ∧ n_1 ≤ (newslice_1.length : Int)) <|
  ck (n_1.toNat < newslice_1.length) <|
  sf42 (newslice_1.take n_1.toNat ++ (((newslice_1.drop 0).take (n_1.toNat - 0)).take (newslice_1.length - n_1.toNat) ++ (newslice_1.drop n_1.toNat).drop (min ((newslice_1.drop 0).take (n_1.toNat - 0)).length (newslice_1.length - n_1.toNat)))) (IntKind.wrap .i64 (n_1 + ((min ((newslice_1.drop 0).take (n_1.toNat - 0)).length (newslice_1.length - n_1.toNat) : Nat) : Int)))
 else
  some newslice_1

def m42_slices_Repeatint_int_ (x_ : List Int) (count : Int) : Option (List Int) :=
 bif (decide (count < 0)) then
  none
 else
  (m46_bits_Mul (IntKind.wrap .u64 (x_.length : Int)) (IntKind.wrap .u64 count)).bind fun mul_1 =>
  jn (fun (v_1 : Bool) =>
   bif v_1 then
    none
   else
    ck ((0 : Int) ≤ (IntKind.wrap .i64 mul_1.2) ∧ (IntKind.wrap .i64 mul_1.2) ≤ (IntKind.wrap .i64 mul_1.2) ∧ (8 : Int) * (IntKind.wrap .i64 mul_1.2) ≤ 281474976710656 ∧ (IntKind.wrap .i64 mul_1.2) ≤ 281474976710656) <|
    ck (0 < (List.replicate (IntKind.wrap .i64 mul_1.2).toNat (0 : Int)).length) <|
    loop2 m42_slices_Repeatint_int__B0 (1000000) (x_.take (List.replicate (IntKind.wrap .i64 mul_1.2).toNat (0 : Int)).length ++ (List.replicate (IntKind.wrap .i64 mul_1.2).toNat (0 : Int)).drop x_.length) ((min x_.length (List.replicate (IntKind.wrap .i64 mul_1.2).toNat (0 : Int)).length : Nat) : Int))
  (fun k17 =>
   bif (decide (0 < mul_1.1)) then
    k17 true
   else
    k17 (decide (9223372036854775807 < mul_1.2)))

theorem g42_slices_Repeatint_int_ {w : World} {O : List Nat} {x_ : List Int} {count : Int} {a_x_ : Option Addr} {c_x_ : Nat} (hO : ∀ k ∈ O, k < w.heap.size) (f_x_ : SlR (rInt .i64) w O a_x_ c_x_ x_) (r_count : InK .i64 count) {x : (List Int)} (hm : m42_slices_Repeatint_int_ x_ count = some x) :
  OkG Try.prog 42 [(Value.slice a_x_ x_.length c_x_), (Value.int .i64 count)] w O (rInt .i64) 3 x := by
 unfold m42_slices_Repeatint_int_ at hm
 refine Fn_of_Wp (n := 48) (xs := [.tmp 4]) Try.func42 rfl Try.ntmps42 Try.results42 rfl ?_
 have hs := St.start hO
 refine Wp_seq ?_
 refine Wp_region ?_
 refine Rg_op rfl (op_assign (v := (Value.slice none 0 0)) rfl ?_)
 refine Rg_nil ?_
 refine Wp_seq ?_
 refine Wp_seq ?_
 refine Wp_region ?_
 refine Rg_op rfl (op_move (v := (Value.int .i64 count)) rfl ?_)
 refine Rg_op rfl (op_lss rfl rfl ?_)
 refine Rg_nil ?_
 refine Wp_cond rfl (fun hc1 => ?_) (fun hc1 => ?_)
 ·
  replace hm := bif_t hm hc1
  refine Wp_region ?_
  cases hm
 ·
  replace hm := bif_f hm hc1
  refine Wp_skip ?_
  refine Wp_seq ?_
  refine Wp_region ?_
  refine Rg_op rfl (op_move (v := (Value.slice a_x_ x_.length c_x_)) rfl ?_)
  refine Rg_op rfl (op_len Try.underlying39 rfl ?_)
  refine Rg_op rfl (op_conv Try.underlying3 Try.underlying77 rfl ?_)
  refine Rg_op rfl (op_move (v := (Value.int .i64 count)) rfl ?_)
  refine Rg_op rfl (op_conv Try.underlying3 Try.underlying77 rfl ?_)
  replace hm := bd hm; obtain ⟨mul_1, hv2, hm⟩ := hm
  refine Rg_op rfl (op_call Try.call46 (c46_bits_Mul (x_ := (IntKind.wrap .u64 (x_.length : Int))) (y := (IntKind.wrap .u64 count)) hs.ltw (inK_wrap .u64 _) (inK_wrap .u64 _) hv2) rfl ?_)
  rintro v3 w4 ⟨hx5, h6⟩
  have hs7 := hs.call hx5
  have p8 := Step.ext (O := ks [] O) hx5
  clear hx5
  replace f_x_ := f_x_.step p8; clear p8
  obtain ⟨v9, v10, rfl, h11, h12⟩ := h6
  obtain ⟨rfl, r_y13⟩ := h11
  obtain ⟨rfl, r_y14⟩ := h12
  refine Rg_op rfl (op_move (v := (Value.tuple [(Value.int .u64 mul_1.1), (Value.int .u64 mul_1.2)].toArray)) rfl ?_)
  refine Rg_op rfl (op_extract (v := (Value.int .u64 mul_1.1)) rfl rfl ?_)
  refine Rg_op rfl (op_extract (v := (Value.int .u64 mul_1.2)) rfl rfl ?_)
  refine Rg_op rfl (op_assign (v := (Value.int .u64 mul_1.1)) rfl ?_)
  refine Rg_op rfl (op_assign (v := (Value.int .u64 mul_1.2)) rfl ?_)
  refine Rg_nil ?_
  refine Wp_seq ?_
  refine Wp_reset [] [(0, (Value.slice a_x_ x_.length c_x_)), (5, (Value.int .u64 mul_1.1)), (6, (Value.int .u64 mul_1.2))] rfl ⟨rfl, rfl, rfl, trivial⟩ fun ξ15 => ?_
  replace hm := jn_elim hm; obtain ⟨k17, hk18, hm⟩ := hm
  refine Wp_seqJ [21, 22, 23, 24, 25, 26] (fun fr w' => ∃ (v_1 : Bool) (Ebs : Ents), Ebs = [] ∧ fr [] [(26, (Value.bool v_1))] ∧ Step (ks [] O) w4 (ks Ebs O) w' ∧ St ⟨w, [], []⟩ O w' Ebs ∧ k17 v_1 = some x) ?_ ?_
  ·
   rintro ρ24 w20 ⟨v_1, Ebs, hEbs, hfr23, hst22, hs21, hm⟩
   replace hm := jnE1 hk18 hm
   subst hEbs; rw [hfr23.eq]; clear hfr23
   replace f_x_ := f_x_.step hst22; clear hst22 hs7
   refine Wp_cond rfl (fun hc25 => ?_) (fun hc25 => ?_)
   ·
    replace hm := bif_t hm hc25
    refine Wp_region ?_
    cases hm
   ·
    replace hm := bif_f hm hc25
    refine Wp_skip ?_
    refine Wp_seq ?_
    refine Wp_region ?_
    refine Rg_op rfl (op_move (v := (Value.int .u64 mul_1.2)) rfl ?_)
    refine Rg_op rfl (op_conv Try.underlying77 Try.underlying3 rfl ?_)
    replace hm := ck_some hm; obtain ⟨hc26, hm⟩ := hm
    refine Rg_op rfl (op_makeSliceI (q := (rInt .i64)) (v := (Value.int .i64 0)) (x0 := (0 : Int)) ty39 ty3 hs21 rfl rfl hc26 rfl (fun _ _ => (mk_int (show InK .i64 0 from by decide))) ?_)
    intro b27 w28 hx32 p29 hs30 f31
    replace f_x_ := f_x_.step p29; clear p29 hs21
    refine Rg_op rfl (op_assign (v := (Value.slice (some ⟨b27, 0, none⟩) (List.replicate (IntKind.wrap .i64 mul_1.2).toNat (0 : Int)).length ((IntKind.wrap .i64 mul_1.2).toNat))) rfl ?_)
    refine Rg_nil ?_
    refine Wp_seq ?_
    refine Wp_region ?_
    refine Rg_op rfl (op_move (v := (Value.slice (some ⟨b27, 0, none⟩) (List.replicate (IntKind.wrap .i64 mul_1.2).toNat (0 : Int)).length ((IntKind.wrap .i64 mul_1.2).toNat))) rfl ?_)
    refine Rg_op rfl (op_move (v := (Value.slice a_x_ x_.length c_x_)) rfl ?_)
    replace hm := ck_some hm; obtain ⟨hc34, hm⟩ := hm
    refine Rg_op rfl (op_copyG (p := (rInt .i64)) (i := 0) ty39 ty3 rfl hs30 rfl rfl f31 rfl f_x_ hc34 ?_)
    intro o38 w35 p36 hs37 f39
    replace f_x_ := f_x_.step p36; clear p36 hs30
    refine Rg_op rfl (op_assign (v := (Value.int .i64 ((min x_.length (List.replicate (IntKind.wrap .i64 mul_1.2).toNat (0 : Int)).length : Nat) : Int))) rfl ?_)
    refine Rg_nil ?_
    refine Wp_seq ?_
    refine Wp_block ?_
    refine Wp_loopM [7, 8, 34, 35, 36, 37, 38, 39, 40, 41, 42, 43, 44, 45, 46] (fun m fr w' => ∃ (newslice_1 : List Int) (n_1 : Int) (a_g40 : Option Addr) (c_g40 : Nat) (k_g40 : Option Nat) (o_g40 : Obj) (Ebs : Ents), Ebs = [(k_g40, o_g40)] ∧ fr [] [(7, (Value.slice a_g40 newslice_1.length c_g40)), (8, (Value.int .i64 n_1))] ∧ Step (ks [(some b27, o38)] O) w35 (ks Ebs O) w' ∧ St ⟨w, [], []⟩ O w' Ebs ∧ Gs (rInt .i64) 3 w' (ks Ebs O) a_g40 c_g40 newslice_1 k_g40 o_g40 ∧ InK .i64 n_1 ∧ loop2 m42_slices_Repeatint_int__B0 m newslice_1 n_1 = some x) (1000000) ⟨(x_.take (List.replicate (IntKind.wrap .i64 mul_1.2).toNat (0 : Int)).length ++ (List.replicate (IntKind.wrap .i64 mul_1.2).toNat (0 : Int)).drop x_.length), ((min x_.length (List.replicate (IntKind.wrap .i64 mul_1.2).toNat (0 : Int)).length : Nat) : Int), (some ⟨b27, 0, none⟩), (IntKind.wrap .i64 mul_1.2).toNat, (some b27), o38, _, rfl, ⟨Out.refl _ _, rfl, (eqlenV (show (List.replicate (IntKind.wrap .i64 mul_1.2).toNat (0 : Int)).length = (x_.take (List.replicate (IntKind.wrap .i64 mul_1.2).toNat (0 : Int)).length ++ (List.replicate (IntKind.wrap .i64 mul_1.2).toNat (0 : Int)).drop x_.length).length from by first | (simp; done) | (simp; omega))), rfl, trivial⟩, Step.refl _ _, hs37, f39, (inK_minlen f_x_), hm⟩ ?_ ?_
    · rintro _ _ ⟨_, _, _, _, _, _, _, _, _, _, _, _, _, hm⟩; exact loop2_z hm
    ·
     rintro m45 K44 hK44 ρ50 w46 ⟨newslice_1, n_1, a_g40, c_g40, k_g40, o_g40, Ebs, hEbs, hfr49, hst48, hs47, f_g40, r_y41, hm⟩
     obtain ⟨sf42, hsf43, hm⟩ := loop2_s hm; unfold m42_slices_Repeatint_int__B0 at hm
     subst hEbs; rw [hfr49.eq]; clear hfr49
     replace f_x_ := f_x_.step hst48; replace f39 := f39.step hst48
     have ch51 := hst48
     refine Wp_seq ?_
     refine Wp_seq ?_
     clear f_x_ f39
     refine Wp_region ?_
     refine Rg_op rfl (op_move (v := (Value.int .i64 n_1)) rfl ?_)
     refine Rg_op rfl (op_move (v := (Value.slice a_g40 newslice_1.length c_g40)) rfl ?_)
     refine Rg_op rfl (op_len Try.underlying39 rfl ?_)
     refine Rg_op rfl (op_lss rfl rfl ?_)
     refine Rg_nil ?_
     refine Wp_cond rfl (fun hc52 => ?_) (fun hc52 => ?_)
     ·
      replace hm := bif_t hm hc52
      refine Wp_skip ?_
      refine Wp_block ?_
      refine Wp_drawR (g0 := []) (m := 7) (fl := [0]) (TS_inv hs47) (.inl rfl) rfl (by decide +kernel) ?_  -- 9
      refine Dw_eq (Value.int .i64 n_1) (fun ρ53 w54 g hle hi ht => ?_) ?_
      ·
       obtain ⟨-, hst, -⟩ := hle
       refine StepOp_plain (op_move (v := (Value.int .i64 n_1)) (ht 8 rfl) ?_)
       exact Goes.same hi rfl
      refine Dw_eq (Value.slice a_g40 newslice_1.length c_g40) (fun ρ56 w57 g hle hi ht => ?_) ?_
      ·
       obtain ⟨-, hst, -⟩ := hle
       refine StepOp_plain (op_move (v := (Value.slice a_g40 newslice_1.length c_g40)) (ht 7 rfl) ?_)
       exact Goes.same hi rfl
      refine Dw_eq (Value.int .i64 n_1) (fun ρ59 w60 g hle hi ht => ?_) ?_
      ·
       obtain ⟨-, hst, -⟩ := hle
       refine StepOp_plain (op_move (v := (Value.int .i64 n_1)) (ht 8 rfl) ?_)
       exact Goes.same hi rfl
      replace hm := ck_some hm; obtain ⟨hc65, hm⟩ := hm
      obtain ⟨b66, rfl, rfl⟩ := f_g40.at_ (by omega)
      refine Dw_eq (Value.slice (some ⟨b66, if c_g40 = n_1.toNat then 0 else 0 + n_1.toNat * 1, none⟩) (newslice_1.length - n_1.toNat) (c_g40 - n_1.toNat)) (fun ρ62 w63 g hle hi ht => ?_) ?_
      ·
       obtain ⟨-, hst, -⟩ := hle
       replace f_g40 := f_g40.step hst
       refine StepOp_plain (op_sliceO (l := n_1.toNat) (h := newslice_1.length) (m := c_g40) ty39 ty3 (ht 39 rfl) (bndI (ht 40 rfl) (by omega)) rfl rfl (by decide) (by omega) (by have := f_g40.le; omega) (Nat.le_refl _) ?_)
       exact Goes.same hi rfl
      refine Dw_eq (Value.slice (some ⟨b66, 0, none⟩) newslice_1.length c_g40) (fun ρ67 w68 g hle hi ht => ?_) ?_
      ·
       obtain ⟨-, hst, -⟩ := hle
       refine StepOp_plain (op_move (v := (Value.slice (some ⟨b66, 0, none⟩) newslice_1.length c_g40)) (ht 7 rfl) ?_)
       exact Goes.same hi rfl
      refine Dw_eq (Value.int .i64 n_1) (fun ρ70 w71 g hle hi ht => ?_) ?_
      ·
       obtain ⟨-, hst, -⟩ := hle
       refine StepOp_plain (op_move (v := (Value.int .i64 n_1)) (ht 8 rfl) ?_)
       exact Goes.same hi rfl
      replace hm := ck_some hm; obtain ⟨hc76, hm⟩ := hm
      refine Dw_eq (Value.slice (some ⟨b66, if c_g40 = 0 then 0 else 0 + 0 * 1, none⟩) (n_1.toNat - 0) (c_g40 - 0)) (fun ρ73 w74 g hle hi ht => ?_) ?_
      ·
       obtain ⟨-, hst, -⟩ := hle
       replace f_g40 := f_g40.step hst
       refine StepOp_plain (op_sliceO (l := 0) (h := n_1.toNat) (m := c_g40) ty39 ty3 (ht 42 rfl) rfl (bndI (ht 43 rfl) (by omega)) rfl (by decide) (by omega) (by have := f_g40.le; omega) (Nat.le_refl _) ?_)
       exact Goes.same hi rfl
      refine Dw_nil fun w81 g82 hl83 hi84 => ?_
      obtain ⟨-, hst85, -⟩ := hl83
      obtain ⟨hs87, p86⟩ := Step.nx hi84
      rintro _ rfl
      rintro _ rfl
      rintro _ rfl
      rintro _ rfl
      rintro _ rfl
      rintro _ rfl
      rintro _ rfl
      have p88 : Step (ks [(some b66, o_g40)] O) w46 (ks [(some b66, o_g40)] O) w81 := hst85.trans p86
      replace f_g40 := f_g40.step p88; replace ch51 := ch51.trans p88; clear p88 hs47
      replace hm := ck_some hm; obtain ⟨hc89, hm⟩ := hm
      obtain ⟨ns90, he91, hr92⟩ := Gs.win (i := 0) (l := 0) (h := n_1.toNat) rfl hs87 rfl f_g40 (by omega) (by omega)
      refine Rg_op rfl (op_copyW (p := (rInt .i64)) (i := 0) (l := n_1.toNat) (h := newslice_1.length) ty39 ty3 rfl hs87 rfl rfl f_g40 (eqlen rfl (show n_1.toNat - 0 = ((newslice_1.drop 0).take (n_1.toNat - 0)).length from by simp; omega)) he91 hr92 hc89 (by omega) ?_)
      intro o96 w93 p94 hs95 f97
      replace ch51 := ch51.trans p94; clear p94 hs87
      have r98 : InK .i64 ((min ((newslice_1.drop 0).take (n_1.toNat - 0)).length (newslice_1.length - n_1.toNat) : Nat) : Int) := inK_of (by have := f97.le; have hm : maxLen = 9223372036854775807 := rfl; simp at this ⊢; omega)
      refine Rg_op rfl (op_addw rfl rfl ?_)
      refine Rg_op rfl (op_assign (v := (Value.int .i64 (IntKind.wrap .i64 (n_1 + ((min ((newslice_1.drop 0).take (n_1.toNat - 0)).length (newslice_1.length - n_1.toNat) : Nat) : Int))))) rfl ?_)
      refine Rg_nil ?_
      exact hK44 _ _ ⟨(newslice_1.take n_1.toNat ++ (((newslice_1.drop 0).take (n_1.toNat - 0)).take (newslice_1.length - n_1.toNat) ++ (newslice_1.drop n_1.toNat).drop (min ((newslice_1.drop 0).take (n_1.toNat - 0)).length (newslice_1.length - n_1.toNat)))), (IntKind.wrap .i64 (n_1 + ((min ((newslice_1.drop 0).take (n_1.toNat - 0)).length (newslice_1.length - n_1.toNat) : Nat) : Int))), (some ⟨b66, 0, none⟩), c_g40, (some b66), o96, _, rfl, ⟨(by repeat (first | with_reducible exact Out.refl _ _ | refine Out.upd ?_ rfl | refine Out.updL ?_ rfl | refine Out.mix' ?_ rfl | exact Out.refl _ _)), rfl, (eqlenV (show newslice_1.length = (newslice_1.take n_1.toNat ++ (((newslice_1.drop 0).take (n_1.toNat - 0)).take (newslice_1.length - n_1.toNat) ++ (newslice_1.drop n_1.toNat).drop (min ((newslice_1.drop 0).take (n_1.toNat - 0)).length (newslice_1.length - n_1.toNat)))).length from by first | (simp; done) | (simp; omega))), rfl, trivial⟩, ch51, hs95, f97, (inK_wrap .i64 _), jnE2 hsf43 hm⟩
     ·
      replace hm := bif_f hm hc52
      refine Wp_exit ?_
      refine Wp_seq ?_
      refine Wp_region ?_
      refine Rg_op rfl (op_move (v := (Value.slice a_g40 newslice_1.length c_g40)) rfl ?_)
      refine Rg_op rfl (op_assign (v := (Value.slice a_g40 newslice_1.length c_g40)) rfl ?_)
      refine Rg_nil ?_
      refine Wp_ret ?_
      refine ⟨_, (show Closes [] _ _ from rfl), [(Value.slice a_g40 newslice_1.length c_g40)], ⟨rfl, trivial⟩, hs47.ext, ?_⟩
      exact OkG.mk (i := 0) hs47 rfl f_g40 (Option.some.inj hm)
  ·
   intro K19 hK19
   have ch99 := Step.refl (ks [] O) w4
   refine Wp_region ?_
   refine Rg_op rfl (op_move (v := (Value.int .u64 mul_1.1)) rfl ?_)
   refine Rg_op rfl (op_gtr rfl rfl ?_)
   refine Rg_op rfl (op_move (v := (Value.bool (decide (0 < mul_1.1)))) rfl ?_)
   refine Rg_case (fun hg100 => ?_) (fun hg100 => ?_)
   ·
    replace hm := bif_t hm hg100
    iterate 2 refine Rg_opx rfl (asB_ne rfl rfl) rfl ?_
    refine Rg_op rfl (op_pick_t (v := (Value.bool true)) rfl rfl ?_)
    refine Rg_nil ?_
    exact hK19 _ _ ⟨true, _, rfl, ⟨(by repeat (first | with_reducible exact Out.refl _ _ | refine Out.upd ?_ rfl | refine Out.updL ?_ rfl | refine Out.mix' ?_ rfl | exact Out.refl _ _)), rfl, rfl, trivial⟩, ch99, hs7, hm⟩
   ·
    replace hm := bif_f hm hg100
    refine Rg_opg rfl rfl rfl (op_move (v := (Value.int .u64 mul_1.2)) rfl ?_)
    refine Rg_opg rfl rfl rfl (op_gtr rfl rfl ?_)
    refine Rg_op rfl (op_pick_f (v := (Value.bool (decide (9223372036854775807 < mul_1.2)))) rfl rfl ?_)
    refine Rg_nil ?_
    exact hK19 _ _ ⟨(decide (9223372036854775807 < mul_1.2)), _, rfl, ⟨(by repeat (first | with_reducible exact Out.refl _ _ | refine Out.upd ?_ rfl | refine Out.updL ?_ rfl | refine Out.mix' ?_ rfl | exact Out.refl _ _)), rfl, rfl, trivial⟩, ch99, hs7, hm⟩
end Go.Fx


