/- Part 2 of the proof: the law JournalSurvives holds for every number of sectors and every script of crashes. -/
import Derived.Test.YtegomkljijgjjaaSurv1
import Derived.ProofKit
import Derived.OpenShut
import Derived.ChangeOld
import Derived.Below
import Derived.SizedLaws
import Derived.Test.YtegomkljijgjjaaChecked
import Derived.Test.YtegomkljijgjjaaRows
import Derived.WalkKit
import Derived.ShutString
/- Ranges over functions: iterators as lists of what they hand out; the loop over one. No program in sight. -/
set_option linter.unusedSimpArgs false
set_option linter.unusedVariables false
namespace Go.Fx
open Go Go.RowKit

/-- blocks of one's own from one world to the next: those of old, and new ones -/
structure Grow (O O' : List Nat) (w w' : World) : Prop where
  new : ∀ k ∈ O', k ∈ O ∨ w.heap.size ≤ k
  lt : ∀ k ∈ O', k < w'.heap.size
theorem Grow.refl {O : List Nat} {w w' : World} (h : ∀ k ∈ O, k < w'.heap.size) : Grow O O w w' := ⟨fun _ h => .inl h, h⟩

/-- what has come, the world, what the loop owns, what the iterator owns -/
abbrev JP (α : Type) := List α → World → List Nat → List Nat → Prop
structure Abides {α : Type} (J : JP α) : Prop where
  loc : ∀ {pre : List α} {w w' : World} {O K K' : List Nat}, J pre w O K → (∀ k ∈ K, k ∉ O) → Loc K w w' → Grow K K' w w' → J pre w' O K'
/-- how the loop's body takes what it is handed -/
def YieldsTo {α : Type} (P : Program) (enc : α → World → List Nat → List Value → Prop) (L : List α) (l : Nat) (J Jx : JP α) : Prop :=
  ∀ (pre : List α) (x : α) (w : World) (O K : List Nat) (vs : List Value), pre ++ [x] <+: L → J pre w O K → (∀ k ∈ K, k < w.heap.size ∧ k ∉ O) → (∀ k ∈ O, k < w.heap.size) → enc x w (K ++ O) vs →
    YieldAt (FW none) 0 P l vs.toArray w fun e w' => ∃ O', Loc O w w' ∧ Grow O O' w w' ∧ ((e = .returned (.bool true) ∧ J (pre ++ [x]) w' O' K) ∨ (e = .returned (.bool false) ∧ Jx (pre ++ [x]) w' O' K))
/-- function f, over what it has captured, hands out the list L -/
def IterF {α : Type} (P : Program) (w : World) (O : List Nat) (f : FuncId) (caps : List Value) (enc : α → World → List Nat → List Value → Prop) (L : List α) : Prop :=
  ∀ (w1 : World) (O1 : List Nat), Step O w O1 w1 → (∀ k ∈ O1, k < w1.heap.size) → ∀ (l : Nat) (J Jx : JP α), Abides J → Abides Jx → YieldsTo P enc L l J Jx → J [] w1 O1 [] →
    Fn P f (.func (.yield l) #[] #[] :: caps) w1 fun _ w2 => ∃ O2, J L w2 O2 [] ∨ ∃ pre, Jx pre w2 O2 []
theorem IterF.step {α : Type} {P : Program} {w w' : World} {O O' : List Nat} {f : FuncId} {caps : List Value} {enc : α → World → List Nat → List Value → Prop} {L : List α} (h : IterF P w O f caps enc L) (s : Step O w O' w') : IterF P w' O' f caps enc L :=
  fun w1 O1 s1 => h w1 O1 (s.trans s1)
def enc2 {α β : Type} (a : Vr α) (b : Vr β) : α × β → World → List Nat → List Value → Prop := fun x w O vs => ∃ v1 v2, vs = [v1, v2] ∧ a.vd w O v1 x.1 ∧ b.vd w O v2 x.2
theorem enc2_len {α β : Type} {a : Vr α} {b : Vr β} {x : α × β} {w : World} {O : List Nat} {vs : List Value} (h : enc2 a b x w O vs) : vs.length = 2 := by obtain ⟨v1, v2, rfl, _⟩ := h; rfl
theorem enc2_step {α β : Type} {a : Vr α} {b : Vr β} {x : α × β} {w w' : World} {O O' : List Nat} {vs : List Value} (s : Step O w O' w') (h : enc2 a b x w O vs) : enc2 a b x w' O' vs := by
  obtain ⟨v1, v2, e, h1, h2⟩ := h; exact ⟨v1, v2, e, a.step s h1, b.step s h2⟩

/-! ### what is owned, said anew -/
theorem Step.sub {O O' : List Nat} {w : World} (h : ∀ k ∈ O', k ∈ O) : Step O w O' w := ⟨Nat.le_refl _, fun k _ hn => ⟨fun hm => hn (h k hm), rfl⟩⟩
theorem Step.of_loc {O O' K : List Nat} {w w' : World} (h : Loc K w w') (hK : ∀ k ∈ K, k ∈ O) (hO : ∀ k ∈ O', k ∈ O ∨ w.heap.size ≤ k) : Step O w O' w' :=
  ⟨h.size, fun k hk hn => ⟨fun hm => (hO k hm).elim hn (fun h => by omega), h.block k hk fun hm => hn (hK k hm)⟩⟩
section
variable {z : Zx} {O0 O1 : List Nat} {w w' : World} {bs : Ents}
theorem mem_ks {k : Nat} : k ∈ ks bs O0 ↔ k ∈ bs.filterMap Prod.fst ∨ k ∈ O0 := List.mem_append
/-- what others own has turned -/
theorem St.loc (h : St z O0 w bs) {K : List Nat} (hl : Loc K w w') (hK : ∀ k ∈ K, k ∉ bs.filterMap Prod.fst ∧ (k ∈ z.K ∨ z.w.heap.size ≤ k) ∧ k ∉ z.ds) : St z O0 w' bs :=
  ⟨h.below.trans' hl fun k hk => (hK k hk).2.1, fun p hp b hb => ⟨(h.own p hp b hb).1, by rw [hl.block b (h.lt hp hb) fun hm => (hK b hm).1 (mem_keys.2 ⟨p, hp, hb⟩)]; exact (h.own p hp b hb).2⟩, h.nd,
   fun k hk => ⟨Nat.lt_of_lt_of_le (h.dj k hk).1 hl.size, (h.dj k hk).2⟩, h.dsn,
   fun D hD => ⟨(h.dfs D hD).1, (h.dfs D hD).2.1, by rw [hl.block D (h.lt0 D (h.dfs D hD).1) fun hm => (hK D hm).2.2 hD]; exact (h.dfs D hD).2.2⟩⟩
/-- others own other blocks -/
theorem St.others (h : St z O0 w bs) (hO : ∀ k ∈ O1, k < w.heap.size ∧ k ∉ bs.filterMap Prod.fst) (hd : ∀ D ∈ z.ds, D ∈ O1) : St z O1 w bs :=
  ⟨h.below, h.own, h.nd, hO, h.dsn, fun D hD => ⟨hd D hD, (h.dfs D hD).2⟩⟩
/-- said from here on -/
theorem St.re (h : St z O0 w bs) : St ⟨w, bs.filterMap Prod.fst, []⟩ O0 w bs :=
  ⟨Loc.refl _ _, fun p hp b hb => ⟨.inl (mem_keys.2 ⟨p, hp, hb⟩), (h.own p hp b hb).2⟩, h.nd, h.dj, List.nodup_nil, fun _ h => by cases h⟩
/-- and from the old beginning again -/
theorem St.back {w1 : World} {K1 : List Nat} (h : St ⟨w1, K1, []⟩ O0 w bs) (hl : Loc z.K z.w w1) (hK : ∀ k ∈ K1, k ∈ z.K ∨ z.w.heap.size ≤ k) (hdn : z.ds.Nodup)
    (hd : ∀ D ∈ z.ds, D ∈ O0 ∧ (D ∈ z.K ∨ z.w.heap.size ≤ D) ∧ w.heap[D]? = some (.deferred (some []))) : St z O0 w bs :=
  ⟨hl.trans' h.below hK, fun p hp b hb => ⟨(h.own p hp b hb).1.elim (hK b) fun h1 => .inr (Nat.le_trans hl.size h1), (h.own p hp b hb).2⟩, h.nd, h.dj, hdn, hd⟩
/-- what is no longer spoken of is let go -/
theorem St.sub {bs' : Ents} (h : St z O0 w bs) (hb : bs'.Sublist bs) : St z O0 w bs' ∧ Step (ks bs O0) w (ks bs' O0) w :=
  ⟨⟨h.below, fun p hp => h.own p (hb.subset hp), (hb.filterMap _).nodup h.nd, fun k hk => ⟨(h.dj k hk).1, fun hm => (h.dj k hk).2 ((hb.filterMap _).subset hm)⟩, h.dsn, h.dfs⟩,
   Step.sub fun k hk => (mem_ks.1 hk).elim (fun hm => mem_ks.2 (.inl ((hb.filterMap _).subset hm))) fun hm => mem_ks.2 (.inr hm)⟩
/-- the marks are taken up -/
theorem St.close {w0 : World} {K0 : List Nat} : ∀ {ds : List Nat} {w : World}, St ⟨w0, K0, ds⟩ O0 w bs → ∃ w', Closes ds w w' ∧ St ⟨w0, K0, []⟩ O0 w' bs ∧ Step (ks bs O0) w (ks bs O0) w'
  | [], w, h => ⟨w, rfl, h, Step.refl _ _⟩
  | D :: ds, w, h => by
    obtain ⟨h1, h2, h3⟩ := h.dfs D (by simp)
    have hlt := h.lt0 D h1
    have hn := List.nodup_cons.1 h.dsn
    have hl : Loc [D] w (w.putObj D (.deferred none)) := ⟨rfl, rfl, rfl, by simp, fun k hk hn => World.putObj_heap_other (by simpa using hn), Nat.le_refl _⟩
    have h4 : St ⟨w0, K0, ds⟩ O0 w bs := ⟨h.below, h.own, h.nd, h.dj, hn.2, fun E hE => h.dfs E (List.mem_cons_of_mem _ hE)⟩
    have h5 : St ⟨w0, K0, ds⟩ O0 (w.putObj D (.deferred none)) bs := h4.loc hl (by rintro k hk; simp at hk; subst hk; exact ⟨(h.dj _ h1).2, h2, hn.1⟩)
    obtain ⟨w', hc, hs, hp⟩ := h5.close
    exact ⟨w', ⟨h3, hc⟩, hs, (Step.of_loc hl (by rintro k hk; simp at hk; subst hk; exact mem_ks.2 (.inr h1)) (fun k hk => .inl hk)).trans hp⟩
end

def updP (ρ : Env) : List Nat → List Value → Env
  | p :: ps, v :: vs => updP (upd ρ p v) ps vs
  | _, _ => ρ
theorem isAct_round {n : Nat} : ∀ (ps : List Nat) (vs : List Value) {ρ : Env} {t : Array Value}, IsAct n ρ { tmps := t, defers := [] } → ps.all (· < n) = true →
    IsAct n (updP ρ ps vs) { tmps := (ps.zip vs).foldl (fun t (p, v) => t.setIfInBounds p v) t, defers := [] }
  | [], vs, ρ, t, h, _ => by cases vs <;> exact h
  | p :: ps, [], ρ, t, h, _ => h
  | p :: ps, v :: vs, ρ, t, h, hp => by
    simp only [List.all_cons, Bool.and_eq_true, decide_eq_true_eq] at hp
    have := h.put (d := some p) (by simpa using hp.1) v
    exact isAct_round ps vs (ρ := upd ρ p v) (t := t.setIfInBounds p v) (by simpa [Act.put, updO] using this) hp.2

theorem isAct_f {n : Nat} {ρ : Env} {a : Act} (h : IsAct n ρ a) : IsAct n ⟨ρ.f, []⟩ { tmps := a.tmps, defers := [] } := ⟨h.size, rfl, h.get⟩

/-- how a round is left for good: by a return (none), or out of a block -/
def exitOf : Option Nat → Exit
  | none => .ret
  | some id => .exit id
def codeOf : Option Nat → Code
  | none => .ret
  | some id => .exit id

section rule
variable {P : Program} {n : Nat} {Q : Post} {ρ : Env} {w : World} {z : Zx} {O0 : List Nat} {bs : Ents}
variable {α σ : Type} {g : Operand} {ps : List Nat} {assign body : Code} {f : FuncId} {caps : List Value} {enc : α → World → List Nat → List Value → Prop} {L : List α}
/-- what is known of the loop's own between two rounds; E: what the iterator and the loop's machinery own -/
structure Core (bs : Ents) (O0 : List Nat) (w : World) (z : Zx) (bsF : σ → Ents) (fct : σ → World → List Nat → Prop) (E : List Nat) (s : σ) (w' : World) : Prop where
  st : St z (E ++ O0) w' (bsF s)
  ch : Step (ks bs O0) w (ks (bsF s) (E ++ O0)) w'
  fc : fct s w' (ks (bsF s) (E ++ O0))

theorem Core.loc {bsF : σ → Ents} {fct : σ → World → List Nat → Prop} (hfs : ∀ s w O w' O', Step O w O' w' → fct s w O → fct s w' O') {K K' F : List Nat} {s : σ} {w' w'' : World} (h : Core bs O0 w z bsF fct (K ++ F) s w')
    (hK : ∀ k ∈ K, k ∉ ks (bsF s) (F ++ O0)) (hz : ∀ k ∈ K, k ∈ z.K ∨ z.w.heap.size ≤ k) (hds : ∀ D ∈ z.ds, D ∈ F ++ O0) (hl : Loc K w' w'') (hg : Grow K K' w' w'') : Core bs O0 w z bsF fct (K' ++ F) s w'' := by
  have h1 : St z (K ++ F ++ O0) w'' (bsF s) := h.st.loc hl fun k hk => ⟨fun hm => hK k hk (mem_ks.2 (.inl hm)), hz k hk, fun hm => hK k hk (mem_ks.2 (.inr (hds k hm)))⟩
  have h2 : St z (K' ++ F ++ O0) w'' (bsF s) := by
    refine h1.others (fun k hk => ?_) (fun D hD => ?_)
    · rw [List.append_assoc] at hk
      rcases List.mem_append.1 hk with hk | hk
      · refine ⟨hg.lt k hk, fun hm => ?_⟩
        rcases hg.new k hk with h5 | h5
        · exact hK k h5 (mem_ks.2 (.inl hm))
        · obtain ⟨p, hp, e⟩ := mem_keys.1 hm
          have := h.st.lt hp e
          omega
      · exact h1.dj k (by rw [List.append_assoc]; exact List.mem_append_right _ hk)
    · rw [List.append_assoc]; exact List.mem_append_right _ (hds D hD)
  have hst : Step (ks (bsF s) (K ++ F ++ O0)) w' (ks (bsF s) (K' ++ F ++ O0)) w'' := Step.of_loc hl (fun k hk => mem_ks.2 (.inr (by simp [hk]))) fun k hk => by
    rcases mem_ks.1 hk with hk | hk
    · exact .inl (mem_ks.2 (.inl hk))
    · rw [List.append_assoc] at hk
      rcases List.mem_append.1 hk with hk | hk
      · rcases hg.new k hk with h | h
        · exact .inl (mem_ks.2 (.inr (by simp [h])))
        · exact .inr h
      · exact .inl (mem_ks.2 (.inr (by rw [List.append_assoc]; exact List.mem_append_right _ hk)))
  exact ⟨h2, h.ch.trans hst, hfs _ _ _ _ _ hst h.fc⟩

/-- the loop over an iterator: s tells what the loop's own holds; tl: what is still to come; tx: how it is left -/
theorem Wp_rangeFunc (hs : St z O0 w bs) (hv : ev ρ g = .func (.func f) #[] caps.toArray) (hcall : ∀ (args : Array Value) (w : World), (callFunc f args).run P w = .ok (.enter f args) w) (it : IterF P w (ks bs O0) f caps enc L)
    (hps : ps.all (· < n) = true) (hlen : ∀ {x w O vs}, enc x w O vs → vs.length = ps.length) (henc : ∀ {x w O w' O' vs}, Step O w O' w' → enc x w O vs → enc x w' O' vs)
    (bsF : σ → Ents) (fct : σ → World → List Nat → Prop) (hfs : ∀ s w O w' O', Step O w O' w' → fct s w O → fct s w' O') (tl : σ → List α → Prop) (xs : List (Option Nat)) (tx : Option Nat → σ → Prop)
    (s0 : σ) (hb0 : bsF s0 = bs) (hf0 : fct s0 w (ks bs O0)) (ht0 : tl s0 L)
    (round : ∀ l E s x rest w' vs za, za.ds = [] → St za (E ++ O0) w' (bsF s) → Step (ks bs O0) w (ks (bsF s) (E ++ O0)) w' → fct s w' (ks (bsF s) (E ++ O0)) → tl s (x :: rest) → enc x w' (ks (bsF s) (E ++ O0)) vs →
      Wp P (some l) n assign (thenE (fun ρ' w2 => ∃ bs2, St za (E ++ O0) w2 bs2 ∧ ∀ w3 zb (RQ : Post), zb.ds = [] → St zb (E ++ O0) w3 bs2 → Step (ks bs2 (E ++ O0)) w2 (ks bs2 (E ++ O0)) w3 →
          (∀ s' ρ' w4, St zb (E ++ O0) w4 (bsF s') → Step (ks bs O0) w (ks (bsF s') (E ++ O0)) w4 → fct s' w4 (ks (bsF s') (E ++ O0)) → tl s' rest → RQ .normal ρ' w4) →
          (∀ e s' ρ' w4, e ∈ xs → St zb (E ++ O0) w4 (bsF s') → Step (ks bs O0) w (ks (bsF s') (E ++ O0)) w4 → fct s' w4 (ks (bsF s') (E ++ O0)) → tx e s' → RQ (exitOf e) ρ' w4) →
          Wp P (some l) n body RQ ρ' w3) (fun _ _ _ => False)) (updP ⟨ρ.f, []⟩ ps vs) w')
    (done : ∀ D s w', St ⟨z.w, z.K, D :: z.ds⟩ (D :: O0) w' (bsF s) → Step (ks bs O0) w (ks (bsF s) (D :: O0)) w' → fct s w' (ks (bsF s) (D :: O0)) → tl s [] → Q .normal ⟨ρ.f, D :: ρ.ds⟩ w')
    (stop : ∀ e D s w', e ∈ xs → St ⟨z.w, z.K, D :: z.ds⟩ (D :: O0) w' (bsF s) → Step (ks bs O0) w (ks (bsF s) (D :: O0)) w' → fct s w' (ks (bsF s) (D :: O0)) → tx e s → Q (exitOf e) ⟨ρ.f, D :: ρ.ds⟩ w') :
    Wp P none n (.rangeFunc g ps.toArray assign body) Q ρ w := by
  subst hb0
  unfold Wp
  intro a ha
  refine wpIn_rangeFunc ?_
  intro fn hfn
  obtain ⟨rec, hrec⟩ : ∃ rec : LoopState → Option Code → Loop, rec = fun st pe => { state := st, pending := pe, fn, tmps := a.tmps, params := ps.toArray, assign, body, defers := w.heap.size } := ⟨_, rfl⟩
  obtain ⟨w1, hw1⟩ : ∃ w1, (w.alloc (.deferred (some []))).alloc (.loop (rec .ready none)) = w1 := ⟨_, rfl⟩
  have hx1 : Ext w w1 := by rw [← hw1]; exact (Ext.alloc w _).trans (Ext.alloc _ _)
  have hsz : w1.heap.size = w.heap.size + 2 := by rw [← hw1]; simp
  have hl1 : w1.heap[w.heap.size + 1]? = some (.loop (rec .ready none)) := by
    rw [← hw1]; have := heap_alloc_new (w.alloc (.deferred (some []))) (.loop (rec .ready none)); simpa using this
  have hd1 : w1.heap[w.heap.size]? = some (.deferred (some [])) := by
    rw [← hw1, heap_alloc_old _ _ _ (by simp)]; exact heap_alloc_new w _
  obtain ⟨zD, hzD⟩ : ∃ zD : Zx, zD = ⟨z.w, z.K, w.heap.size :: z.ds⟩ := ⟨_, rfl⟩
  obtain ⟨F, hF⟩ : ∃ F : List Nat, F = [w.heap.size + 1, w.heap.size] := ⟨_, rfl⟩
  have hmF : ∀ k, k ∈ F ↔ k = w.heap.size + 1 ∨ k = w.heap.size := fun k => by rw [hF]; simp
  have hzds : ∀ D ∈ zD.ds, D ∈ F ++ O0 := fun D hD => by
    rw [hzD] at hD
    rcases List.mem_cons.1 hD with e | hD
    · exact List.mem_append_left _ ((hmF D).2 (.inr e))
    · exact List.mem_append_right _ (hs.dfs D hD).1
  have hzw : z.w.heap.size ≤ w.heap.size := hs.below.size
  -- the loop's invariant
  obtain ⟨J0, hJ0⟩ : ∃ J0 : (LoopState × Option Code) → List Nat → List Nat → World → σ → Prop, J0 = fun st O K w' s => O = ks (bsF s) (F ++ O0) ∧ (∀ k ∈ K, w.heap.size + 2 ≤ k) ∧ Core (bsF s0) O0 w zD bsF fct (K ++ F) s w' ∧
      w'.heap[w.heap.size + 1]? = some (.loop (rec st.1 st.2)) := ⟨_, rfl⟩
  have hJ0ab : ∀ {st : LoopState × Option Code} {O K K' : List Nat} {w' w'' : World} {s : σ}, J0 st O K w' s → (∀ k ∈ K, k ∉ O) → Loc K w' w'' → Grow K K' w' w'' → J0 st O K' w'' s := by
    intro st O K K' w' w'' s h hKO hl hg
    rw [hJ0] at h ⊢
    obtain ⟨h1, h2, h3, h4⟩ := h
    have hsz' : w.heap.size + 2 ≤ w'.heap.size := by
      have := h3.st.lt0 (w.heap.size + 1) (by simp [hF]); omega
    refine ⟨h1, fun k hk => (hg.new k hk).elim (h2 k) fun h => by omega, h3.loc hfs (fun k hk => h1 ▸ hKO k hk) (fun k hk => .inr ?_) hzds hl hg, ?_⟩
    · have := h2 k hk; rw [hzD]; simp only; omega
    · rw [hl.block _ (h3.st.lt0 _ (by simp [hF])) fun hm => by have := h2 _ hm; omega]; exact h4
  have hst0 : St z O0 w1 (bsF s0) := hs.call hx1
  have hcore1 : Core (bsF s0) O0 w zD bsF fct ([] ++ F) s0 w1 := by
    have h1 : St zD ([] ++ F ++ O0) w1 (bsF s0) := by
      refine ⟨by rw [hzD]; exact hst0.below, by rw [hzD]; exact hst0.own, hst0.nd, fun k hk => ?_, ?_, fun D hD => ?_⟩
      · rw [List.nil_append] at hk
        rcases List.mem_append.1 hk with hk | hk
        · have hk' := (hmF k).1 hk
          refine ⟨by omega, fun hm => ?_⟩
          obtain ⟨p, hp, e⟩ := mem_keys.1 hm
          have := hs.lt hp e; omega
        · exact hst0.dj k hk
      · rw [hzD]
        exact List.nodup_cons.2 ⟨fun hm => by have := hs.lt0 _ (hs.dfs _ hm).1; omega, hs.dsn⟩
      · refine ⟨by rw [List.nil_append]; exact hzds D hD, ?_⟩
        rw [hzD] at hD ⊢
        rcases List.mem_cons.1 hD with e | hD
        · subst e; exact ⟨.inr hzw, hd1⟩
        · exact (hst0.dfs D hD).2
    have h2 : Step (ks (bsF s0) O0) w (ks (bsF s0) ([] ++ F ++ O0)) w1 := Step.of_loc (K := []) (.of_ext hx1) (by simp) fun k hk => by
      rw [List.nil_append] at hk
      rcases mem_ks.1 hk with hk | hk
      · exact .inl (mem_ks.2 (.inl hk))
      · rcases List.mem_append.1 hk with hk | hk
        · have := (hmF k).1 hk; exact .inr (by omega)
        · exact .inl (mem_ks.2 (.inr hk))
    exact ⟨h1, h2, hfs _ _ _ _ _ h2 hf0⟩
  refine ⟨w.heap.size + 1, [dcol w.heap.size], w1, { target := .fn (.func f) caps.toArray, args := #[.func (.yield (w.heap.size + 1)) #[] #[]] }, w1, f,
    #[.func (.yield (w.heap.size + 1)) #[] #[]] ++ caps.toArray, w1, ?_, ?_, fun _ _ => trivial, ?_, fun h => by simp [FW] at h, ?_⟩
  · rw [← hw1, hrec]; exact run_enterLoop_outer _ _ _ _ _
  · simp only [resolve, ha.eval, hv]
    simp [go_sem, ev]
  · simp [invoke, go_sem, hcall]
  · have hfn' := it w1 (ks (bsF s0) (F ++ O0)) (by have := hcore1.ch; simpa using this) (fun k hk => by have := hcore1.st.ltw k (by simpa using hk); exact this) (w.heap.size + 1)
      (fun pre w' O K => ∃ s rest, L = pre ++ rest ∧ J0 (.ready, none) O K w' s ∧ tl s rest)
      (fun _ w' O K => ∃ s e, e ∈ xs ∧ J0 (.done, some (codeOf e)) O K w' s ∧ tx e s)
      ⟨fun ⟨s, rest, h1, h2, h3⟩ hk hl hg => ⟨s, rest, h1, hJ0ab h2 hk hl hg, h3⟩⟩ ⟨fun ⟨s, e, h1, h2, h3⟩ hk hl hg => ⟨s, e, h1, hJ0ab h2 hk hl hg, h3⟩⟩
      ?_ ⟨s0, L, rfl, by rw [hJ0]; exact ⟨rfl, by simp, hcore1, hl1⟩, ht0⟩
    · -- behind the iterator
      unfold Fn at hfn'
      have hcl : (#[Value.func (.yield (w.heap.size + 1)) #[] #[]] ++ caps.toArray) = (Value.func (.yield (w.heap.size + 1)) #[] #[] :: caps).toArray := by simp
      rw [hcl]
      refine CallsIn.mono hfn' ?_
      rintro e w2 ⟨v, rfl, O2, h⟩
      have fin : ∀ {st : LoopState × Option Code} {s : σ}, st.1 ≠ .busy → J0 st O2 [] w2 s → ∃ w3, (Instr.endLoop (w.heap.size + 1)).run P w2 = .ok st.2 w3 ∧
          St ⟨z.w, z.K, w.heap.size :: z.ds⟩ (w.heap.size :: O0) w3 (bsF s) ∧ Step (ks (bsF s0) O0) w (ks (bsF s) (w.heap.size :: O0)) w3 ∧ fct s w3 (ks (bsF s) (w.heap.size :: O0)) := by
        intro st s hb h
        rw [hJ0] at h
        obtain ⟨h1, h2, h3, h4⟩ := h
        have hrun := run_endLoop (P := P) h4 (by rw [hrec]; exact hb)
        have hlo : Loc [w.heap.size + 1] w2 (w2.putObj (w.heap.size + 1) (.loop { rec st.1 st.2 with state := .exhausted })) := ⟨rfl, rfl, rfl, by simp, fun k hk hn => World.putObj_heap_other (by simpa using hn), Nat.le_refl _⟩
        have h5 := h3.st.loc hlo (by
          rintro k hk
          simp at hk; subst hk
          exact ⟨(h3.st.dj _ (by simp [hF])).2, .inr (by rw [hzD]; simp only; omega), fun hm => by
            rw [hzD] at hm
            rcases List.mem_cons.1 hm with e | hm
            · omega
            · have := hs.lt0 _ (hs.dfs _ hm).1; omega⟩)
        have h6 : St ⟨z.w, z.K, w.heap.size :: z.ds⟩ (w.heap.size :: O0) (w2.putObj (w.heap.size + 1) (.loop { rec st.1 st.2 with state := .exhausted })) (bsF s) := by
          rw [← hzD]
          refine h5.others (fun k hk => h5.dj k ?_) fun D hD => ?_
          · rcases List.mem_cons.1 hk with e | hk
            · subst e; simp [hF]
            · simp [hk]
          · have := hzds D hD
            rw [hF] at this
            simp only [List.cons_append, List.nil_append, List.mem_cons] at this
            rcases this with e | e | e
            · exfalso
              rw [hzD] at hD
              rcases List.mem_cons.1 hD with e' | hD
              · omega
              · have := hs.lt0 _ (hs.dfs _ hD).1; omega
            · subst e; simp
            · simp [e]
        have h7 : Step (ks (bsF s) ([] ++ F ++ O0)) w2 (ks (bsF s) (w.heap.size :: O0)) (w2.putObj (w.heap.size + 1) (.loop { rec st.1 st.2 with state := .exhausted })) := Step.of_loc hlo (by
          rintro k hk
          simp at hk; subst hk
          exact mem_ks.2 (.inr (by simp [hF]))) fun k hk => .inl (by
          rcases mem_ks.1 hk with hk | hk
          · exact mem_ks.2 (.inl hk)
          · refine mem_ks.2 (.inr ?_)
            rcases List.mem_cons.1 hk with e | hk
            · subst e; simp [hF]
            · simp [hk])
        refine ⟨_, ?_, h6, h3.ch.trans h7, hfs _ _ _ _ _ h7 h3.fc⟩
        rw [hrun, hrec]
      have hav : ∀ D, IsAct n (⟨ρ.f, D :: ρ.ds⟩ : Env) { a with defers := [dcol D] ++ a.defers } := fun D => ⟨ha.size, by simp [ha.defers], ha.get⟩
      rcases h with ⟨s, rest, h1, h2, h3⟩ | ⟨pre, s, e, h1, h2, h3⟩
      · have hr : rest = [] := by simpa using h1
        subst hr
        obtain ⟨w3, h4, h5, h6, h7⟩ := fin (by simp) h2
        exact ⟨none, w3, h4, (fun _ h => by cases h), _, hav _, done _ s w3 h5 h6 h7 h3⟩
      · obtain ⟨w3, h4, h5, h6, h7⟩ := fin (by simp) h2
        refine ⟨some (codeOf e), w3, h4, ?_⟩
        have h8 := stop e _ s w3 h1 h5 h6 h7 h3
        cases e with
        | none => exact wpIn_ret ⟨(fun _ h => by cases h), _, hav _, h8⟩
        | some id => exact wpIn_exit ⟨(fun _ h => by cases h), _, hav _, h8⟩
    · -- one round
      rintro pre x w' O K vs ⟨tail, hpre⟩ ⟨s, rest, h1, h2, h3⟩ hK hO hen
      rw [hJ0] at h2
      obtain ⟨g1, g2, g3, g4⟩ := h2
      have hrest : rest = x :: tail := by
        rw [← hpre] at h1
        simpa using h1.symm
      subst hrest
      subst g1
      have hy := run_yield (P := P) (args := vs.toArray) g4 (by rw [hrec]; simpa using hlen hen)
      rw [hrec] at hy
      refine ⟨fn, _, assign, body, hy, roundIn_of_wpIn hfn ?_⟩
      have hen' : enc x w' (ks (bsF s) (K ++ F ++ O0)) vs := henc (Step.sub fun k hk => by
        rcases mem_ks.1 hk with hk | hk
        · exact List.mem_append_right _ (mem_ks.2 (.inl hk))
        · rw [List.append_assoc] at hk
          rcases List.mem_append.1 hk with hk | hk
          · exact List.mem_append_left _ hk
          · exact List.mem_append_right _ (mem_ks.2 (.inr hk))) hen
      have hza := g3.st.re
      have hrd := round (w.heap.size + 1) (K ++ F) s x tail w' vs _ rfl hza g3.ch g3.fc h3 hen'
      have hact := isAct_round ps vs (isAct_f ha) hps
      unfold Wp at hrd
      have hzip : (ps.toArray.zip vs.toArray).foldl (fun t (p : Nat × Value) => t.setIfInBounds p.1 p.2) a.tmps = (ps.zip vs).foldl (fun t (p, v) => t.setIfInBounds p v) a.tmps := by
        rw [← Array.foldl_toList, Array.toList_zip]
      rw [hzip]
      have hlF : w.heap.size + 1 ∈ K ++ F ++ O0 := by simp [hF]
      refine wpIn_mono (hrd _ hact) ?_
      rintro e a2 w2 ⟨hp, ρ2, ha2, hq⟩
      cases e <;> try exact hq.elim
      obtain ⟨bs2, hs2, hq⟩ := hq
      -- the record is as it was
      have hl2 : w2.heap[w.heap.size + 1]? = some (.loop (rec .ready none)) := by
        rw [hs2.below.block _ (by have := g3.st.lt0 _ hlF; exact this) (g3.st.dj _ hlF).2]; exact g4
      have hbr := run_beginRound (P := P) hl2 (by rw [hrec])
      refine ⟨_, hbr, ?_⟩
      have hlo2 : Loc [w.heap.size + 1] w2 (w2.putObj (w.heap.size + 1) (.loop { rec .ready none with state := .busy })) := ⟨rfl, rfl, rfl, by simp, fun k hk hn => World.putObj_heap_other (by simpa using hn), Nat.le_refl _⟩
      have hs2' := hs2.re
      have hs3 : St ⟨w2.putObj (w.heap.size + 1) (.loop { rec .ready none with state := .busy }), bs2.filterMap Prod.fst, []⟩ (K ++ F ++ O0) (w2.putObj (w.heap.size + 1) (.loop { rec .ready none with state := .busy })) bs2 := by
        refine ⟨Loc.refl _ _, fun p hp b hb => ⟨.inl (mem_keys.2 ⟨p, hp, hb⟩), ?_⟩, hs2.nd, fun k hk => ⟨by simpa using (hs2.dj k hk).1, (hs2.dj k hk).2⟩, List.nodup_nil, fun _ h => by cases h⟩
        rw [hlo2.block b (hs2.lt hp hb) (by simp; rintro rfl; exact (hs2.dj _ hlF).2 (mem_keys.2 ⟨p, hp, hb⟩))]
        exact (hs2.own p hp b hb).2
      have hst3 : Step (ks bs2 (K ++ F ++ O0)) w2 (ks bs2 (K ++ F ++ O0)) (w2.putObj (w.heap.size + 1) (.loop { rec .ready none with state := .busy })) :=
        Step.of_loc hlo2 (by rintro k hk; simp at hk; subst hk; exact mem_ks.2 (.inr hlF)) fun k hk => .inl hk
      obtain ⟨w3, hw3⟩ : ∃ w3, w3 = w2.putObj (w.heap.size + 1) (.loop { rec .ready none with state := .busy }) := ⟨_, rfl⟩
      rw [← hw3] at hs3 hst3 hlo2 ⊢
      have hl3 : w3.heap[w.heap.size + 1]? = some (.loop { rec .ready none with state := .busy }) := by
        rw [hw3]; exact World.putObj_heap_same (hs2.lt0 _ hlF)
      -- what the round's end makes of it
      have ends : ∀ (jump : Option Code) (s' : σ) (w4 : World), St ⟨w3, bs2.filterMap Prod.fst, []⟩ (K ++ F ++ O0) w4 (bsF s') → Step (ks (bsF s0) O0) w (ks (bsF s') (K ++ F ++ O0)) w4 → fct s' w4 (ks (bsF s') (K ++ F ++ O0)) →
          ∃ w5, (Instr.endRound (w.heap.size + 1) jump).run P w4 = .ok (.bool jump.isNone) w5 ∧ Loc (ks (bsF s) (F ++ O0)) w' w5 ∧ Grow (ks (bsF s) (F ++ O0)) (ks (bsF s') (F ++ O0)) w' w5 ∧
            J0 (if jump.isNone then .ready else .done, jump) (ks (bsF s') (F ++ O0)) K w5 s' := by
        intro jump s' w4 e1 e2 e3
        have hl4 : w4.heap[w.heap.size + 1]? = some (.loop { rec .ready none with state := .busy }) := by
          rw [e1.below.block _ (by have := hs3.lt0 _ hlF; exact this) (hs3.dj _ hlF).2]; exact hl3
        have hrun := run_endRound (P := P) jump hl4
        obtain ⟨w5, hw5⟩ : ∃ w5, w5 = w4.putObj (w.heap.size + 1) (.loop (rec (if jump.isNone then .ready else .done) jump)) := ⟨_, rfl⟩
        have hlo5 : Loc [w.heap.size + 1] w4 w5 := by rw [hw5]; exact ⟨rfl, rfl, rfl, by simp, fun k hk hn => World.putObj_heap_other (by simpa using hn), Nat.le_refl _⟩
        -- from w' to w5
        have hk2 : ∀ k ∈ bs2.filterMap Prod.fst, k ∈ (bsF s).filterMap Prod.fst ∨ w'.heap.size ≤ k := fun k hk => by
          obtain ⟨p, hp, e⟩ := mem_keys.1 hk
          exact (hs2.own p hp k e).1
        have L1 : Loc (ks (bsF s) (F ++ O0)) w' w2 := hs2.below.sub fun k hk => .inl (mem_ks.2 (.inl hk))
        have L2 : Loc (ks (bsF s) (F ++ O0)) w' w3 := L1.trans' hlo2 fun k hk => .inl (by simp at hk; subst hk; exact mem_ks.2 (.inr (by simp [hF])))
        have L3 : Loc (ks (bsF s) (F ++ O0)) w' w4 := L2.trans' e1.below fun k hk => (hk2 k hk).imp (fun h => mem_ks.2 (.inl h)) id
        have L4 : Loc (ks (bsF s) (F ++ O0)) w' w5 := L3.trans' hlo5 fun k hk => .inl (by simp at hk; subst hk; exact mem_ks.2 (.inr (by simp [hF])))
        have hsz2 : w'.heap.size ≤ w2.heap.size := hs2.below.size
        have hsz3 : w3.heap.size = w2.heap.size := by rw [hw3]; simp
        have keys' : ∀ k ∈ (bsF s').filterMap Prod.fst, k ∈ (bsF s).filterMap Prod.fst ∨ w'.heap.size ≤ k := fun k hk => by
          obtain ⟨p, hp, e⟩ := mem_keys.1 hk
          rcases (e1.own p hp k e).1 with h | h
          · exact hk2 k h
          · exact .inr (by simp only at h; omega)
        have hG : Grow (ks (bsF s) (F ++ O0)) (ks (bsF s') (F ++ O0)) w' w5 := ⟨fun k hk => by
            rcases mem_ks.1 hk with hk | hk
            · exact (keys' k hk).imp (fun h => mem_ks.2 (.inl h)) id
            · exact .inl (mem_ks.2 (.inr hk)), fun k hk => by
            have : k < w4.heap.size := e1.ltw k (by
              rcases mem_ks.1 hk with hk | hk
              · exact mem_ks.2 (.inl hk)
              · exact mem_ks.2 (.inr (by rw [List.append_assoc]; exact List.mem_append_right _ hk)))
            have := hlo5.size; omega⟩
        have hzk : ∀ k ∈ (bsF s).filterMap Prod.fst, k ∈ zD.K ∨ zD.w.heap.size ≤ k := fun k hk => by
          obtain ⟨p, hp, e⟩ := mem_keys.1 hk
          exact (g3.st.own p hp k e).1
        have hzs : zD.w.heap.size ≤ w.heap.size := by rw [hzD]; exact hzw
        have hzw' : zD.w.heap.size ≤ w'.heap.size := g3.st.below.size
        have hlds : w.heap.size + 1 ∉ zD.ds := fun hm => by
          rw [hzD] at hm
          rcases List.mem_cons.1 hm with e | hm
          · omega
          · have := hs.lt0 _ (hs.dfs _ hm).1; omega
        have B3 : Loc zD.K zD.w w3 := (g3.st.below.trans' hs2.below hzk).trans' hlo2 fun k hk => by simp at hk; subst hk; exact .inr (by omega)
        have S4 : St zD (K ++ F ++ O0) w4 (bsF s') := e1.back B3 (fun k hk => by
          rcases hk2 k hk with h | h
          · exact hzk k h
          · exact .inr (by omega)) g3.st.dsn fun D hD => by
          obtain ⟨d1, d2, d3⟩ := g3.st.dfs D hD
          refine ⟨d1, d2, ?_⟩
          have hlt := g3.st.lt0 D d1
          rw [e1.below.block D (by rw [hsz3]; omega) (hs2.dj D d1).2, hlo2.block D (by omega) (by simp; rintro rfl; exact hlds hD), hs2.below.block D hlt (g3.st.dj D d1).2]
          exact d3
        have S5 : St zD (K ++ F ++ O0) w5 (bsF s') := S4.loc hlo5 (by
          rintro k hk; simp at hk; subst hk
          exact ⟨(e1.dj _ hlF).2, .inr (by omega), hlds⟩)
        have P5 : Step (ks (bsF s') (K ++ F ++ O0)) w4 (ks (bsF s') (K ++ F ++ O0)) w5 := Step.of_loc hlo5 (by rintro k hk; simp at hk; subst hk; exact mem_ks.2 (.inr hlF)) fun k hk => .inl hk
        refine ⟨w5, ?_, L4, hG, ?_⟩
        · rw [hrun, hw5, hrec]
        · rw [hJ0]
          refine ⟨rfl, g2, ⟨S5, e2.trans P5, hfs _ _ _ _ _ P5 e3⟩, ?_⟩
          rw [hw5]; exact World.putObj_heap_same (by have := e1.lt0 _ hlF; exact this)
      have hbody := hq w3 _ (fun e _ w4 => match e with
          | .normal => ∃ s', St ⟨w3, bs2.filterMap Prod.fst, []⟩ (K ++ F ++ O0) w4 (bsF s') ∧ Step (ks (bsF s0) O0) w (ks (bsF s') (K ++ F ++ O0)) w4 ∧ fct s' w4 (ks (bsF s') (K ++ F ++ O0)) ∧ tl s' tail
          | e => ∃ e', e = exitOf e' ∧ e' ∈ xs ∧ ∃ s', St ⟨w3, bs2.filterMap Prod.fst, []⟩ (K ++ F ++ O0) w4 (bsF s') ∧ Step (ks (bsF s0) O0) w (ks (bsF s') (K ++ F ++ O0)) w4 ∧ fct s' w4 (ks (bsF s') (K ++ F ++ O0)) ∧ tx e' s') rfl hs3 hst3
          (fun s' _ w4 e1 e2 e3 e4 => ⟨s', e1, e2, e3, e4⟩) (fun e s' _ w4 he e1 e2 e3 e4 => by
            cases e with
            | none => exact ⟨none, rfl, he, s', e1, e2, e3, e4⟩
            | some id => exact ⟨some id, rfl, he, s', e1, e2, e3, e4⟩)
      unfold Wp at hbody
      refine wpIn_mono (hbody a2 ha2) ?_
      rintro e a4 w4 ⟨hp4, ρ4, ha4, hq4⟩
      cases e with
      | normal =>
        obtain ⟨s', e1, e2, e3, e4⟩ := hq4
        obtain ⟨w5, r1, r2, r3, r4⟩ := ends none s' w4 e1 e2 e3
        exact ⟨_, w5, r1, _, r2, r3, .inl ⟨rfl, s', tail, by rw [List.append_assoc]; exact h1, r4, e4⟩⟩
      | ret =>
        obtain ⟨e', hee, he, s', e1, e2, e3, e4⟩ := hq4
        cases e' with
        | some id => cases hee
        | none =>
          obtain ⟨w5, r1, r2, r3, r4⟩ := ends (some .ret) s' w4 e1 e2 e3
          exact ⟨_, w5, r1, _, r2, r3, .inr ⟨rfl, s', none, he, r4, e4⟩⟩
      | exit id =>
        obtain ⟨e', hee, he, s', e1, e2, e3, e4⟩ := hq4
        cases e' with
        | none => cases hee
        | some id' =>
          cases hee
          obtain ⟨w5, r1, r2, r3, r4⟩ := ends (some (.exit id)) s' w4 e1 e2 e3
          exact ⟨_, w5, r1, _, r2, r3, .inr ⟨rfl, s', some id, he, r4, e4⟩⟩
      | goto t => obtain ⟨e', hee, _⟩ := hq4; cases e' <;> cases hee
      | panic c => exact absurd rfl (hp4 c)
      | outgrown => obtain ⟨e', hee, _⟩ := hq4; cases e' <;> cases hee
end rule
/-! models: a list gone through -/
section model
universe u
variable {R : Type} {A : Type u} {x : R} {a : A} {L : List A}
def rng0 (b : (Option R) → A → Option R) (k : (Option R)) : List A → Option R
  | [] => k
  | x :: L => b (rng0 b k L) x
def rng1 {A0 : Type} (b : (A0 → Option R) → A → A0 → Option R) (k : (A0 → Option R)) : List A → A0 → Option R
  | [] => k
  | x :: L => b (rng1 b k L) x
theorem rng1_nil {A0 : Type} {b : (A0 → Option R) → A → A0 → Option R} {k : (A0 → Option R)} {a0 : A0} : rng1 b k [] a0 = k a0 := rfl
theorem rng1_cons {A0 : Type} {b : (A0 → Option R) → A → A0 → Option R} {k : (A0 → Option R)} {a0 : A0} : rng1 b k (a :: L) a0 = b (rng1 b k L) a a0 := rfl
theorem rng1_z {A0 : Type} {b : (A0 → Option R) → A → A0 → Option R} {k : (A0 → Option R)} {a0 : A0} (h : rng1 b k [] a0 = some x) : k a0 = some x := rng1_nil.symm.trans h
theorem rng1_s {A0 : Type} {b : (A0 → Option R) → A → A0 → Option R} {k : (A0 → Option R)} {a0 : A0} (h : rng1 b k (a :: L) a0 = some x) : ∃ sf, sf = rng1 b k L ∧ b sf a a0 = some x := ⟨_, rfl, rng1_cons.symm.trans h⟩
def rng2 {A0 A1 : Type} (b : (A0 → A1 → Option R) → A → A0 → A1 → Option R) (k : (A0 → A1 → Option R)) : List A → A0 → A1 → Option R
  | [] => k
  | x :: L => b (rng2 b k L) x
def rng3 {A0 A1 A2 : Type} (b : (A0 → A1 → A2 → Option R) → A → A0 → A1 → A2 → Option R) (k : (A0 → A1 → A2 → Option R)) : List A → A0 → A1 → A2 → Option R
  | [] => k
  | x :: L => b (rng3 b k L) x
def rng4 {A0 A1 A2 A3 : Type} (b : (A0 → A1 → A2 → A3 → Option R) → A → A0 → A1 → A2 → A3 → Option R) (k : (A0 → A1 → A2 → A3 → Option R)) : List A → A0 → A1 → A2 → A3 → Option R
  | [] => k
  | x :: L => b (rng4 b k L) x
def rng5 {A0 A1 A2 A3 A4 : Type} (b : (A0 → A1 → A2 → A3 → A4 → Option R) → A → A0 → A1 → A2 → A3 → A4 → Option R) (k : (A0 → A1 → A2 → A3 → A4 → Option R)) : List A → A0 → A1 → A2 → A3 → A4 → Option R
  | [] => k
  | x :: L => b (rng5 b k L) x
def rng6 {A0 A1 A2 A3 A4 A5 : Type} (b : (A0 → A1 → A2 → A3 → A4 → A5 → Option R) → A → A0 → A1 → A2 → A3 → A4 → A5 → Option R) (k : (A0 → A1 → A2 → A3 → A4 → A5 → Option R)) : List A → A0 → A1 → A2 → A3 → A4 → A5 → Option R
  | [] => k
  | x :: L => b (rng6 b k L) x
def rng7 {A0 A1 A2 A3 A4 A5 A6 : Type} (b : (A0 → A1 → A2 → A3 → A4 → A5 → A6 → Option R) → A → A0 → A1 → A2 → A3 → A4 → A5 → A6 → Option R) (k : (A0 → A1 → A2 → A3 → A4 → A5 → A6 → Option R)) : List A → A0 → A1 → A2 → A3 → A4 → A5 → A6 → Option R
  | [] => k
  | x :: L => b (rng7 b k L) x
def rng8 {A0 A1 A2 A3 A4 A5 A6 A7 : Type} (b : (A0 → A1 → A2 → A3 → A4 → A5 → A6 → A7 → Option R) → A → A0 → A1 → A2 → A3 → A4 → A5 → A6 → A7 → Option R) (k : (A0 → A1 → A2 → A3 → A4 → A5 → A6 → A7 → Option R)) : List A → A0 → A1 → A2 → A3 → A4 → A5 → A6 → A7 → Option R
  | [] => k
  | x :: L => b (rng8 b k L) x
attribute [irreducible] rng0 rng1 rng2 rng3 rng4 rng5 rng6 rng7 rng8
/-- what is handed out, and what comes behind -/
def yl {α : Type} (x : α) (m : Option (List α)) : Option (List α) := m.map (x :: ·)
theorem yl_elim {α : Type} {x : α} {m : Option (List α)} {L : List α} (h : yl x m = some L) : ∃ L', m = some L' ∧ L = x :: L' := by
  cases m with
  | none => cases h
  | some L' => exact ⟨L', rfl, (Option.some.inj h).symm⟩
end model

/-! the iterator's own walk -/
/-- an iterator as a value -/
def vIt {α : Type} (P : Program) (enc : α → World → List Nat → List Value → Prop) : Vr (List α) :=
  ⟨fun w O v L => ∃ f caps, v = .func (.func f) #[] (List.toArray caps) ∧ (∀ (args : Array Value) (w : World), (callFunc f args).run P w = .ok (.enter f args) w) ∧ IterF P w O f caps enc L,
   fun s ⟨f, caps, h1, h2, h3⟩ => ⟨f, caps, h1, h2, h3.step s⟩⟩
/-- the same, to be carried along -/
def ItR {α : Type} (P : Program) (enc : α → World → List Nat → List Value → Prop) (w : World) (O : List Nat) (v : Value) (L : List α) : Prop := (vIt P enc).vd w O v L
theorem ItR.step {α : Type} {P : Program} {enc : α → World → List Nat → List Value → Prop} {w w' : World} {O O' : List Nat} {v : Value} {L : List α} (h : ItR P enc w O v L) (s : Step O w O' w') : ItR P enc w' O' v L := (vIt P enc).step s h
section iter
variable {P : Program} {ρ : Env} {w : World} {z : Zx} {O : List Nat} {bs : Ents} {α : Type} {J Jx : JP α} {L pre : List α} {a : α} {l : Nat} {enc : α → World → List Nat → List Value → Prop}
structure Itr (J : JP α) (pre : List α) (z : Zx) (O : List Nat) : Prop where
  j : J pre z.w O z.K
  dj : ∀ k ∈ z.K, k ∉ O
theorem Itr.now (h : Itr J pre z O) (hJ : Abides J) (hs : St z O w bs) : J pre w O (bs.filterMap Prod.fst) :=
  hJ.loc h.j h.dj hs.below ⟨fun k hk => by obtain ⟨p, hp, e⟩ := mem_keys.1 hk; exact (hs.own p hp k e).1, fun k hk => by obtain ⟨p, hp, e⟩ := mem_keys.1 hk; exact hs.lt hp e⟩
theorem Itr.fin (h : Itr J pre z O) (hJ : Abides J) (hs : St z O w bs) : J pre w O [] :=
  hJ.loc (h.now hJ hs) (fun k hk hm => (hs.dj k hm).2 hk) (Loc.refl _ _) ⟨(fun _ h => by cases h), fun _ h => by cases h⟩
theorem Itr.start {w : World} (h : J [] w O []) : Itr J [] ⟨w, [], []⟩ O := ⟨h, fun _ h => by cases h⟩
theorem op_yield {d : Option Nat} {ty : TypeId} {pos : String} {aft : Array Edge} {g : Option (Nat × Bool)} {V : Value → World → Prop} {x : Operand} {args : List Operand} {us : Array TypeId} {vs : List Value}
    (hx : ev ρ x = .func (.yield l) #[] #[]) (ha : args.map (ev ρ) = vs) (hY : YieldsTo P enc L l J Jx) (hJ : Abides J) (hI : Itr J pre z O) (hs : St z O w bs) (hL : pre ++ [a] <+: L) (hen : enc a w (ks bs O) vs)
    (kt : ∀ w' O', St ⟨w', bs.filterMap Prod.fst, []⟩ O' w' bs → Step (ks bs O) w (ks bs O') w' → Itr J (pre ++ [a]) ⟨w', bs.filterMap Prod.fst, []⟩ O' → V (.bool true) w')
    (kf : ∀ w' O', St ⟨w', bs.filterMap Prod.fst, []⟩ O' w' bs → Itr Jx (pre ++ [a]) ⟨w', bs.filterMap Prod.fst, []⟩ O' → V (.bool false) w') :
    Run1 P none ρ w ⟨d, .call ⟨.value x, args.toArray, us⟩, ty, pos, aft, g⟩ V := by
  obtain ⟨fn, tmps, assign, body, hy, hR⟩ := hY pre a w O (bs.filterMap Prod.fst) vs hL (hI.now hJ hs) (fun k hk => ⟨hs.ltw k (mem_ks.2 (.inl hk)), fun hm => (hs.dj k hm).2 hk⟩) hs.lt0 hen
  unfold Run1
  rw [Oper.semAt_eq _ _ _ (by simp)]
  have hrun : (execOp (ev ρ) ⟨d, .call ⟨.value x, args.toArray, us⟩, ty, pos, aft, g⟩).run P w = .ok (.round l fn tmps assign body) w := by
    simp only [execOp, resolve, hx]
    subst ha
    simpa [go_sem, invoke] using hy
  rw [hrun]
  simp only
  refine RoundIn.mono hR ?_
  rintro e w' ⟨O', hl, hg, h⟩
  have hS : St ⟨w', bs.filterMap Prod.fst, []⟩ O' w' bs := by
    refine ⟨Loc.refl _ _, fun p hp b hb => ⟨.inl (mem_keys.2 ⟨p, hp, hb⟩), ?_⟩, hs.nd, fun k hk => ⟨hg.lt k hk, fun hm => ?_⟩, List.nodup_nil, fun _ h => by cases h⟩
    · rw [hl.block b (hs.lt hp hb) fun hm => (hs.dj b hm).2 (mem_keys.2 ⟨p, hp, hb⟩)]; exact (hs.own p hp b hb).2
    · rcases hg.new k hk with h1 | h1
      · exact (hs.dj k h1).2 hm
      · obtain ⟨p, hp, e⟩ := mem_keys.1 hm
        have := hs.lt hp e; omega
  have hP : Step (ks bs O) w (ks bs O') w' := Step.of_loc hl (fun k hk => mem_ks.2 (.inr hk)) fun k hk => by
    rcases mem_ks.1 hk with hk | hk
    · exact .inl (mem_ks.2 (.inl hk))
    · exact (hg.new k hk).imp (fun h => mem_ks.2 (.inr h)) id
  have hdj : ∀ k ∈ bs.filterMap Prod.fst, k ∉ O' := fun k hk hm => (hS.dj k hm).2 hk
  rcases h with ⟨rfl, h⟩ | ⟨rfl, h⟩
  · exact ⟨_, rfl, kt w' O' hS hP ⟨h, hdj⟩⟩
  · exact ⟨_, rfl, kf w' O' hS ⟨h, hdj⟩⟩
end iter
end Go.Fx



/- From what an argument reads as in a row to what it reads as here. No program in sight. -/
set_option linter.unusedSimpArgs false
set_option linter.unusedVariables false
namespace Go.Fx
open Go Go.RowKit Go.ChangeShapes

section
variable {H : Type} {enc : TypeId × Value → H} {P : Program} {w : World} {base : Nat} {spare : Nat → Bool} {held : Bool}
/-- no slice longer than memory -/
def SmL {α : Type} (Sm : α → Prop) (xs : List α) : Prop := xs.length ≤ 140737488351232 ∧ ∀ x ∈ xs, Sm x
def SmT {α : Type} (_ : α) : Prop := True
/-- whatever is read as a datum of type t stands in cells as one of α -/
def Rd {α : Type} (enc : TypeId × Value → H) (P : Program) (w : World) (base : Nat) (spare : Nat → Bool) (held : Bool) (t : TypeId) (q : Rp α) (Sm : α → Prop) : Prop :=
  P.cellsOf t = q.n ∧ ∀ (fuel : Nat) (cs : List Value) (y : DataW H × List MemPlace), DataW.trod enc P w base spare held fuel t cs = some y → ∃ x, q.rd w [] cs x ∧ ((∀ n ∈ y.1.weights P t, n ≤ reachBytes) → Sm x)

theorem wf_inK {k : IntKind} {n : Int} (h : (Lit.int k n).wf = true) : k.min ≤ n ∧ n ≤ k.max := by
  simpa [Lit.wf, IntKind.has] using h
theorem Rd_u8 {t : TypeId} (ht : P.underlying t = some (.int .u8)) (hc : P.cellsOf t = 1) : Rd enc P w base spare held t rU8 SmT := by
  refine ⟨hc, fun fuel cs y h => ?_⟩
  obtain ⟨n, rfl, _, hw⟩ := DataW.trod_int ht h
  exact ⟨UInt8.ofNat n.toNat, mk_u8 (wf_inK hw), fun _ => trivial⟩
theorem Rd_bool {t : TypeId} (ht : P.underlying t = some .bool) (hc : P.cellsOf t = 1) : Rd enc P w base spare held t rBool SmT := by
  refine ⟨hc, fun fuel cs y h => ?_⟩
  obtain ⟨b, rfl, _⟩ := DataW.trod_bool ht h
  exact ⟨b, rfl, fun _ => trivial⟩
theorem ptR_of_cells {α : Type} {q : Rp α} {a : Addr} {cs : List Value} {x : α} (hn : 0 < q.n) (hc : w.cells? base a q.n = some cs) (hr : q.rd w [] cs x) : PtR q w [] a x := by
  obtain ⟨_, hl, hg⟩ := World.cells?_some hc
  have h0 := hg 0 hn
  have hs0 : (cs[0]?).isSome := by simp; omega
  obtain ⟨v0, hv0⟩ := Option.isSome_iff_exists.1 hs0
  rw [hv0] at h0
  have hsp : a.spot = none := by have := World.cell?_spot h0; rwa [Addr.add_zero'] at this
  obtain ⟨b, off, sp⟩ := a
  simp only at hsp; subst hsp
  have hblk : ∃ c T fz, w.heap[b]? = some (.cells c T fz) := by
    simp only [Addr.add_lit, World.cell?, Option.isSome_none, Bool.false_eq_true, if_false] at h0
    cases hb : w.heap[b]? with
    | none => rw [hb] at h0; simp at h0
    | some o => cases o <;> simp [hb] at h0; exact ⟨_, _, _, rfl⟩
  obtain ⟨c, T, fz, hb⟩ := hblk
  have hget : ∀ i, i < q.n → c[off + i]? = cs[i]? := fun i hi => by
    have := hg i hi
    rw [Addr.add_lit, cell_at hb] at this
    exact this
  have hsz : off + q.n ≤ c.size := by
    have := hget (q.n - 1) (by omega)
    rw [List.getElem?_eq_getElem (by omega)] at this
    have := (Array.getElem?_eq_some_iff.1 this).1
    omega
  refine ⟨rfl, ⟨(Array.getElem?_eq_some_iff.1 hb).1, by simp⟩, c, T, fz, hb, hsz, ?_⟩
  have e : (c.toList.drop off).take q.n = cs := by
    apply List.ext_getElem?
    intro i
    rw [List.getElem?_take, List.getElem?_drop]
    split
    · rename_i hi; rw [← hget i hi]; simp
    · rw [List.getElem?_eq_none (by omega)]
  simp only [e]; exact hr
theorem weightsAll_mem {e : TypeId} : ∀ {l : List (DataW H)} {d : DataW H}, d ∈ l → ∀ n ∈ d.weights P e, n ∈ DataW.weightsAll P e l
  | [], _, h, _, _ => by cases h
  | x :: l, d, h, n, hn => by
    rw [DataW.weightsAll]
    rcases List.mem_cons.1 h with e | h
    · subst e; exact List.mem_append_left _ hn
    · exact List.mem_append_right _ (weightsAll_mem h n hn)
theorem Rd_slice {α : Type} {q : Rp α} {Sm : α → Prop} {t e : TypeId} (ht : P.underlying t = some (.slice e)) (hc : P.cellsOf t = 1) (hn : 0 < q.n) (hby : 1 ≤ P.bytesOf e) (R : Rd enc P w base spare held e q Sm) : Rd enc P w base spare held t (rSl q) (SmL Sm) := by
  refine ⟨hc, fun fuel cs y h => ?_⟩
  rcases DataW.trod_slice ht h with ⟨rfl, _⟩ | ⟨a, len, cap, elems, rest, n, _, rfl, hy, hb, hl, hm, hlen, hel, _, _⟩
  · exact ⟨[], ⟨none, 0, rfl, SlR.nil_⟩, fun _ => ⟨by simp, by simp⟩⟩
  · have hex : ∀ i (hi : i < elems.length), ∃ x, PtR q w [] (a.add (i * q.n)) x ∧ ((∀ n ∈ elems[i].1.weights P e, n ≤ reachBytes) → Sm x) := fun i hi => by
      have h1 := hel i (by omega)
      rw [List.getElem?_eq_getElem hi, Option.bind_eq_some_iff] at h1
      obtain ⟨cs, h2, h3⟩ := h1
      obtain ⟨x, hx, hs⟩ := R.2 _ _ _ h3
      rw [R.1] at h2
      exact ⟨x, ptR_of_cells hn h2 hx, hs⟩
    have key : ∀ k, k ≤ elems.length → ∃ xs : List α, xs.length = k ∧ ∀ i (h : i < xs.length) (hi : i < elems.length), PtR q w [] (a.add (i * q.n)) xs[i] ∧ ((∀ n ∈ elems[i].1.weights P e, n ≤ reachBytes) → Sm xs[i]) := by
      intro k
      induction k with
      | zero => exact fun _ => ⟨[], rfl, by simp⟩
      | succ k ih =>
        intro hk
        obtain ⟨xs, h1, h2⟩ := ih (by omega)
        obtain ⟨x, hx⟩ := hex k (by omega)
        refine ⟨xs ++ [x], by simp [h1], fun i hi hi2 => ?_⟩
        by_cases hik : i < xs.length
        · rw [List.getElem_append_left hik]; exact h2 i hik hi2
        · have : i = k := by simp at hi; omega
          subst this
          rw [List.getElem_append_right (by omega)]; simpa [h1] using hx
    obtain ⟨xs, h1, h2⟩ := key elems.length (Nat.le_refl _)
    refine ⟨xs, ⟨some a, cap, by rw [h1, hlen], ⟨by omega, hm, (fun h => by cases h), fun ad he i hi => by cases he; exact (h2 i hi (by omega)).1⟩⟩, fun hw => ?_⟩
    rw [hy] at hw
    simp only [DataW.weights, ht, List.mem_cons, List.mem_append] at hw
    refine ⟨?_, fun x hx => ?_⟩
    · have h3 := hw _ (.inl rfl)
      simp only [List.length_map, reachBytes] at h3
      have h4 : elems.length * 1 ≤ (elems.length + rest.length) * P.bytesOf e := Nat.mul_le_mul (by omega) hby
      rw [h1]; omega
    · obtain ⟨i, hi, rfl⟩ := List.mem_iff_getElem.1 hx
      refine (h2 i hi (by omega)).2 fun n hn' => hw n (.inr (.inl (weightsAll_mem (d := elems[i].1) (List.mem_map.2 ⟨elems[i], List.getElem_mem _, rfl⟩) n hn')))
/-- no slice longer than memory, counted in bytes -/
def SmLB {α : Type} (k : Nat) (Sm : α → Prop) (xs : List α) : Prop := xs.length * k ≤ 140737488351232 ∧ ∀ x ∈ xs, Sm x
theorem Rd_sliceB {α : Type} {q : Rp α} {Sm : α → Prop} {t e k : Nat} (ht : P.underlying t = some (.slice e)) (hc : P.cellsOf t = 1) (hn : 0 < q.n) (hby : k ≤ P.bytesOf e) (R : Rd enc P w base spare held e q Sm) : Rd enc P w base spare held t (rSl q) (SmLB k Sm) := by
  refine ⟨hc, fun fuel cs y h => ?_⟩
  rcases DataW.trod_slice ht h with ⟨rfl, _⟩ | ⟨a, len, cap, elems, rest, n, _, rfl, hy, hb, hl, hm, hlen, hel, _, _⟩
  · exact ⟨[], ⟨none, 0, rfl, SlR.nil_⟩, fun _ => ⟨by simp, by simp⟩⟩
  · have hex : ∀ i (hi : i < elems.length), ∃ x, PtR q w [] (a.add (i * q.n)) x ∧ ((∀ n ∈ elems[i].1.weights P e, n ≤ reachBytes) → Sm x) := fun i hi => by
      have h1 := hel i (by omega)
      rw [List.getElem?_eq_getElem hi, Option.bind_eq_some_iff] at h1
      obtain ⟨cs, h2, h3⟩ := h1
      obtain ⟨x, hx, hs⟩ := R.2 _ _ _ h3
      rw [R.1] at h2
      exact ⟨x, ptR_of_cells hn h2 hx, hs⟩
    have key : ∀ k, k ≤ elems.length → ∃ xs : List α, xs.length = k ∧ ∀ i (h : i < xs.length) (hi : i < elems.length), PtR q w [] (a.add (i * q.n)) xs[i] ∧ ((∀ n ∈ elems[i].1.weights P e, n ≤ reachBytes) → Sm xs[i]) := by
      intro k
      induction k with
      | zero => exact fun _ => ⟨[], rfl, by simp⟩
      | succ k ih =>
        intro hk
        obtain ⟨xs, h1, h2⟩ := ih (by omega)
        obtain ⟨x, hx⟩ := hex k (by omega)
        refine ⟨xs ++ [x], by simp [h1], fun i hi hi2 => ?_⟩
        by_cases hik : i < xs.length
        · rw [List.getElem_append_left hik]; exact h2 i hik hi2
        · have : i = k := by simp at hi; omega
          subst this
          rw [List.getElem_append_right (by omega)]; simpa [h1] using hx
    obtain ⟨xs, h1, h2⟩ := key elems.length (Nat.le_refl _)
    refine ⟨xs, ⟨some a, cap, by rw [h1, hlen], ⟨by omega, hm, (fun h => by cases h), fun ad he i hi => by cases he; exact (h2 i hi (by omega)).1⟩⟩, fun hw => ?_⟩
    rw [hy] at hw
    simp only [DataW.weights, ht, List.mem_cons, List.mem_append] at hw
    refine ⟨?_, fun x hx => ?_⟩
    · have h3 := hw _ (.inl rfl)
      simp only [List.length_map, reachBytes] at h3
      have h4 : elems.length * k ≤ (elems.length + rest.length) * P.bytesOf e := Nat.mul_le_mul (by omega) hby
      rw [h1]; omega
    · obtain ⟨i, hi, rfl⟩ := List.mem_iff_getElem.1 hx
      refine (h2 i hi (by omega)).2 fun n hn' => hw n (.inr (.inl (weightsAll_mem (d := elems[i].1) (List.mem_map.2 ⟨elems[i], List.getElem_mem _, rfl⟩) n hn')))
theorem fld {α : Type} {q : Rp α} {Sm : α → Prop} {fs : Array Field} {cs : List Value} {xs : List (DataW H × List MemPlace)} {n i : Nat} {f : Field} {t : TypeId} {y : DataW H × List MemPlace} (ht : P.underlying t = some (.struct fs))
    (h : ∀ (i : Nat) (f : Field), fs[i]? = some f → DataW.trod enc P w base spare held n f.type ((cs.drop f.offset).take (P.cellsOf f.type)) = xs[i]?) (hl : xs.length = fs.size) (hy : y = (.agg (xs.map (·.1)), xs.flatMap (·.2))) (hf : fs[i]? = some f)
    (R : Rd enc P w base spare held f.type q Sm) : ∃ x, q.rd w [] ((cs.drop f.offset).take q.n) x ∧ ((∀ n ∈ y.1.weights P t, n ≤ reachBytes) → Sm x) := by
  have h1 := h i f hf
  have hi : i < xs.length := by rw [hl]; exact (Array.getElem?_eq_some_iff.1 hf).1
  rw [List.getElem?_eq_getElem hi] at h1
  obtain ⟨x, hx, hs⟩ := R.2 _ _ _ h1
  rw [R.1] at hx
  refine ⟨x, hx, fun hw => hs fun n hn => hw n ?_⟩
  rw [hy]
  simp only [DataW.weights, ht]
  exact DataW.weights_mem_each (j := i) (t := f.type) (d := xs[i].1) (by simp [hf]) (by simp [hi]) n hn
theorem rd_pair {α β : Type} {r : Rp α} {s : Rp β} {O : List Nat} {cs : List Value} {o : Nat} {x : α} {y : β} (h1 : r.rd w O ((cs.drop o).take r.n) x) (h2 : s.rd w O ((cs.drop (o + r.n)).take s.n) y) :
    (rPair r s).rd w O ((cs.drop o).take (rPair r s).n) (x, y) := by
  refine ⟨_, _, ?_, h1, h2⟩
  show (cs.drop o).take (r.n + s.n) = _
  rw [List.take_add, List.drop_drop]
theorem rd_all {α : Type} {q : Rp α} {O : List Nat} {cs : List Value} {x : α} (h : q.rd w O ((cs.drop 0).take q.n) x) (hl : cs.length = q.n) : q.rd w O cs x := by
  rwa [List.drop_zero, List.take_of_length_le (by omega)] at h
end
end Go.Fx



/- Windows: a slice of an array of one's own is handed to a function that writes into it. No program in sight. -/
set_option linter.unusedSimpArgs false
set_option linter.unusedVariables false
namespace Go.Fx
open Go Go.RowKit
theorem cons2 {α : Type} {a b : α} {l m : List α} (h1 : a = b) (h2 : l = m) : a :: l = b :: m := by rw [h1, h2]
theorem Els.rep {α : Type} {p : Rp α} {w : World} {O : List Nat} {v : Value} {x : α} (h : p.rd w O [v] x) : ∀ n, Els p w O (List.replicate n v) (List.replicate n x)
  | 0 => rfl
  | n + 1 => ⟨[v], List.replicate n v, rfl, h, Els.rep h n⟩
theorem inK_lenW {α : Type} {q : Rp α} {e : TypeId} {w : World} {O : List Nat} {a : Option Addr} {c : Nat} {pre xs post : List α} {kk : Option Nat} {o : Obj} (h : Gs q e w O a c (pre ++ xs ++ post) kk o) : InK .i64 (xs.length : Int) := by
  have := h.le
  have : maxLen = 9223372036854775807 := rfl
  simp only [List.length_append] at *
  constructor <;> simp [IntKind.min, IntKind.max, IntKind.bits, IntKind.signed] <;> omega
section
variable {α : Type} {q : Rp α} {e : TypeId} {w w' : World} {O O0 : List Nat} {c bl i : Nat} {xs xs' : List α} {o : Obj} {bs : Ents} {z : Zx}
/-- what a function that writes into a window comes to -/
def OkW (P : Program) (f : FuncId) (args : List Value) (w : World) (O : List Nat) (bl : Nat) (q : Rp α) (e : TypeId) (c : Nat) (xs' : List α) : Prop :=
  Fn P f args w fun _ w' => Loc [bl] w w' ∧ ∃ o', w'.heap[bl]? = some o' ∧ Gs q e w' (bl :: O) (some ⟨bl, 0, none⟩) c xs' (some bl) o'
theorem ents_perm (hi : bs[i]? = some (some bl, o)) : (bl :: (bs.eraseIdx i).filterMap Prod.fst).Perm (bs.filterMap Prod.fst) := by
  obtain ⟨h, e1⟩ := List.getElem?_eq_some_iff.1 hi
  have e2 : bs = bs.take i ++ (some bl, o) :: bs.drop (i + 1) := by
    rw [← e1, ← List.drop_eq_getElem_cons h, List.take_append_drop]
  have e3 : bs.filterMap Prod.fst = (bs.take i).filterMap Prod.fst ++ bl :: (bs.drop (i + 1)).filterMap Prod.fst := by
    conv => lhs; rw [e2]
    rw [List.filterMap_append]; rfl
  rw [e3, List.eraseIdx_eq_take_drop_succ, List.filterMap_append]
  exact List.perm_middle.symm
theorem St.lendW (hs : St z O0 w bs) (hi : bs[i]? = some (some bl, o)) (hG : Gs q e w (ks bs O0) (some ⟨bl, 0, none⟩) c xs (some bl) o) :
    (∀ k ∈ ks (bs.eraseIdx i) O0, k < w.heap.size) ∧ bl ∉ ks (bs.eraseIdx i) O0 ∧ w.heap[bl]? = some o ∧ Gs q e w (bl :: ks (bs.eraseIdx i) O0) (some ⟨bl, 0, none⟩) c xs (some bl) o := by
  have hp := ents_perm hi
  have hnd := hp.nodup_iff.2 hs.nd
  refine ⟨(hs.drop i).ltw, fun hm => ?_, hs.get hi, hG.step ⟨Nat.le_refl _, fun k hk hn => ⟨fun hm => hn ?_, rfl⟩⟩⟩
  · rcases List.mem_append.1 hm with hm | hm
    · exact (List.nodup_cons.1 hnd).1 hm
    · exact (hs.dj bl hm).2 (mem_keys.2 ⟨_, List.mem_of_getElem? hi, rfl⟩)
  · rcases List.mem_cons.1 hm with rfl | hm
    · exact List.mem_append_left _ (mem_keys.2 ⟨_, List.mem_of_getElem? hi, rfl⟩)
    · rcases List.mem_append.1 hm with hm | hm
      · exact List.mem_append_left _ (hp.mem_iff.1 (List.mem_cons_of_mem _ hm))
      · exact List.mem_append_right _ hm
/-- within: the block is one's own for the time being -/
theorem St.startW {w0 : World} (h : ∀ k ∈ O, k < w0.heap.size) (hb : bl ∉ O) (ho : w0.heap[bl]? = some o) : St ⟨w0, [bl], []⟩ O w0 [(some bl, o)] := by
  refine ⟨Loc.refl _ _, fun p hp b hb' => ?_, by simp, fun k hk => ⟨h k hk, fun hm => ?_⟩, List.nodup_nil, fun _ h => by cases h⟩
  · rcases List.mem_cons.1 hp with rfl | hp
    · cases hb'; exact ⟨.inl (by simp), ho⟩
    · cases hp
  · simp at hm; subst hm; exact hb hk
theorem St.endW {w0 : World} {ds : List Nat} {o' : Obj} (hs : St ⟨w0, [bl], ds⟩ O w' [(some bl, o')]) : Loc [bl] w0 w' ∧ w'.heap[bl]? = some o' := ⟨hs.below, hs.get (i := 0) rfl⟩
theorem St.backW {o' : Obj} (hs : St z O0 w bs) (hi : bs[i]? = some (some bl, o)) (hl : Loc [bl] w w') (ho : w'.heap[bl]? = some o') (hG : Gs q e w' (bl :: ks (bs.eraseIdx i) O0) (some ⟨bl, 0, none⟩) c xs' (some bl) o') :
    Step (ks bs O0) w (ks (bs.set i (some bl, o')) O0) w' ∧ St z O0 w' (bs.set i (some bl, o')) ∧ Gs q e w' (ks (bs.set i (some bl, o')) O0) (some ⟨bl, 0, none⟩) c xs' (some bl) o' := by
  have hown := (hs.own _ (List.mem_of_getElem? hi) bl rfl).1
  have hb : ∀ j, j < w.heap.size → some bl ≠ some j → w'.heap[j]? = w.heap[j]? := fun j hj hne => hl.block j hj (by simp; exact fun e => hne (by rw [e]))
  have h1 : St z O0 w' (bs.set i (some bl, o')) := hs.put hi (hs.below.trans' hl fun k hk => by simp at hk; subst hk; exact hown) hl.size (fun b hb => by cases hb; exact ⟨.inl rfl, ho⟩) hb
  have hi' : (bs.set i (some bl, o'))[i]? = some (some bl, o') := by
    have := (List.getElem?_eq_some_iff.1 hi).1
    simp [this]
  have hp := ents_perm hi
  have hp' := ents_perm hi'
  have he : (bs.set i (some bl, o')).eraseIdx i = bs.eraseIdx i := by rw [List.eraseIdx_set_eq]
  rw [he] at hp'
  refine ⟨Step.put hi hl.size (fun b hb => by cases hb; exact .inl rfl) hb, h1, hG.step ⟨Nat.le_refl _, fun k hk hn => ⟨fun hm => hn ?_, rfl⟩⟩⟩
  rcases List.mem_append.1 hm with hm | hm
  · rcases List.mem_cons.1 (hp'.mem_iff.2 hm) with rfl | hm
    · exact List.mem_cons_self
    · exact List.mem_cons_of_mem _ (List.mem_append_left _ hm)
  · exact List.mem_cons_of_mem _ (List.mem_append_right _ hm)
end
/-- xs with ys in place of what stands from l to h -/
def setw {α : Type} (xs : List α) (l h : Nat) (ys : List α) : List α := xs.take l ++ ys ++ xs.drop h
theorem winval {α : Type} {xs : List α} {bl l h c : Nat} (h1 : l < h) (h2 : h ≤ xs.length) (h3 : xs.length ≤ c) :
    Value.slice (some ⟨bl, if c = l then 0 else 0 + l * 1, none⟩) (h - l) (c - l) = .slice (some ⟨bl, (xs.take l).length, none⟩) ((xs.drop l).take (h - l)).length (c - l) := by
  rw [if_neg (by omega), List.length_take, List.length_take, List.length_drop, Nat.min_eq_left (by omega), Nat.min_eq_left (by omega), Nat.zero_add, Nat.mul_one]
theorem winsplit {α : Type} {xs : List α} {l h : Nat} (h1 : l ≤ h) (h2 : h ≤ xs.length) : xs.take l ++ (xs.drop l).take (h - l) ++ xs.drop h = xs := by
  have e : xs.drop h = (xs.drop l).drop (h - l) := by rw [List.drop_drop, show l + (h - l) = h by omega]
  rw [e, List.append_assoc, List.take_append_drop, List.take_append_drop]
theorem winG {α : Type} {q : Rp α} {e : TypeId} {w : World} {O : List Nat} {a : Option Addr} {c l h : Nat} {xs : List α} {kk : Option Nat} {o : Obj} (hG : Gs q e w O a c xs kk o) (h1 : l ≤ h) (h2 : h ≤ xs.length) : Gs q e w O a c (xs.take l ++ (xs.drop l).take (h - l) ++ xs.drop h) kk o := by
  rw [winsplit h1 h2]; exact hG
theorem SlR.win {α : Type} {q : Rp α} {w : World} {O : List Nat} {bl c l h : Nat} {xs : List α} (hq : q.n = 1) (hS : SlR q w O (some ⟨bl, 0, none⟩) c xs) (h1 : l < h) (h2 : h ≤ xs.length) :
    SlR q w O (some ⟨bl, if c = l then 0 else 0 + l * 1, none⟩) (c - l) ((xs.drop l).take (h - l)) := by
  have := hS.sub (l := l) (hi := h) (mx := c) (by omega) h2 (by have := hS.le; omega) (Nat.le_refl _)
  have hc := hS.le
  have hne : ¬ c = l := by omega
  rw [if_neg hne] at this ⊢
  rw [hq] at this
  simpa [Addr.add_lit] using this
section ops
variable {P : Program} {r : Option Nat} {ρ : Env} {w : World} {O0 : List Nat} {bs : Ents} {w0 : Zx} {d : Option Nat} {ty : TypeId} {pos : String} {aft : Array Edge} {g : Option (Nat × Bool)} {V : Value → World → Prop} {t : TypeId} {x y : Operand} {td : TypeDesc} {n b : Nat} {z : List Value} {ag : Bool} {m : Int}
theorem op_callW {α : Type} {q : Rp α} {e : TypeId} {c bl i : Nat} {o : Obj} {xs' : List α} {f : FuncId} {args : Array Operand} {us : Array TypeId} {vs : List Value} (hc : ∀ (args : Array Value) (w : World), (callFunc f args).run P w = .ok (.enter f args) w)
    (hs : St w0 O0 w bs) (hi : bs[i]? = some (some bl, o)) (h : OkW P f vs w (ks (bs.eraseIdx i) O0) bl q e c xs') (ha : args.toList.map (ev ρ) = vs)
    (k : ∀ v w' o', Step (ks bs O0) w (ks (bs.set i (some bl, o')) O0) w' → St w0 O0 w' (bs.set i (some bl, o')) → Gs q e w' (ks (bs.set i (some bl, o')) O0) (some ⟨bl, 0, none⟩) c xs' (some bl) o' → V v w') :
    Run1 P r ρ w ⟨d, .call ⟨.value (.func f), args, us⟩, ty, pos, aft, g⟩ V := by
  refine op_call hc h ha ?_
  rintro v w' ⟨hl, o', ho, hG⟩
  obtain ⟨h1, h2, h3⟩ := hs.backW hi hl ho hG
  exact k v w' o' h1 h2 h3
theorem op_storeW {α : Type} {p : Rp α} {pre xs post : List α} {e : TypeId} {a : Option Addr} {c bl i : Nat} {o : Obj} {v : Value} {vs : List Value} {yv : α} (T : Ty P t td 1 b z ag) (hp : p.n = 1) (hs : St w0 O0 w bs) (hi : bs[i]? = some (some bl, o))
    (hx : ev ρ x = .pointer (some ⟨bl, pre.length + m.toNat * 1, none⟩)) (hy : ev ρ y = v) (hv : v.cells = vs.toArray) (h : Gs p e w (ks bs O0) a c (pre ++ xs ++ post) (some bl) o) (h0 : 0 ≤ m ∧ m < xs.length) (hr : p.rd w (ks bs O0) vs yv)
    (k : ∀ w' o', Step (ks bs O0) w (ks (bs.set i (some bl, o')) O0) w' → St w0 O0 w' (bs.set i (some bl, o')) → Gs p e w' (ks (bs.set i (some bl, o')) O0) a c (pre ++ xs.set m.toNat yv ++ post) (some bl) o' → V undef w') :
    Run1 P r ρ w ⟨d, .store t x y, ty, pos, aft, g⟩ V := by
  have em : ((pre.length + m.toNat : Nat) : Int).toNat = pre.length + m.toNat := Int.toNat_natCast _
  refine op_storeG (m := ((pre.length + m.toNat : Nat) : Int)) T hp hs hi (by rw [em, Nat.mul_one]; rw [Nat.mul_one] at hx; exact hx) hy hv h (by simp only [List.length_append]; omega) hr ?_
  intro w' o' h1 h2 h3
  refine k w' o' h1 h2 ?_
  rw [em, List.append_assoc, List.set_append_right _ _ (by omega), show pre.length + m.toNat - pre.length = m.toNat by omega, List.set_append_left _ _ (by omega), ← List.append_assoc] at h3
  exact h3
end ops
theorem freeze_same {w : World} {bl n : Nat} {cs : Array Value} {e : TypeId} (h : w.heap[bl]? = some (.cells cs e (0, 0))) : (w.freeze ⟨bl, n, none⟩ 1).heap[bl]? = some (.cells cs e (n, n + 1)) := by
  unfold World.freeze
  rw [if_neg (by decide)]
  simp [Array.getElem?_modify, h]
theorem freeze_other {w : World} {bl n j : Nat} (h : bl ≠ j) : (w.freeze ⟨bl, n, none⟩ 1).heap[j]? = w.heap[j]? := by
  unfold World.freeze
  rw [if_neg (by decide)]
  simp [Array.getElem?_modify, h]
theorem freeze_size {w : World} {bl n : Nat} : (w.freeze ⟨bl, n, none⟩ 1).heap.size = w.heap.size := by
  unfold World.freeze
  rw [if_neg (by decide)]; simp
theorem St.frz {z : Zx} {O0 : List Nat} {w : World} {bs : Ents} (hs : St z O0 w bs) {i bl n : Nat} {cs : Array Value} {e : TypeId} (hi : bs[i]? = some (some bl, .cells cs e (0, 0))) :
    St z O0 (w.freeze ⟨bl, n, none⟩ 1) (bs.set i (some bl, .cells cs e (n, n + 1))) ∧ Step (ks bs O0) w (ks (bs.set i (some bl, .cells cs e (n, n + 1))) O0) (w.freeze ⟨bl, n, none⟩ 1) := by
  have hg := hs.get hi
  have ho : ∀ j, j < w.heap.size → some bl ≠ some j → (w.freeze ⟨bl, n, none⟩ 1).heap[j]? = w.heap[j]? := fun j _ hj => freeze_other (fun e => hj (by rw [e]))
  have hb := (hs.own _ (List.mem_of_getElem? hi) bl rfl).1
  have e1 : (w.freeze ⟨bl, n, none⟩ 1).os = w.os ∧ (w.freeze ⟨bl, n, none⟩ 1).tape = w.tape ∧ (w.freeze ⟨bl, n, none⟩ 1).output = w.output ∧ (w.freeze ⟨bl, n, none⟩ 1).drawn = w.drawn := by
    unfold World.freeze; rw [if_neg (by decide)]; exact ⟨rfl, rfl, rfl, rfl⟩
  refine ⟨hs.put hi ⟨e1.1.trans hs.below.os, e1.2.1.trans hs.below.tape, e1.2.2.1.trans hs.below.output, by rw [freeze_size]; exact hs.below.size, fun k hk hn => ?_, by rw [e1.2.2.2]; exact hs.below.drawn⟩ (by rw [freeze_size]; exact Nat.le_refl _) (fun j hj => ?_) ho, Step.put hi (by rw [freeze_size]; exact Nat.le_refl _) (fun j hj => .inl hj) ho⟩
  · rw [freeze_other (by rintro rfl; rcases hb with h | h <;> first | exact hn h | omega)]; exact hs.below.block k hk hn
  · cases hj; exact ⟨.inl rfl, freeze_same hg⟩
theorem op_convB {P : Program} {r : Option Nat} {ρ : Env} {w : World} {O0 : List Nat} {bs : Ents} {w0 : Zx} {d : Option Nat} {ty : TypeId} {pos : String} {aft : Array Edge} {g : Option (Nat × Bool)} {V : Value → World → Prop} {t te : TypeId} {x : Operand} {i bl n c m : Nat} {cs : List Value} {e : TypeId} (T : P.underlying t = some (.slice te)) (E : P.underlying te = some (.int .u8))
    (hs : St w0 O0 w bs) (hi : bs[i]? = some (some bl, .cells cs.toArray e (0, 0))) (hm : cs.length = m) (hx : ev ρ x = .slice (some ⟨bl, 0, none⟩) n c)
    (k : ∀ w', Step (ks bs O0) w (ks (bs.set i (some bl, .cells cs.toArray e (m, m + 1))) O0) w' → St w0 O0 w' (bs.set i (some bl, .cells cs.toArray e (m, m + 1))) → V (.slice (some ⟨bl, 0, none⟩) n c) w') :
    Run1 P r ρ w ⟨d, .convert t t x, ty, pos, aft, g⟩ V := by
  subst hm
  have h1 : w.shape? bl = some (e, cs.length) := by unfold World.shape?; rw [hs.get hi]; simp
  obtain ⟨h2, h3⟩ := hs.frz (n := cs.length) hi
  refine run1_value (v := .slice (some ⟨bl, 0, none⟩) n c) (w' := w.freeze ⟨bl, cs.length, none⟩ 1) (by simp) ?_ (k _ h3 h2)
  simp [execOp, hx, convert, run_underlying T, run_underlying E, markStringish, h1]
theorem op_max3 {P : Program} {r : Option Nat} {ρ : Env} {w : World} {d : Option Nat} {ty : TypeId} {pos : String} {aft : Array Edge} {g : Option (Nat × Bool)} {V : Value → World → Prop} {x y z : Operand} {q : IntKind} {m j l : Int} {us : Array TypeId} (hx : ev ρ x = .int q m) (hy : ev ρ y = .int q j) (hz : ev ρ z = .int q l) (h : V (.int q (max (max m j) l)) w) : Run1 P r ρ w ⟨d, .call ⟨.builtin .max, #[x, y, z], us⟩, ty, pos, aft, g⟩ V := by
  have e1 : ∀ m j : Int, (if m < j then j else m) = max m j := fun m j => by split <;> omega
  exact run1_value (v := .int q (max (max m j) l)) (by simp) (by simp [execOp, resolve, invoke, builtin, Builtin.max_, Builtin.max2, hx, hy, hz, e1]) h
end Go.Fx



/- Regions whose order is drawn, in which a slice that grows is handed from one append to the next. No program in sight. -/
set_option linter.unusedSimpArgs false
set_option linter.unusedVariables false
namespace Go.Fx
open Go Go.RowKit
/-- what a region's operations have made, each by its tag; which operations that take over have been done -/
abbrev Gx := List (Nat × Option Nat × Obj) × List Nat
def entx (g : Gx) : Ents := g.1.map fun p => (p.2.1, p.2.2)
section
variable {w w' w'' : World} {w0 : Zx} {O0 : List Nat} {bs : Ents} {eat : Nat → Nat} {g : Gx} {v : Value} {k : Nat}
def TX (w0 : Zx) (O0 : List Nat) (bs : Ents) (eat : Nat → Nat) : Go1 Gx where
  inv w g := St w0 O0 w (entx g ++ bs) ∧ ∀ k ∈ g.2, k < 1000
  le w g w' g' := ((∀ p ∈ g.1, p ∈ g'.1 ∨ eat p.1 ∈ g'.2) ∧ ∀ k ∈ g.2, k ∈ g'.2) ∧ Step (ks (entx g ++ bs) O0) w (ks (entx g' ++ bs) O0) w' ∧ True
  refl w g := ⟨⟨fun _ h => .inl h, fun _ h => h⟩, Step.refl _ _, trivial⟩
  trans := fun ⟨⟨a, b⟩, h, _⟩ ⟨⟨a', b'⟩, h', _⟩ => ⟨⟨fun p hp => (a p hp).elim (a' p) fun h => .inr (b' _ h), fun k hk => b' _ (b _ hk)⟩, h.trans h', trivial⟩
  drew w g h := ⟨⟨h.1.call (Ext.drew w), h.2⟩, ⟨fun _ h => .inl h, fun _ h => h⟩, Step.ext (Ext.drew w), trivial⟩
  dn g := g.2
abbrev XD {α : Type} (O0 : List Nat) (bs : Ents) (R : Vr α) (x : α) : VR Gx := fun v w g => R.vd w (ks (entx g ++ bs) O0) v x
theorem XD.stab {α : Type} (R : Vr α) (x : α) : Stab (TX w0 O0 bs eat) (XD O0 bs R x) := fun _ _ _ _ _ h hv => R.step h.2.1 hv
abbrev XP {α : Type} (O0 : List Nat) (bs : Ents) (q : Rp α) (x : α) : VR Gx := fun v w g => ∃ p, v = .pointer (some p) ∧ PtR q w (ks (entx g ++ bs) O0) p x
theorem XP.stab {α : Type} (q : Rp α) (x : α) : Stab (TX w0 O0 bs eat) (XP O0 bs q x) := fun _ _ _ _ _ h ⟨p, h1, h2⟩ => ⟨p, h1, h2.step h.2.1⟩
/-- a slice of one's own, until it is taken over -/
def XG {α : Type} (O0 : List Nat) (bs : Ents) (eat : Nat → Nat) (tag : Nat) (q : Rp α) (e : TypeId) (xs : List α) : VR Gx := fun v w g => eat tag ∈ g.2 ∨ ∃ a c kk o, v = .slice a xs.length c ∧ (tag, kk, o) ∈ g.1 ∧ Gs q e w (ks (entx g ++ bs) O0) a c xs kk o
theorem XG.stab {α : Type} (tag : Nat) (q : Rp α) (e : TypeId) (xs : List α) : Stab (TX w0 O0 bs eat) (XG O0 bs eat tag q e xs) := by
  rintro v w g w' g' ⟨⟨h1, h2⟩, h3, _⟩ (hv | ⟨a, c, kk, o, e1, e2, e3⟩)
  · exact .inl (h2 _ hv)
  · rcases h1 _ e2 with h | h
    · exact .inr ⟨a, c, kk, o, e1, h, e3.step h3⟩
    · exact .inl h
theorem GoesX.same {V : VR Gx} (hi : St w0 O0 w' (entx g ++ bs)) (hi2 : ∀ k ∈ g.2, k < 1000) (hv : V v w' g) : Goes (TX w0 O0 bs eat) w' g V k v w' := ⟨g, ⟨hi, hi2⟩, (TX w0 O0 bs eat).refl _ _, hv, fun _ h => .inl h⟩
theorem GoesX.call {V : VR Gx} (hi : St w0 O0 w' (entx g ++ bs)) (hi2 : ∀ k ∈ g.2, k < 1000) (hx : Ext w' w'') (hv : V v w'' g) : Goes (TX w0 O0 bs eat) w' g V k v w'' :=
  ⟨g, ⟨hi.call hx, hi2⟩, ⟨⟨fun _ h => .inl h, fun _ h => h⟩, Step.ext hx, trivial⟩, hv, fun _ h => .inl h⟩
theorem GoesX.pub {V : VR Gx} (hi : St w0 O0 w' (entx g ++ bs)) (hi2 : ∀ k ∈ g.2, k < 1000) (hs : St w0 O0 w'' (entx g ++ bs)) (p : Step (ks (entx g ++ bs) O0) w' (ks (entx g ++ bs) O0) w'') (hx : Ext w' w'') (hv : V v w'' g) :
    Goes (TX w0 O0 bs eat) w' g V k v w'' := ⟨g, ⟨hs, hi2⟩, ⟨⟨fun _ h => .inl h, fun _ h => h⟩, p, trivial⟩, hv, fun _ h => .inl h⟩
theorem GoesX.own {α : Type} {q : Rp α} {e : TypeId} {xs : List α} {a : Option Addr} {c len tag : Nat} {kk : Option Nat} {o : Obj} (hi2 : ∀ k ∈ g.2, k < 1000) (p : Step (ks (entx g ++ bs) O0) w' (ks ((kk, o) :: (entx g ++ bs)) O0) w'') (hs : St w0 O0 w'' ((kk, o) :: (entx g ++ bs)))
    (f : Gs q e w'' (ks ((kk, o) :: (entx g ++ bs)) O0) a c xs kk o) (hl : len = xs.length) : Goes (TX w0 O0 bs eat) w' g (XG O0 bs eat tag q e xs) k (.slice a len c) w'' := by
  subst hl
  exact ⟨((tag, kk, o) :: g.1, g.2), ⟨hs, hi2⟩, ⟨⟨fun _ h => .inl (List.mem_cons_of_mem _ h), fun _ h => h⟩, p, trivial⟩, .inr ⟨a, c, kk, o, rfl, List.mem_cons_self, f⟩, fun _ h => .inl h⟩
theorem GoesX.take {V : VR Gx} {g' : Gx} (hl : (TX w0 O0 bs eat).le w g w g') (hd : ∀ i ∈ g'.2, i ∈ g.2 ∨ i = k) (h : Goes (TX w0 O0 bs eat) w g' V k v w'') : Goes (TX w0 O0 bs eat) w g V k v w'' := by
  obtain ⟨g'', h1, h2, h3, h4⟩ := h
  exact ⟨g'', h1, (TX w0 O0 bs eat).trans hl h2, h3, fun i hi => (h4 i hi).elim (hd i) .inr⟩
end
section ops
variable {P : Program} {r : Option Nat} {ρ : Env} {w : World} {O0 : List Nat} {bs : Ents} {w0 : Zx} {d : Option Nat} {ty : TypeId} {pos : String} {aft : Array Edge} {gd : Option (Nat × Bool)} {t : TypeId} {x y : Operand} {td : TypeDesc} {n b : Nat} {z : List Value} {ag : Bool} {eat : Nat → Nat} {g : Gx}
end ops
end Go.Fx



set_option linter.unusedVariables false
set_option linter.unusedSimpArgs false
set_option maxRecDepth 100000
set_option maxHeartbeats 0
namespace Go.Fx
open Go Go.RowKit Go.Proofs
structure XWrite where
  at_ : Int
  data : List UInt8
  deriving Inhabited, DecidableEq
def rXWrite : Rp XWrite := rVia (fun d => (d.at_, d.data)) (rPair (rInt .i64) (rSl rU8))
structure XDisk where
  sectors : List (List UInt8)
  pending : List XWrite
  left : Int
  stopped : Bool
  deriving Inhabited, DecidableEq
def rXDisk : Rp XDisk := rVia (fun d => (d.sectors, d.pending, d.left, d.stopped)) (rPair (rSl (rSl rU8)) (rPair (rSl rXWrite) (rPair (rInt .i64) rBool)))
structure XJournal where
  records : List (List UInt8)
  many : Int
  synced : Int
  deriving Inhabited, DecidableEq
def rXJournal : Rp XJournal := rVia (fun d => (d.records, d.many, d.synced)) (rPair (rSl (rSl rU8)) (rPair (rInt .i64) (rInt .i64)))
structure XCrash where
  records : List (List UInt8)
  stop : Bool
  left : UInt8
  deriving Inhabited, DecidableEq
def rXCrash : Rp XCrash := rVia (fun d => (d.records, d.stop, d.left)) (rPair (rSl (rSl rU8)) (rPair rBool rU8))
theorem ty22 : Ty Try.prog 22 (.slice 41) 1 24 [(.slice none 0 0)] false :=
  ⟨Try.underlying22, ⟨Try.t22, info_of Try.type22, rfl, rfl, _, rfl, rfl⟩, Try.isAgg22, rfl⟩
theorem ty41 : Ty Try.prog 41 (.slice 5) 1 24 [(.slice none 0 0)] false :=
  ⟨Try.underlying41, ⟨Try.t41, info_of Try.type41, rfl, rfl, _, rfl, rfl⟩, Try.isAgg41, rfl⟩
theorem ty25 : Ty Try.prog 25 (.struct #[{ name := "Sectors", type := 22, offset := 0, embedded := false, tag := "", pkgPath := "", byteOffset := 0 }, { name := "Pending", type := 23, offset := 1, embedded := false, tag := "", pkgPath := "", byteOffset := 24 }, { name := "Left", type := 3, offset := 2, embedded := false, tag := "", pkgPath := "", byteOffset := 48 }, { name := "Stopped", type := 4, offset := 3, embedded := false, tag := "", pkgPath := "", byteOffset := 56 }]) 4 64 [(.slice none 0 0), (.slice none 0 0), (.int .i64 0), (.bool false)] true :=
  ⟨Try.underlying25, ⟨Try.t25, info_of Try.type25, rfl, rfl, _, rfl, rfl⟩, Try.isAgg25, rfl⟩
theorem ty5 : Ty Try.prog 5 (.int .u8) 1 1 [(.int .u8 0)] false :=
  ⟨Try.underlying5, ⟨Try.t5, info_of Try.type5, rfl, rfl, _, rfl, rfl⟩, Try.isAgg5, rfl⟩
theorem ty73 : Ty Try.prog 73 (.struct #[{ name := "At", type := 3, offset := 0, embedded := false, tag := "", pkgPath := "", byteOffset := 0 }, { name := "Data", type := 41, offset := 1, embedded := false, tag := "", pkgPath := "", byteOffset := 8 }]) 2 32 [(.int .i64 0), (.slice none 0 0)] true :=
  ⟨Try.underlying73, ⟨Try.t73, info_of Try.type73, rfl, rfl, _, rfl, rfl⟩, Try.isAgg73, rfl⟩
theorem ty3 : Ty Try.prog 3 (.int .i64) 1 8 [(.int .i64 0)] false :=
  ⟨Try.underlying3, ⟨Try.t3, info_of Try.type3, rfl, rfl, _, rfl, rfl⟩, Try.isAgg3, rfl⟩
theorem ty23 : Ty Try.prog 23 (.slice 73) 1 24 [(.slice none 0 0)] false :=
  ⟨Try.underlying23, ⟨Try.t23, info_of Try.type23, rfl, rfl, _, rfl, rfl⟩, Try.isAgg23, rfl⟩
theorem ty105 : Ty Try.prog 105 (.array 128 5) 128 128 (List.replicate 128 (.int .u8 0)) true :=
  ⟨Try.underlying105, ⟨Try.t105, info_of Try.type105, rfl, rfl, _, rfl, rfl⟩, Try.isAgg105, rfl⟩
theorem ty52 : Ty Try.prog 52 (.struct #[{ name := "Records", type := 22, offset := 0, embedded := false, tag := "", pkgPath := "", byteOffset := 0 }, { name := "Many", type := 3, offset := 1, embedded := false, tag := "", pkgPath := "", byteOffset := 24 }, { name := "Synced", type := 3, offset := 2, embedded := false, tag := "", pkgPath := "", byteOffset := 32 }]) 3 40 [(.slice none 0 0), (.int .i64 0), (.int .i64 0)] true :=
  ⟨Try.underlying52, ⟨Try.t52, info_of Try.type52, rfl, rfl, _, rfl, rfl⟩, Try.isAgg52, rfl⟩
theorem ty4 : Ty Try.prog 4 .bool 1 1 [(.bool false)] false :=
  ⟨Try.underlying4, ⟨Try.t4, info_of Try.type4, rfl, rfl, _, rfl, rfl⟩, Try.isAgg4, rfl⟩
theorem ty68 : Ty Try.prog 68 (.slice 70) 1 24 [(.slice none 0 0)] false :=
  ⟨Try.underlying68, ⟨Try.t68, info_of Try.type68, rfl, rfl, _, rfl, rfl⟩, Try.isAgg68, rfl⟩
theorem ty70 : Ty Try.prog 70 (.struct #[{ name := "Records", type := 22, offset := 0, embedded := false, tag := "", pkgPath := "", byteOffset := 0 }, { name := "Stop", type := 4, offset := 1, embedded := false, tag := "", pkgPath := "", byteOffset := 24 }, { name := "Left", type := 5, offset := 2, embedded := false, tag := "", pkgPath := "", byteOffset := 25 }]) 3 32 [(.slice none 0 0), (.bool false), (.int .u8 0)] true :=
  ⟨Try.underlying70, ⟨Try.t70, info_of Try.type70, rfl, rfl, _, rfl, rfl⟩, Try.isAgg70, rfl⟩
theorem pl25 : Places Try.prog #[{ name := "Sectors", type := 22, offset := 0, embedded := false, tag := "", pkgPath := "", byteOffset := 0 }, { name := "Pending", type := 23, offset := 1, embedded := false, tag := "", pkgPath := "", byteOffset := 24 }, { name := "Left", type := 3, offset := 2, embedded := false, tag := "", pkgPath := "", byteOffset := 48 }, { name := "Stopped", type := 4, offset := 3, embedded := false, tag := "", pkgPath := "", byteOffset := 56 }] [(0, 1), (1, 1), (2, 1), (3, 1)] := fun w => by simp [ty22.runSize, ty23.runSize, ty3.runSize, ty4.runSize]
theorem pl52 : Places Try.prog #[{ name := "Records", type := 22, offset := 0, embedded := false, tag := "", pkgPath := "", byteOffset := 0 }, { name := "Many", type := 3, offset := 1, embedded := false, tag := "", pkgPath := "", byteOffset := 24 }, { name := "Synced", type := 3, offset := 2, embedded := false, tag := "", pkgPath := "", byteOffset := 32 }] [(0, 1), (1, 1), (2, 1)] := fun w => by simp [ty22.runSize, ty3.runSize, ty3.runSize]
theorem pl73 : Places Try.prog #[{ name := "At", type := 3, offset := 0, embedded := false, tag := "", pkgPath := "", byteOffset := 0 }, { name := "Data", type := 41, offset := 1, embedded := false, tag := "", pkgPath := "", byteOffset := 8 }] [(0, 1), (1, 1)] := fun w => by simp [ty3.runSize, ty41.runSize]

end Go.Fx



/- What the arguments read as. -/
namespace Go.Fx
open Go Go.Proofs Go.ChangeShapes Go.WideShapes Go.ChangeAt Go.RowKit Go.Fx
open Go.ChangeMaps (open_string shut_string)
set_option linter.unusedVariables false
set_option maxRecDepth 100000
theorem rd5 {H : Type} {enc : TypeId × Value → H} {w : World} {base : Nat} {spare : Nat → Bool} {held : Bool} : Rd enc Try.prog w base spare held 5 rU8 SmT := Rd_u8 Try.underlying5 (by kernel_rfl)
theorem rd41 {H : Type} {enc : TypeId × Value → H} {w : World} {base : Nat} {spare : Nat → Bool} {held : Bool} : Rd enc Try.prog w base spare held 41 (rSl rU8) (SmL SmT) := Rd_slice Try.underlying41 (by kernel_rfl) (by decide) (of_decide_eq_true (by kernel_rfl)) rd5
theorem rd22 {H : Type} {enc : TypeId × Value → H} {w : World} {base : Nat} {spare : Nat → Bool} {held : Bool} : Rd enc Try.prog w base spare held 22 (rSl (rSl rU8)) (SmLB 24 (SmL SmT)) := Rd_sliceB Try.underlying22 (by kernel_rfl) (by decide) (of_decide_eq_true (by kernel_rfl)) rd41
theorem rd4 {H : Type} {enc : TypeId × Value → H} {w : World} {base : Nat} {spare : Nat → Bool} {held : Bool} : Rd enc Try.prog w base spare held 4 rBool SmT := Rd_bool Try.underlying4 (by kernel_rfl)
def smXCrash (d : XCrash) : Prop := (SmLB 24 (SmL SmT)) d.records ∧ SmT d.stop ∧ SmT d.left
theorem rd70 {H : Type} {enc : TypeId × Value → H} {w : World} {base : Nat} {spare : Nat → Bool} {held : Bool} : Rd enc Try.prog w base spare held 70 rXCrash smXCrash := by
  refine ⟨by kernel_rfl, fun fuel cs y h => ?_⟩
  obtain ⟨xs, n, _, hy, hl, hlen, hf⟩ := DataW.trod_struct Try.underlying70 h
  obtain ⟨x0, h0, s0⟩ := fld Try.underlying70 hf hlen hy (i := 0) rfl rd22
  obtain ⟨x1, h1, s1⟩ := fld Try.underlying70 hf hlen hy (i := 1) rfl rd4
  obtain ⟨x2, h2, s2⟩ := fld Try.underlying70 hf hlen hy (i := 2) rfl rd5
  have hc : Try.prog.cellsOf 70 = 3 := by kernel_rfl
  refine ⟨⟨x0, x1, x2⟩, ?_, fun hw => ⟨s0 hw, s1 hw, s2 hw⟩⟩
  exact rd_all (q := (rPair (rSl (rSl rU8)) (rPair rBool rU8))) (rd_pair h0 (rd_pair h1 h2)) (hl.trans hc)
theorem rd68 {H : Type} {enc : TypeId × Value → H} {w : World} {base : Nat} {spare : Nat → Bool} {held : Bool} : Rd enc Try.prog w base spare held 68 (rSl rXCrash) (SmLB 32 smXCrash) := Rd_sliceB Try.underlying68 (by kernel_rfl) (by decide) (of_decide_eq_true (by kernel_rfl)) rd70
end Go.Fx



set_option linter.unusedVariables false
set_option linter.unusedSimpArgs false
set_option maxRecDepth 100000
set_option maxHeartbeats 0
namespace Go.Fx
open Go Go.RowKit Go.Proofs
end Go.Fx



set_option linter.unusedVariables false
set_option linter.unusedSimpArgs false
set_option maxRecDepth 100000
set_option maxHeartbeats 0
namespace Go.Fx
open Go Go.RowKit Go.Proofs
def m74_bits_Mul64 (x_ : Int) (y : Int) : Option (Int × Int) :=
 some ((IntKind.wrap .u64 ((IntKind.wrap .u64 ((IntKind.wrap .u64 ((x_ / 2 ^ min 32 (IntKind.bits .u64)) * (y / 2 ^ min 32 (IntKind.bits .u64)))) + ((IntKind.wrap .u64 ((IntKind.wrap .u64 ((x_ / 2 ^ min 32 (IntKind.bits .u64)) * (Go.bits .and .u64 y 4294967295))) + ((IntKind.wrap .u64 ((Go.bits .and .u64 x_ 4294967295) * (Go.bits .and .u64 y 4294967295))) / 2 ^ min 32 (IntKind.bits .u64)))) / 2 ^ min 32 (IntKind.bits .u64)))) + ((IntKind.wrap .u64 ((Go.bits .and .u64 (IntKind.wrap .u64 ((IntKind.wrap .u64 ((x_ / 2 ^ min 32 (IntKind.bits .u64)) * (Go.bits .and .u64 y 4294967295))) + ((IntKind.wrap .u64 ((Go.bits .and .u64 x_ 4294967295) * (Go.bits .and .u64 y 4294967295))) / 2 ^ min 32 (IntKind.bits .u64)))) 4294967295) + (IntKind.wrap .u64 ((Go.bits .and .u64 x_ 4294967295) * (y / 2 ^ min 32 (IntKind.bits .u64)))))) / 2 ^ min 32 (IntKind.bits .u64)))), (IntKind.wrap .u64 (x_ * y)))

theorem c74_bits_Mul64 {w : World} {O : List Nat} {x_ : Int} {y : Int} (hO : ∀ k ∈ O, k < w.heap.size) (r_x_ : InK .u64 x_) (r_y : InK .u64 y) {x : Int × Int} (hm : m74_bits_Mul64 x_ y = some x) :
  Ok Try.prog 74 [(Value.int .u64 x_), (Value.int .u64 y)] w O (vT2 (vI .u64) (vI .u64)) x := by
 unfold m74_bits_Mul64 at hm
 refine Fn_of_Wp (n := 51) (xs := [.tmp 4, .tmp 5]) Try.func74 rfl Try.ntmps74 Try.results74 rfl ?_
 have hs := St.start hO
 refine Wp_seq ?_
 refine Wp_region ?_
 refine Rg_op rfl (op_assign (v := (Value.int .u64 0)) rfl ?_)
 refine Rg_op rfl (op_assign (v := (Value.int .u64 0)) rfl ?_)
 refine Rg_nil ?_
 refine Wp_seq ?_
 refine Wp_region ?_
 refine Rg_op rfl (op_move (v := (Value.int .u64 x_)) rfl ?_)
 refine Rg_op rfl (op_and rfl rfl ?_)
 refine Rg_op rfl (op_assign (v := (Value.int .u64 (Go.bits .and .u64 x_ 4294967295))) rfl ?_)
 refine Rg_nil ?_
 refine Wp_seq ?_
 refine Wp_region ?_
 refine Rg_op rfl (op_move (v := (Value.int .u64 x_)) rfl ?_)
 refine Rg_op rfl (op_shr rfl rfl (by decide) ?_)
 refine Rg_op rfl (op_assign (v := (Value.int .u64 (x_ / 2 ^ min 32 (IntKind.bits .u64)))) rfl ?_)
 refine Rg_nil ?_
 refine Wp_seq ?_
 refine Wp_region ?_
 refine Rg_op rfl (op_move (v := (Value.int .u64 y)) rfl ?_)
 refine Rg_op rfl (op_and rfl rfl ?_)
 refine Rg_op rfl (op_assign (v := (Value.int .u64 (Go.bits .and .u64 y 4294967295))) rfl ?_)
 refine Rg_nil ?_
 refine Wp_seq ?_
 refine Wp_region ?_
 refine Rg_op rfl (op_move (v := (Value.int .u64 y)) rfl ?_)
 refine Rg_op rfl (op_shr rfl rfl (by decide) ?_)
 refine Rg_op rfl (op_assign (v := (Value.int .u64 (y / 2 ^ min 32 (IntKind.bits .u64)))) rfl ?_)
 refine Rg_nil ?_
 refine Wp_seq ?_
 refine Wp_region ?_
 refine Rg_op rfl (op_move (v := (Value.int .u64 (Go.bits .and .u64 x_ 4294967295))) rfl ?_)
 refine Rg_op rfl (op_move (v := (Value.int .u64 (Go.bits .and .u64 y 4294967295))) rfl ?_)
 refine Rg_op rfl (op_mulw rfl rfl ?_)
 refine Rg_op rfl (op_assign (v := (Value.int .u64 (IntKind.wrap .u64 ((Go.bits .and .u64 x_ 4294967295) * (Go.bits .and .u64 y 4294967295))))) rfl ?_)
 refine Rg_nil ?_
 refine Wp_seq ?_
 refine Wp_region ?_
 refine Rg_op rfl (op_move (v := (Value.int .u64 (x_ / 2 ^ min 32 (IntKind.bits .u64)))) rfl ?_)
 refine Rg_op rfl (op_move (v := (Value.int .u64 (Go.bits .and .u64 y 4294967295))) rfl ?_)
 refine Rg_op rfl (op_mulw rfl rfl ?_)
 refine Rg_op rfl (op_move (v := (Value.int .u64 (IntKind.wrap .u64 ((Go.bits .and .u64 x_ 4294967295) * (Go.bits .and .u64 y 4294967295))))) rfl ?_)
 refine Rg_op rfl (op_shr rfl rfl (by decide) ?_)
 refine Rg_op rfl (op_addw rfl rfl ?_)
 refine Rg_op rfl (op_assign (v := (Value.int .u64 (IntKind.wrap .u64 ((IntKind.wrap .u64 ((x_ / 2 ^ min 32 (IntKind.bits .u64)) * (Go.bits .and .u64 y 4294967295))) + ((IntKind.wrap .u64 ((Go.bits .and .u64 x_ 4294967295) * (Go.bits .and .u64 y 4294967295))) / 2 ^ min 32 (IntKind.bits .u64)))))) rfl ?_)
 refine Rg_nil ?_
 refine Wp_seq ?_
 refine Wp_reset [] [(0, (Value.int .u64 x_)), (1, (Value.int .u64 y)), (6, (Value.int .u64 (Go.bits .and .u64 x_ 4294967295))), (7, (Value.int .u64 (x_ / 2 ^ min 32 (IntKind.bits .u64)))), (9, (Value.int .u64 (y / 2 ^ min 32 (IntKind.bits .u64)))), (11, (Value.int .u64 (IntKind.wrap .u64 ((IntKind.wrap .u64 ((x_ / 2 ^ min 32 (IntKind.bits .u64)) * (Go.bits .and .u64 y 4294967295))) + ((IntKind.wrap .u64 ((Go.bits .and .u64 x_ 4294967295) * (Go.bits .and .u64 y 4294967295))) / 2 ^ min 32 (IntKind.bits .u64))))))] rfl ⟨rfl, rfl, rfl, rfl, rfl, rfl, trivial⟩ fun ξ1 => ?_
 refine Wp_region ?_
 refine Rg_op rfl (op_move (v := (Value.int .u64 (IntKind.wrap .u64 ((IntKind.wrap .u64 ((x_ / 2 ^ min 32 (IntKind.bits .u64)) * (Go.bits .and .u64 y 4294967295))) + ((IntKind.wrap .u64 ((Go.bits .and .u64 x_ 4294967295) * (Go.bits .and .u64 y 4294967295))) / 2 ^ min 32 (IntKind.bits .u64)))))) rfl ?_)
 refine Rg_op rfl (op_and rfl rfl ?_)
 refine Rg_op rfl (op_assign (v := (Value.int .u64 (Go.bits .and .u64 (IntKind.wrap .u64 ((IntKind.wrap .u64 ((x_ / 2 ^ min 32 (IntKind.bits .u64)) * (Go.bits .and .u64 y 4294967295))) + ((IntKind.wrap .u64 ((Go.bits .and .u64 x_ 4294967295) * (Go.bits .and .u64 y 4294967295))) / 2 ^ min 32 (IntKind.bits .u64)))) 4294967295))) rfl ?_)
 refine Rg_nil ?_
 refine Wp_seq ?_
 refine Wp_region ?_
 refine Rg_op rfl (op_move (v := (Value.int .u64 (IntKind.wrap .u64 ((IntKind.wrap .u64 ((x_ / 2 ^ min 32 (IntKind.bits .u64)) * (Go.bits .and .u64 y 4294967295))) + ((IntKind.wrap .u64 ((Go.bits .and .u64 x_ 4294967295) * (Go.bits .and .u64 y 4294967295))) / 2 ^ min 32 (IntKind.bits .u64)))))) rfl ?_)
 refine Rg_op rfl (op_shr rfl rfl (by decide) ?_)
 refine Rg_op rfl (op_assign (v := (Value.int .u64 ((IntKind.wrap .u64 ((IntKind.wrap .u64 ((x_ / 2 ^ min 32 (IntKind.bits .u64)) * (Go.bits .and .u64 y 4294967295))) + ((IntKind.wrap .u64 ((Go.bits .and .u64 x_ 4294967295) * (Go.bits .and .u64 y 4294967295))) / 2 ^ min 32 (IntKind.bits .u64)))) / 2 ^ min 32 (IntKind.bits .u64)))) rfl ?_)
 refine Rg_nil ?_
 refine Wp_seq ?_
 refine Wp_region ?_
 refine Rg_op rfl (op_move (v := (Value.int .u64 (Go.bits .and .u64 (IntKind.wrap .u64 ((IntKind.wrap .u64 ((x_ / 2 ^ min 32 (IntKind.bits .u64)) * (Go.bits .and .u64 y 4294967295))) + ((IntKind.wrap .u64 ((Go.bits .and .u64 x_ 4294967295) * (Go.bits .and .u64 y 4294967295))) / 2 ^ min 32 (IntKind.bits .u64)))) 4294967295))) rfl ?_)
 refine Rg_op rfl (op_move (v := (Value.int .u64 (Go.bits .and .u64 x_ 4294967295))) rfl ?_)
 refine Rg_op rfl (op_move (v := (Value.int .u64 (y / 2 ^ min 32 (IntKind.bits .u64)))) rfl ?_)
 refine Rg_op rfl (op_mulw rfl rfl ?_)
 refine Rg_op rfl (op_addw rfl rfl ?_)
 refine Rg_op rfl (op_assign (v := (Value.int .u64 (IntKind.wrap .u64 ((Go.bits .and .u64 (IntKind.wrap .u64 ((IntKind.wrap .u64 ((x_ / 2 ^ min 32 (IntKind.bits .u64)) * (Go.bits .and .u64 y 4294967295))) + ((IntKind.wrap .u64 ((Go.bits .and .u64 x_ 4294967295) * (Go.bits .and .u64 y 4294967295))) / 2 ^ min 32 (IntKind.bits .u64)))) 4294967295) + (IntKind.wrap .u64 ((Go.bits .and .u64 x_ 4294967295) * (y / 2 ^ min 32 (IntKind.bits .u64)))))))) rfl ?_)
 refine Rg_nil ?_
 refine Wp_seq ?_
 refine Wp_region ?_
 refine Rg_op rfl (op_move (v := (Value.int .u64 (x_ / 2 ^ min 32 (IntKind.bits .u64)))) rfl ?_)
 refine Rg_op rfl (op_move (v := (Value.int .u64 (y / 2 ^ min 32 (IntKind.bits .u64)))) rfl ?_)
 refine Rg_op rfl (op_mulw rfl rfl ?_)
 refine Rg_op rfl (op_move (v := (Value.int .u64 ((IntKind.wrap .u64 ((IntKind.wrap .u64 ((x_ / 2 ^ min 32 (IntKind.bits .u64)) * (Go.bits .and .u64 y 4294967295))) + ((IntKind.wrap .u64 ((Go.bits .and .u64 x_ 4294967295) * (Go.bits .and .u64 y 4294967295))) / 2 ^ min 32 (IntKind.bits .u64)))) / 2 ^ min 32 (IntKind.bits .u64)))) rfl ?_)
 refine Rg_op rfl (op_addw rfl rfl ?_)
 refine Rg_op rfl (op_move (v := (Value.int .u64 (IntKind.wrap .u64 ((Go.bits .and .u64 (IntKind.wrap .u64 ((IntKind.wrap .u64 ((x_ / 2 ^ min 32 (IntKind.bits .u64)) * (Go.bits .and .u64 y 4294967295))) + ((IntKind.wrap .u64 ((Go.bits .and .u64 x_ 4294967295) * (Go.bits .and .u64 y 4294967295))) / 2 ^ min 32 (IntKind.bits .u64)))) 4294967295) + (IntKind.wrap .u64 ((Go.bits .and .u64 x_ 4294967295) * (y / 2 ^ min 32 (IntKind.bits .u64)))))))) rfl ?_)
 refine Rg_op rfl (op_shr rfl rfl (by decide) ?_)
 refine Rg_op rfl (op_addw rfl rfl ?_)
 refine Rg_op rfl (op_assign (v := (Value.int .u64 (IntKind.wrap .u64 ((IntKind.wrap .u64 ((IntKind.wrap .u64 ((x_ / 2 ^ min 32 (IntKind.bits .u64)) * (y / 2 ^ min 32 (IntKind.bits .u64)))) + ((IntKind.wrap .u64 ((IntKind.wrap .u64 ((x_ / 2 ^ min 32 (IntKind.bits .u64)) * (Go.bits .and .u64 y 4294967295))) + ((IntKind.wrap .u64 ((Go.bits .and .u64 x_ 4294967295) * (Go.bits .and .u64 y 4294967295))) / 2 ^ min 32 (IntKind.bits .u64)))) / 2 ^ min 32 (IntKind.bits .u64)))) + ((IntKind.wrap .u64 ((Go.bits .and .u64 (IntKind.wrap .u64 ((IntKind.wrap .u64 ((x_ / 2 ^ min 32 (IntKind.bits .u64)) * (Go.bits .and .u64 y 4294967295))) + ((IntKind.wrap .u64 ((Go.bits .and .u64 x_ 4294967295) * (Go.bits .and .u64 y 4294967295))) / 2 ^ min 32 (IntKind.bits .u64)))) 4294967295) + (IntKind.wrap .u64 ((Go.bits .and .u64 x_ 4294967295) * (y / 2 ^ min 32 (IntKind.bits .u64)))))) / 2 ^ min 32 (IntKind.bits .u64)))))) rfl ?_)
 refine Rg_nil ?_
 refine Wp_seq ?_
 refine Wp_region ?_
 refine Rg_op rfl (op_move (v := (Value.int .u64 x_)) rfl ?_)
 refine Rg_op rfl (op_move (v := (Value.int .u64 y)) rfl ?_)
 refine Rg_op rfl (op_mulw rfl rfl ?_)
 refine Rg_op rfl (op_assign (v := (Value.int .u64 (IntKind.wrap .u64 (x_ * y)))) rfl ?_)
 refine Rg_nil ?_
 refine Wp_ret ?_
 have hz := step_all hs
 refine ⟨_, (show Closes [] _ _ from rfl), [(Value.int .u64 (IntKind.wrap .u64 ((IntKind.wrap .u64 ((IntKind.wrap .u64 ((x_ / 2 ^ min 32 (IntKind.bits .u64)) * (y / 2 ^ min 32 (IntKind.bits .u64)))) + ((IntKind.wrap .u64 ((IntKind.wrap .u64 ((x_ / 2 ^ min 32 (IntKind.bits .u64)) * (Go.bits .and .u64 y 4294967295))) + ((IntKind.wrap .u64 ((Go.bits .and .u64 x_ 4294967295) * (Go.bits .and .u64 y 4294967295))) / 2 ^ min 32 (IntKind.bits .u64)))) / 2 ^ min 32 (IntKind.bits .u64)))) + ((IntKind.wrap .u64 ((Go.bits .and .u64 (IntKind.wrap .u64 ((IntKind.wrap .u64 ((x_ / 2 ^ min 32 (IntKind.bits .u64)) * (Go.bits .and .u64 y 4294967295))) + ((IntKind.wrap .u64 ((Go.bits .and .u64 x_ 4294967295) * (Go.bits .and .u64 y 4294967295))) / 2 ^ min 32 (IntKind.bits .u64)))) 4294967295) + (IntKind.wrap .u64 ((Go.bits .and .u64 x_ 4294967295) * (y / 2 ^ min 32 (IntKind.bits .u64)))))) / 2 ^ min 32 (IntKind.bits .u64))))), (Value.int .u64 (IntKind.wrap .u64 (x_ * y)))], ⟨rfl, rfl, trivial⟩, hs.ext, ?_⟩
 exact Vr.eq (a := (vT2 (vI .u64) (vI .u64))) (x := ((IntKind.wrap .u64 ((IntKind.wrap .u64 ((IntKind.wrap .u64 ((x_ / 2 ^ min 32 (IntKind.bits .u64)) * (y / 2 ^ min 32 (IntKind.bits .u64)))) + ((IntKind.wrap .u64 ((IntKind.wrap .u64 ((x_ / 2 ^ min 32 (IntKind.bits .u64)) * (Go.bits .and .u64 y 4294967295))) + ((IntKind.wrap .u64 ((Go.bits .and .u64 x_ 4294967295) * (Go.bits .and .u64 y 4294967295))) / 2 ^ min 32 (IntKind.bits .u64)))) / 2 ^ min 32 (IntKind.bits .u64)))) + ((IntKind.wrap .u64 ((Go.bits .and .u64 (IntKind.wrap .u64 ((IntKind.wrap .u64 ((x_ / 2 ^ min 32 (IntKind.bits .u64)) * (Go.bits .and .u64 y 4294967295))) + ((IntKind.wrap .u64 ((Go.bits .and .u64 x_ 4294967295) * (Go.bits .and .u64 y 4294967295))) / 2 ^ min 32 (IntKind.bits .u64)))) 4294967295) + (IntKind.wrap .u64 ((Go.bits .and .u64 x_ 4294967295) * (y / 2 ^ min 32 (IntKind.bits .u64)))))) / 2 ^ min 32 (IntKind.bits .u64)))), (IntKind.wrap .u64 (x_ * y)))) (mkT2 ⟨rfl, (inK_wrap .u64 _)⟩ ⟨rfl, (inK_wrap .u64 _)⟩) (Option.some.inj hm)

end Go.Fx



set_option linter.unusedVariables false
set_option linter.unusedSimpArgs false
set_option maxRecDepth 100000
set_option maxHeartbeats 0
namespace Go.Fx
open Go Go.RowKit Go.Proofs
def m64_bits_Mul (x_ : Int) (y : Int) : Option (Int × Int) :=
 (m74_bits_Mul64 x_ y).bind fun mul64_1 =>
 some (mul64_1.1, mul64_1.2)

theorem c64_bits_Mul {w : World} {O : List Nat} {x_ : Int} {y : Int} (hO : ∀ k ∈ O, k < w.heap.size) (r_x_ : InK .u64 x_) (r_y : InK .u64 y) {x : Int × Int} (hm : m64_bits_Mul x_ y = some x) :
  Ok Try.prog 64 [(Value.int .u64 x_), (Value.int .u64 y)] w O (vT2 (vI .u64) (vI .u64)) x := by
 unfold m64_bits_Mul at hm
 refine Fn_of_Wp (n := 30) (xs := [.tmp 4, .tmp 5]) Try.func64 rfl Try.ntmps64 Try.results64 rfl ?_
 have hs := St.start hO
 refine Wp_seq ?_
 refine Wp_region ?_
 refine Rg_op rfl (op_assign (v := (Value.int .u64 0)) rfl ?_)
 refine Rg_op rfl (op_assign (v := (Value.int .u64 0)) rfl ?_)
 refine Rg_nil ?_
 refine Wp_seq ?_
 refine Wp_cond_f rfl ?_
 refine Wp_skip ?_
 refine Wp_seq ?_
 refine Wp_region ?_
 refine Rg_op rfl (op_move (v := (Value.int .u64 x_)) rfl ?_)
 refine Rg_op rfl (op_move (v := (Value.int .u64 y)) rfl ?_)
 replace hm := bd hm; obtain ⟨mul64_1, hv1, hm⟩ := hm
 refine Rg_op rfl (op_call Try.call74 (c74_bits_Mul64 (x_ := x_) (y := y) hs.ltw r_x_ r_y hv1) rfl ?_)
 rintro v2 w3 ⟨hx4, h5⟩
 have hs6 := hs.call hx4
 have p7 := Step.ext (O := ks [] O) hx4
 clear hx4
 clear p7
 obtain ⟨v8, v9, rfl, h10, h11⟩ := h5
 obtain ⟨rfl, r_y12⟩ := h10
 obtain ⟨rfl, r_y13⟩ := h11
 refine Rg_op rfl (op_move (v := (Value.tuple [(Value.int .u64 mul64_1.1), (Value.int .u64 mul64_1.2)].toArray)) rfl ?_)
 refine Rg_op rfl (op_extract (v := (Value.int .u64 mul64_1.1)) rfl rfl ?_)
 refine Rg_op rfl (op_extract (v := (Value.int .u64 mul64_1.2)) rfl rfl ?_)
 refine Rg_op rfl (op_assign (v := (Value.int .u64 mul64_1.1)) rfl ?_)
 refine Rg_op rfl (op_assign (v := (Value.int .u64 mul64_1.2)) rfl ?_)
 refine Rg_nil ?_
 refine Wp_seq ?_
 refine Wp_region ?_
 refine Rg_op rfl (op_move (v := (Value.int .u64 mul64_1.1)) rfl ?_)
 refine Rg_op rfl (op_move (v := (Value.int .u64 mul64_1.2)) rfl ?_)
 refine Rg_op rfl (op_assign (v := (Value.int .u64 mul64_1.1)) rfl ?_)
 refine Rg_op rfl (op_assign (v := (Value.int .u64 mul64_1.2)) rfl ?_)
 refine Rg_nil ?_
 refine Wp_ret ?_
 have hz := step_all hs6
 refine ⟨_, (show Closes [] _ _ from rfl), [(Value.int .u64 mul64_1.1), (Value.int .u64 mul64_1.2)], ⟨rfl, rfl, trivial⟩, hs6.ext, ?_⟩
 exact Vr.eq (a := (vT2 (vI .u64) (vI .u64))) (x := (mul64_1.1, mul64_1.2)) (mkT2 ⟨rfl, r_y12⟩ ⟨rfl, r_y13⟩) (Option.some.inj hm)

end Go.Fx



set_option linter.unusedVariables false
set_option linter.unusedSimpArgs false
set_option maxRecDepth 100000
set_option maxHeartbeats 0
namespace Go.Fx
open Go Go.RowKit Go.Proofs
def m41_slices_Repeatbyte_byte__B0 (sf43 : (List (List UInt8)) → Int → Option (List (List UInt8))) (newslice_1 : List (List UInt8)) (n_1 : Int) : Option (List (List UInt8)) :=
 bif (decide (n_1 < (newslice_1.length : Int))) then
  ck ((0 : Int) ≤ n_1 ∧ n_1 < (newslice_1.length : Int) ∧ (newslice_1.length : Int) ≤ (newslice_1.length : Int)) <|
  ck ((0 : Int) ≤ (0 : Int) ∧ (0 : Int) < n_1 ∧ n_1 ≤ (newslice_1.length : Int)) <|
  ck (n_1.toNat < newslice_1.length) <|
  sf43 (newslice_1.take n_1.toNat ++ (((newslice_1.drop 0).take (n_1.toNat - 0)).take (newslice_1.length - n_1.toNat) ++ (newslice_1.drop n_1.toNat).drop (min ((newslice_1.drop 0).take (n_1.toNat - 0)).length (newslice_1.length - n_1.toNat)))) (IntKind.wrap .i64 (n_1 + ((min ((newslice_1.drop 0).take (n_1.toNat - 0)).length (newslice_1.length - n_1.toNat) : Nat) : Int)))
 else
  some newslice_1

def m41_slices_Repeatbyte_byte_ (x_ : List (List UInt8)) (count : Int) : Option (List (List UInt8)) :=
 bif (decide (count < 0)) then
  none
 else
  (m64_bits_Mul (IntKind.wrap .u64 (x_.length : Int)) (IntKind.wrap .u64 count)).bind fun mul_1 =>
  jn (fun (v_1 : Bool) =>
   bif v_1 then
    none
   else
    ck ((0 : Int) ≤ (IntKind.wrap .i64 mul_1.2) ∧ (IntKind.wrap .i64 mul_1.2) ≤ (IntKind.wrap .i64 mul_1.2) ∧ (24 : Int) * (IntKind.wrap .i64 mul_1.2) ≤ 281474976710656 ∧ (IntKind.wrap .i64 mul_1.2) ≤ 281474976710656) <|
    ck (0 < (List.replicate (IntKind.wrap .i64 mul_1.2).toNat ([] : List UInt8)).length) <|
    loop2 m41_slices_Repeatbyte_byte__B0 (1000000) (x_.take (List.replicate (IntKind.wrap .i64 mul_1.2).toNat ([] : List UInt8)).length ++ (List.replicate (IntKind.wrap .i64 mul_1.2).toNat ([] : List UInt8)).drop x_.length) ((min x_.length (List.replicate (IntKind.wrap .i64 mul_1.2).toNat ([] : List UInt8)).length : Nat) : Int))
  (fun k18 =>
   bif (decide (0 < mul_1.1)) then
    k18 true
   else
    k18 (decide (9223372036854775807 < mul_1.2)))

theorem g41_slices_Repeatbyte_byte_ {w : World} {O : List Nat} {x_ : List (List UInt8)} {count : Int} {a_x_ : Option Addr} {c_x_ : Nat} (hO : ∀ k ∈ O, k < w.heap.size) (f_x_ : SlR (rSl rU8) w O a_x_ c_x_ x_) (r_count : InK .i64 count) {x : (List (List UInt8))} (hm : m41_slices_Repeatbyte_byte_ x_ count = some x) :
  OkG Try.prog 41 [(Value.slice a_x_ x_.length c_x_), (Value.int .i64 count)] w O (rSl rU8) 41 x := by
 unfold m41_slices_Repeatbyte_byte_ at hm
 refine Fn_of_Wp (n := 48) (xs := [.tmp 4]) Try.func41 rfl Try.ntmps41 Try.results41 rfl ?_
 have hs := St.start hO
 refine Wp_seq ?_
 refine Wp_region ?_
 refine Rg_op rfl (op_assign (v := (Value.slice none 0 0)) rfl ?_)
 refine Rg_nil ?_
 refine Wp_seq ?_
 refine Wp_seq ?_
 refine Wp_region ?_
 refine Rg_op rfl (op_move (v := (Value.int .i64 count)) rfl ?_)
 refine Rg_op rfl (op_lss rfl rfl ?_)
 refine Rg_nil ?_
 refine Wp_cond rfl (fun hc1 => ?_) (fun hc1 => ?_)
 ·
  replace hm := bif_t hm hc1
  refine Wp_region ?_
  cases hm
 ·
  replace hm := bif_f hm hc1
  refine Wp_skip ?_
  refine Wp_seq ?_
  refine Wp_region ?_
  refine Rg_op rfl (op_move (v := (Value.slice a_x_ x_.length c_x_)) rfl ?_)
  refine Rg_op rfl (op_len Try.underlying22 rfl ?_)
  have rl2 := inK_len f_x_
  refine Rg_op rfl (op_conv Try.underlying3 Try.underlying65 rfl ?_)
  refine Rg_op rfl (op_move (v := (Value.int .i64 count)) rfl ?_)
  refine Rg_op rfl (op_conv Try.underlying3 Try.underlying65 rfl ?_)
  replace hm := bd hm; obtain ⟨mul_1, hv3, hm⟩ := hm
  refine Rg_op rfl (op_call Try.call64 (c64_bits_Mul (x_ := (IntKind.wrap .u64 (x_.length : Int))) (y := (IntKind.wrap .u64 count)) hs.ltw (inK_wrap .u64 _) (inK_wrap .u64 _) hv3) rfl ?_)
  rintro v4 w5 ⟨hx6, h7⟩
  have hs8 := hs.call hx6
  have p9 := Step.ext (O := ks [] O) hx6
  clear hx6
  replace f_x_ := f_x_.step p9; clear p9
  obtain ⟨v10, v11, rfl, h12, h13⟩ := h7
  obtain ⟨rfl, r_y14⟩ := h12
  obtain ⟨rfl, r_y15⟩ := h13
  refine Rg_op rfl (op_move (v := (Value.tuple [(Value.int .u64 mul_1.1), (Value.int .u64 mul_1.2)].toArray)) rfl ?_)
  refine Rg_op rfl (op_extract (v := (Value.int .u64 mul_1.1)) rfl rfl ?_)
  refine Rg_op rfl (op_extract (v := (Value.int .u64 mul_1.2)) rfl rfl ?_)
  refine Rg_op rfl (op_assign (v := (Value.int .u64 mul_1.1)) rfl ?_)
  refine Rg_op rfl (op_assign (v := (Value.int .u64 mul_1.2)) rfl ?_)
  refine Rg_nil ?_
  refine Wp_seq ?_
  refine Wp_reset [] [(0, (Value.slice a_x_ x_.length c_x_)), (5, (Value.int .u64 mul_1.1)), (6, (Value.int .u64 mul_1.2))] rfl ⟨rfl, rfl, rfl, trivial⟩ fun ξ16 => ?_
  replace hm := jn_elim hm; obtain ⟨k18, hk19, hm⟩ := hm
  refine Wp_seqJ [21, 22, 23, 24, 25, 26] (fun fr w' => ∃ (v_1 : Bool) (Ebs : Ents), Ebs = [] ∧ fr [] [(26, (Value.bool v_1))] ∧ Step (ks [] O) w5 (ks Ebs O) w' ∧ St ⟨w, [], []⟩ O w' Ebs ∧ k18 v_1 = some x) ?_ ?_
  ·
   rintro ρ25 w21 ⟨v_1, Ebs, hEbs, hfr24, hst23, hs22, hm⟩
   replace hm := jnE1 hk19 hm
   subst hEbs; rw [hfr24.eq]; clear hfr24
   replace f_x_ := f_x_.step hst23; clear hst23 hs8
   refine Wp_cond rfl (fun hc26 => ?_) (fun hc26 => ?_)
   ·
    replace hm := bif_t hm hc26
    refine Wp_region ?_
    cases hm
   ·
    replace hm := bif_f hm hc26
    refine Wp_skip ?_
    refine Wp_seq ?_
    refine Wp_region ?_
    refine Rg_op rfl (op_move (v := (Value.int .u64 mul_1.2)) rfl ?_)
    refine Rg_op rfl (op_conv Try.underlying65 Try.underlying3 rfl ?_)
    replace hm := ck_some hm; obtain ⟨hc27, hm⟩ := hm
    refine Rg_op rfl (op_makeSliceI (q := (rSl rU8)) (v := (Value.slice none 0 0)) (x0 := ([] : List UInt8)) ty22 ty41 hs22 rfl rfl hc27 rfl (fun _ _ => (mk_sl SlR.nil_)) ?_)
    intro b28 w29 hx33 p30 hs31 f32
    replace f_x_ := f_x_.step p30; clear p30 hs22
    refine Rg_op rfl (op_assign (v := (Value.slice (some ⟨b28, 0, none⟩) (List.replicate (IntKind.wrap .i64 mul_1.2).toNat ([] : List UInt8)).length ((IntKind.wrap .i64 mul_1.2).toNat))) rfl ?_)
    refine Rg_nil ?_
    refine Wp_seq ?_
    refine Wp_region ?_
    refine Rg_op rfl (op_move (v := (Value.slice (some ⟨b28, 0, none⟩) (List.replicate (IntKind.wrap .i64 mul_1.2).toNat ([] : List UInt8)).length ((IntKind.wrap .i64 mul_1.2).toNat))) rfl ?_)
    refine Rg_op rfl (op_move (v := (Value.slice a_x_ x_.length c_x_)) rfl ?_)
    replace hm := ck_some hm; obtain ⟨hc35, hm⟩ := hm
    refine Rg_op rfl (op_copyG (p := (rSl rU8)) (i := 0) ty22 ty41 rfl hs31 rfl rfl f32 rfl f_x_ hc35 ?_)
    intro o39 w36 p37 hs38 f40
    replace f_x_ := f_x_.step p37; clear p37 hs31
    refine Rg_op rfl (op_assign (v := (Value.int .i64 ((min x_.length (List.replicate (IntKind.wrap .i64 mul_1.2).toNat ([] : List UInt8)).length : Nat) : Int))) rfl ?_)
    refine Rg_nil ?_
    refine Wp_seq ?_
    refine Wp_block ?_
    refine Wp_loopM [7, 8, 34, 35, 36, 37, 38, 39, 40, 41, 42, 43, 44, 45, 46] (fun m fr w' => ∃ (newslice_1 : List (List UInt8)) (n_1 : Int) (a_g41 : Option Addr) (c_g41 : Nat) (k_g41 : Option Nat) (o_g41 : Obj) (Ebs : Ents), Ebs = [(k_g41, o_g41)] ∧ fr [] [(7, (Value.slice a_g41 newslice_1.length c_g41)), (8, (Value.int .i64 n_1))] ∧ Step (ks [(some b28, o39)] O) w36 (ks Ebs O) w' ∧ St ⟨w, [], []⟩ O w' Ebs ∧ Gs (rSl rU8) 41 w' (ks Ebs O) a_g41 c_g41 newslice_1 k_g41 o_g41 ∧ InK .i64 n_1 ∧ loop2 m41_slices_Repeatbyte_byte__B0 m newslice_1 n_1 = some x) (1000000) ⟨(x_.take (List.replicate (IntKind.wrap .i64 mul_1.2).toNat ([] : List UInt8)).length ++ (List.replicate (IntKind.wrap .i64 mul_1.2).toNat ([] : List UInt8)).drop x_.length), ((min x_.length (List.replicate (IntKind.wrap .i64 mul_1.2).toNat ([] : List UInt8)).length : Nat) : Int), (some ⟨b28, 0, none⟩), (IntKind.wrap .i64 mul_1.2).toNat, (some b28), o39, _, rfl, ⟨Out.refl _ _, rfl, (eqlenV (show (List.replicate (IntKind.wrap .i64 mul_1.2).toNat ([] : List UInt8)).length = (x_.take (List.replicate (IntKind.wrap .i64 mul_1.2).toNat ([] : List UInt8)).length ++ (List.replicate (IntKind.wrap .i64 mul_1.2).toNat ([] : List UInt8)).drop x_.length).length from by first | (simp; done) | (simp; omega))), rfl, trivial⟩, Step.refl _ _, hs38, f40, (inK_minlen f_x_), hm⟩ ?_ ?_
    · rintro _ _ ⟨_, _, _, _, _, _, _, _, _, _, _, _, _, hm⟩; exact loop2_z hm
    ·
     rintro m46 K45 hK45 ρ51 w47 ⟨newslice_1, n_1, a_g41, c_g41, k_g41, o_g41, Ebs, hEbs, hfr50, hst49, hs48, f_g41, r_y42, hm⟩
     obtain ⟨sf43, hsf44, hm⟩ := loop2_s hm; unfold m41_slices_Repeatbyte_byte__B0 at hm
     subst hEbs; rw [hfr50.eq]; clear hfr50
     replace f_x_ := f_x_.step hst49; replace f40 := f40.step hst49
     have ch52 := hst49
     refine Wp_seq ?_
     refine Wp_seq ?_
     clear f_x_ f40
     refine Wp_region ?_
     refine Rg_op rfl (op_move (v := (Value.int .i64 n_1)) rfl ?_)
     refine Rg_op rfl (op_move (v := (Value.slice a_g41 newslice_1.length c_g41)) rfl ?_)
     refine Rg_op rfl (op_len Try.underlying22 rfl ?_)
     have rl53 := inK_lenG f_g41
     refine Rg_op rfl (op_lss rfl rfl ?_)
     refine Rg_nil ?_
     refine Wp_cond rfl (fun hc54 => ?_) (fun hc54 => ?_)
     ·
      replace hm := bif_t hm hc54
      refine Wp_skip ?_
      refine Wp_block ?_
      refine Wp_drawR (g0 := []) (m := 7) (fl := [0]) (TS_inv hs48) rfl (.inl rfl) rfl (by decide +kernel) ?_  -- 9
      refine Dw_eq (Value.int .i64 n_1) (fun ρ55 w56 g hle hi ht => ?_) ?_
      ·
       obtain ⟨-, hst, -⟩ := hle
       refine StepOp_plain (op_move (v := (Value.int .i64 n_1)) (ht 8 rfl) ?_)
       exact Goes.same hi rfl
      refine Dw_eq (Value.slice a_g41 newslice_1.length c_g41) (fun ρ58 w59 g hle hi ht => ?_) ?_
      ·
       obtain ⟨-, hst, -⟩ := hle
       refine StepOp_plain (op_move (v := (Value.slice a_g41 newslice_1.length c_g41)) (ht 7 rfl) ?_)
       exact Goes.same hi rfl
      refine Dw_eq (Value.int .i64 n_1) (fun ρ61 w62 g hle hi ht => ?_) ?_
      ·
       obtain ⟨-, hst, -⟩ := hle
       refine StepOp_plain (op_move (v := (Value.int .i64 n_1)) (ht 8 rfl) ?_)
       exact Goes.same hi rfl
      replace hm := ck_some hm; obtain ⟨hc67, hm⟩ := hm
      obtain ⟨b68, rfl, rfl⟩ := f_g41.at_ (by omega)
      refine Dw_eq (Value.slice (some ⟨b68, if c_g41 = n_1.toNat then 0 else 0 + n_1.toNat * 1, none⟩) (newslice_1.length - n_1.toNat) (c_g41 - n_1.toNat)) (fun ρ64 w65 g hle hi ht => ?_) ?_
      ·
       obtain ⟨-, hst, -⟩ := hle
       replace f_g41 := f_g41.step hst
       refine StepOp_plain (op_sliceO (l := n_1.toNat) (h := newslice_1.length) (m := c_g41) ty22 ty41 (ht 39 rfl) (bndI (ht 40 rfl) (by omega)) rfl rfl (by decide) (by omega) (by have := f_g41.le; omega) (Nat.le_refl _) ?_)
       exact Goes.same hi rfl
      refine Dw_eq (Value.slice (some ⟨b68, 0, none⟩) newslice_1.length c_g41) (fun ρ69 w70 g hle hi ht => ?_) ?_
      ·
       obtain ⟨-, hst, -⟩ := hle
       refine StepOp_plain (op_move (v := (Value.slice (some ⟨b68, 0, none⟩) newslice_1.length c_g41)) (ht 7 rfl) ?_)
       exact Goes.same hi rfl
      refine Dw_eq (Value.int .i64 n_1) (fun ρ72 w73 g hle hi ht => ?_) ?_
      ·
       obtain ⟨-, hst, -⟩ := hle
       refine StepOp_plain (op_move (v := (Value.int .i64 n_1)) (ht 8 rfl) ?_)
       exact Goes.same hi rfl
      replace hm := ck_some hm; obtain ⟨hc78, hm⟩ := hm
      refine Dw_eq (Value.slice (some ⟨b68, if c_g41 = 0 then 0 else 0 + 0 * 1, none⟩) (n_1.toNat - 0) (c_g41 - 0)) (fun ρ75 w76 g hle hi ht => ?_) ?_
      ·
       obtain ⟨-, hst, -⟩ := hle
       replace f_g41 := f_g41.step hst
       refine StepOp_plain (op_sliceO (l := 0) (h := n_1.toNat) (m := c_g41) ty22 ty41 (ht 42 rfl) rfl (bndI (ht 43 rfl) (by omega)) rfl (by decide) (by omega) (by have := f_g41.le; omega) (Nat.le_refl _) ?_)
       exact Goes.same hi rfl
      refine Dw_nil fun w83 g84 hl85 hi86 => ?_
      obtain ⟨-, hst87, -⟩ := hl85
      obtain ⟨hs89, p88⟩ := Step.nx hi86
      rintro _ rfl
      rintro _ rfl
      rintro _ rfl
      rintro _ rfl
      rintro _ rfl
      rintro _ rfl
      rintro _ rfl
      have p90 : Step (ks [(some b68, o_g41)] O) w47 (ks [(some b68, o_g41)] O) w83 := hst87.trans p88
      replace f_g41 := f_g41.step p90; replace ch52 := ch52.trans p90; clear p90 hs48
      replace hm := ck_some hm; obtain ⟨hc91, hm⟩ := hm
      obtain ⟨ns92, he93, hr94⟩ := Gs.win (i := 0) (l := 0) (h := n_1.toNat) rfl hs89 rfl f_g41 (by omega) (by omega)
      refine Rg_op rfl (op_copyW (p := (rSl rU8)) (xs := newslice_1) (i := 0) (l := n_1.toNat) (h := newslice_1.length) ty22 ty41 rfl hs89 rfl rfl f_g41 (eqlen rfl (show n_1.toNat - 0 = ((newslice_1.drop 0).take (n_1.toNat - 0)).length from by simp; omega)) he93 hr94 hc91 (by omega) ?_)
      intro o98 w95 p96 hs97 f99
      replace ch52 := ch52.trans p96; clear p96 hs89
      have r100 : InK .i64 ((min ((newslice_1.drop 0).take (n_1.toNat - 0)).length (newslice_1.length - n_1.toNat) : Nat) : Int) := inK_of (by have := f99.le; have hm : maxLen = 9223372036854775807 := rfl; simp at this ⊢; omega)
      refine Rg_op rfl (op_addw rfl rfl ?_)
      refine Rg_op rfl (op_assign (v := (Value.int .i64 (IntKind.wrap .i64 (n_1 + ((min ((newslice_1.drop 0).take (n_1.toNat - 0)).length (newslice_1.length - n_1.toNat) : Nat) : Int))))) rfl ?_)
      refine Rg_nil ?_
      exact hK45 _ _ ⟨(newslice_1.take n_1.toNat ++ (((newslice_1.drop 0).take (n_1.toNat - 0)).take (newslice_1.length - n_1.toNat) ++ (newslice_1.drop n_1.toNat).drop (min ((newslice_1.drop 0).take (n_1.toNat - 0)).length (newslice_1.length - n_1.toNat)))), (IntKind.wrap .i64 (n_1 + ((min ((newslice_1.drop 0).take (n_1.toNat - 0)).length (newslice_1.length - n_1.toNat) : Nat) : Int))), (some ⟨b68, 0, none⟩), c_g41, (some b68), o98, _, rfl, ⟨(by repeat (first | with_reducible exact Out.refl _ _ | refine Out.upd ?_ rfl | refine Out.updL ?_ rfl | refine Out.mix' ?_ rfl | exact Out.refl _ _)), rfl, (eqlenV (show newslice_1.length = (newslice_1.take n_1.toNat ++ (((newslice_1.drop 0).take (n_1.toNat - 0)).take (newslice_1.length - n_1.toNat) ++ (newslice_1.drop n_1.toNat).drop (min ((newslice_1.drop 0).take (n_1.toNat - 0)).length (newslice_1.length - n_1.toNat)))).length from by first | (simp; done) | (simp; omega))), rfl, trivial⟩, ch52, hs97, f99, (inK_wrap .i64 _), jnE2 hsf44 hm⟩
     ·
      replace hm := bif_f hm hc54
      refine Wp_exit ?_
      refine Wp_seq ?_
      refine Wp_region ?_
      refine Rg_op rfl (op_move (v := (Value.slice a_g41 newslice_1.length c_g41)) rfl ?_)
      refine Rg_op rfl (op_assign (v := (Value.slice a_g41 newslice_1.length c_g41)) rfl ?_)
      refine Rg_nil ?_
      refine Wp_ret ?_
      refine ⟨_, (show Closes [] _ _ from rfl), [(Value.slice a_g41 newslice_1.length c_g41)], ⟨rfl, trivial⟩, hs48.ext, ?_⟩
      exact OkG.mk (i := 0) hs48 rfl f_g41 (Option.some.inj hm)
  ·
   intro K20 hK20
   have ch101 := Step.refl (ks [] O) w5
   refine Wp_region ?_
   refine Rg_op rfl (op_move (v := (Value.int .u64 mul_1.1)) rfl ?_)
   refine Rg_op rfl (op_gtr rfl rfl ?_)
   refine Rg_op rfl (op_move (v := (Value.bool (decide (0 < mul_1.1)))) rfl ?_)
   refine Rg_case (fun hg102 => ?_) (fun hg102 => ?_)
   ·
    replace hm := bif_t hm hg102
    iterate 2 refine Rg_opx rfl (asB_ne rfl rfl) rfl ?_
    refine Rg_op rfl (op_pick_t (v := (Value.bool true)) rfl rfl ?_)
    refine Rg_nil ?_
    exact hK20 _ _ ⟨true, _, rfl, ⟨(by repeat (first | with_reducible exact Out.refl _ _ | refine Out.upd ?_ rfl | refine Out.updL ?_ rfl | refine Out.mix' ?_ rfl | exact Out.refl _ _)), rfl, rfl, trivial⟩, ch101, hs8, hm⟩
   ·
    replace hm := bif_f hm hg102
    refine Rg_opg rfl rfl rfl (op_move (v := (Value.int .u64 mul_1.2)) rfl ?_)
    refine Rg_opg rfl rfl rfl (op_gtr rfl rfl ?_)
    refine Rg_op rfl (op_pick_f (v := (Value.bool (decide (9223372036854775807 < mul_1.2)))) rfl rfl ?_)
    refine Rg_nil ?_
    exact hK20 _ _ ⟨(decide (9223372036854775807 < mul_1.2)), _, rfl, ⟨(by repeat (first | with_reducible exact Out.refl _ _ | refine Out.upd ?_ rfl | refine Out.updL ?_ rfl | refine Out.mix' ?_ rfl | exact Out.refl _ _)), rfl, rfl, trivial⟩, ch101, hs8, hm⟩
end Go.Fx



set_option linter.unusedVariables false
set_option linter.unusedSimpArgs false
set_option maxRecDepth 100000
set_option maxHeartbeats 0
namespace Go.Fx
open Go Go.RowKit Go.Proofs
def m15_disk_New (sectors : Int) : Option (XDisk × Int) :=
 jn (fun (v_1 : Bool) =>
  bif v_1 then
   some ((⟨([] : List (List UInt8)), ([] : List XWrite), 0, false⟩ : XDisk), 1)
  else
   ck ((0 : Int) ≤ (128 : Int) ∧ (128 : Int) ≤ (128 : Int) ∧ (1 : Int) * 128 ≤ 281474976710656 ∧ (128 : Int) ≤ 281474976710656) <|
   (m41_slices_Repeatbyte_byte_ [(List.replicate 128 (0 : UInt8))] sectors).bind fun repeat_1 =>
   some ((⟨repeat_1, ([] : List XWrite), (-1), false⟩ : XDisk), 0))
 (fun k8 =>
  bif (decide (sectors < 1)) then
   k8 true
  else
   k8 (decide (4096 < sectors)))

theorem c15_disk_New {w : World} {O : List Nat} {sectors : Int} (hO : ∀ k ∈ O, k < w.heap.size) (r_sectors : InK .i64 sectors) {x : XDisk × Int} (hm : m15_disk_New sectors = some x) :
  Ok Try.prog 15 [(Value.int .i64 sectors)] w O (vT2 (vA rXDisk) (vI .i64)) x := by
 unfold m15_disk_New at hm
 refine Fn_of_Wp (n := 18) (xs := [.cell 2 25, .tmp 3]) Try.func15 rfl Try.ntmps15 Try.results15 rfl ?_
 have hs := St.start hO
 refine Wp_seq ?_
 refine Wp_region ?_
 refine Rg_op rfl (op_alloc ty25 hs ?_)
 intro b1 w2 _ p3 hs4
 clear p3
 refine Rg_op rfl (op_assign (v := (Value.int .i64 0)) rfl ?_)
 refine Rg_nil ?_
 refine Wp_seq ?_
 refine Wp_reset [] [(0, (Value.int .i64 sectors)), (2, (Value.pointer (some ⟨b1, 0, none⟩)))] rfl ⟨rfl, rfl, trivial⟩ fun ξ6 => ?_
 replace hm := jn_elim hm; obtain ⟨k8, hk9, hm⟩ := hm
 refine Wp_seqJ [5, 6, 7, 8, 9, 10] (fun fr w' => ∃ (v_1 : Bool) (Ebs : Ents), Ebs = [(some b1, Obj.cells [(Value.slice none 0 0), (Value.slice none 0 0), (Value.int .i64 0), (Value.bool false)].toArray 25)] ∧ fr [] [(10, (Value.bool v_1))] ∧ Step (ks [(some b1, Obj.cells [(Value.slice none 0 0), (Value.slice none 0 0), (Value.int .i64 0), (Value.bool false)].toArray 25)] O) w2 (ks Ebs O) w' ∧ St ⟨w, [], []⟩ O w' Ebs ∧ k8 v_1 = some x) ?_ ?_
 ·
  rintro ρ15 w11 ⟨v_1, Ebs, hEbs, hfr14, hst13, hs12, hm⟩
  replace hm := jnE1 hk9 hm
  subst hEbs; rw [hfr14.eq]; clear hfr14
  clear hst13 hs4
  refine Wp_cond rfl (fun hc16 => ?_) (fun hc16 => ?_)
  ·
   replace hm := bif_t hm hc16
   refine Wp_seq ?_
   refine Wp_region ?_
   refine Rg_op rfl (op_loadA (cs := [(Value.slice none 0 0), (Value.slice none 0 0), (Value.int .i64 0), (Value.bool false)]) (vs := [(Value.slice none 0 0), (Value.slice none 0 0), (Value.int .i64 0), (Value.bool false)]) (i := 0) ty25 hs12 rfl rfl rfl rfl ?_)
   refine Rg_op_ (op_store (cs := [(Value.slice none 0 0), (Value.slice none 0 0), (Value.int .i64 0), (Value.bool false)]) (vs := [(Value.slice none 0 0), (Value.slice none 0 0), (Value.int .i64 0), (Value.bool false)]) (cs' := [(Value.slice none 0 0), (Value.slice none 0 0), (Value.int .i64 0), (Value.bool false)]) (bs' := [(some b1, Obj.cells [(Value.slice none 0 0), (Value.slice none 0 0), (Value.int .i64 0), (Value.bool false)].toArray 25)]) (i := 0) ty25 hs12 rfl rfl rfl rfl rfl (le_lit rfl) rfl rfl rfl ?_)
   intro w17 p18 hs19
   clear p18 hs12
   refine Rg_op rfl (op_assign (v := (Value.int .i64 1)) rfl ?_)
   refine Rg_nil ?_
   refine Wp_ret ?_
   have hz := step_all hs19
   refine ⟨_, (show Closes [] _ _ from rfl), [(Value.agg [(Value.slice none 0 0), (Value.slice none 0 0), (Value.int .i64 0), (Value.bool false)].toArray), (Value.int .i64 1)], ⟨resA (cs := [(Value.slice none 0 0), (Value.slice none 0 0), (Value.int .i64 0), (Value.bool false)]) (vs := [(Value.slice none 0 0), (Value.slice none 0 0), (Value.int .i64 0), (Value.bool false)]) ty25 (i := 0) hs19 rfl rfl rfl rfl, rfl, trivial⟩, hs19.ext, ?_⟩
   exact Vr.eq (a := (vT2 (vA rXDisk) (vI .i64))) (x := ((⟨([] : List (List UInt8)), ([] : List XWrite), 0, false⟩ : XDisk), 1)) (mkT2 (mkA (mkVia (mk_pair (mk_sl SlR.nil_) (mk_pair (mk_sl SlR.nil_) (mk_pair (mk_int (show InK .i64 0 from by decide)) mkBool))))) ⟨rfl, (show InK .i64 1 from by decide)⟩) (Option.some.inj hm)
  ·
   replace hm := bif_f hm hc16
   refine Wp_skip ?_
   refine Wp_seq ?_
   refine Wp_region ?_
   replace hm := ck_some hm; obtain ⟨hc20, hm⟩ := hm
   refine Rg_op rfl (op_makeSliceI (q := rU8) (v := (Value.int .u8 0)) (x0 := (0 : UInt8)) ty41 ty5 hs12 rfl rfl hc20 rfl (fun _ _ => (mk_u8 (show InK .u8 0 from by decide))) ?_)
   intro b21 w22 hx26 p23 hs24 f25
   clear p23 hs12
   refine Rg_op rfl (op_assign (v := (Value.slice (some ⟨b21, 0, none⟩) (List.replicate 128 (0 : UInt8)).length 128)) rfl ?_)
   refine Rg_nil ?_
   refine Wp_seq ?_
   refine Wp_region ?_
   refine Rg_op rfl (op_move (v := (Value.slice (some ⟨b21, 0, none⟩) (List.replicate 128 (0 : UInt8)).length 128)) rfl ?_)
   obtain ⟨hs29, p30, f28⟩ := Gs.publish (i := 0) hs24 rfl f25
   clear p30 hs24
   refine Rg_op rfl (op_buildSlice (cs := [(Value.slice (some ⟨b21, 0, none⟩) (List.replicate 128 (0 : UInt8)).length 128)]) (parts := [(0, .tmp 13)]) ty22 ty41 hs29 (by decide) rfl ?_)
   intro b31 w32 hx35 p33 hs34
   replace f28 := f28.step p33; clear p33 hs29
   refine Rg_op rfl (op_move (v := (Value.int .i64 sectors)) rfl ?_)
   obtain ⟨hs38, p39, f37⟩ := St.publish (i := 0) (o := 0) (c := 1) (xs := [(List.replicate 128 (0 : UInt8))]) hs34 rfl (show Els (rSl rU8) _ _ [(Value.slice (some ⟨b21, 0, none⟩) (List.replicate 128 (0 : UInt8)).length 128)] [(List.replicate 128 (0 : UInt8))] from ⟨_, _, rfl, (mk_sl f28), Els.nil⟩) (le_lit rfl) (le_lit rfl) (le_lit rfl)
   replace f28 := f28.step p39; clear p39 hs34
   replace hm := bd hm; obtain ⟨repeat_1, hv40, hm⟩ := hm
   refine Rg_op rfl (op_call Try.call41 (g41_slices_Repeatbyte_byte_ (x_ := [(List.replicate 128 (0 : UInt8))]) (count := sectors) hs38.ltw f37 r_sectors hv40) rfl ?_)
   rintro _ w42 ⟨hx43, a46, c47, k48, o49, rfl, hk50, f51⟩
   obtain ⟨hs45, p52⟩ := hs38.callG (o := o49) hx43 hk50
   rw [← ks_cons (o := o49)] at f51
   replace f28 := f28.step p52; replace f37 := f37.step p52; clear p52 hs38
   refine Rg_op rfl (op_build (vs := [(Value.slice a46 repeat_1.length c47), (Value.slice none 0 0), (Value.int .i64 (-1)), (Value.bool false)]) (parts := [(0, .tmp 16), (2, .const (.int .i64 (-1)))]) ty25 pl25 rfl ?_)
   refine Rg_op_ (op_store (cs := [(Value.slice none 0 0), (Value.slice none 0 0), (Value.int .i64 0), (Value.bool false)]) (vs := [(Value.slice a46 repeat_1.length c47), (Value.slice none 0 0), (Value.int .i64 (-1)), (Value.bool false)]) (cs' := [(Value.slice a46 repeat_1.length c47), (Value.slice none 0 0), (Value.int .i64 (-1)), (Value.bool false)]) (bs' := [(k48, o49), (some b1, Obj.cells [(Value.slice a46 repeat_1.length c47), (Value.slice none 0 0), (Value.int .i64 (-1)), (Value.bool false)].toArray 25)]) (i := 1) ty25 hs45 rfl rfl rfl rfl rfl (le_lit rfl) rfl rfl rfl ?_)
   intro w54 p55 hs56
   replace f28 := f28.step p55; replace f37 := f37.step p55; replace f51 := f51.step p55; clear p55 hs45
   refine Rg_op rfl (op_assign (v := (Value.int .i64 0)) rfl ?_)
   refine Rg_nil ?_
   refine Wp_ret ?_
   obtain ⟨hs58, p59, f57⟩ := Gs.publish (i := 0) hs56 rfl f51
   replace f28 := f28.step p59; replace f37 := f37.step p59; clear p59 hs56
   have hz := step_all hs58
   replace f28 := f28.step hz; replace f37 := f37.step hz; replace f57 := f57.step hz
   refine ⟨_, (show Closes [] _ _ from rfl), [(Value.agg [(Value.slice a46 repeat_1.length c47), (Value.slice none 0 0), (Value.int .i64 (-1)), (Value.bool false)].toArray), (Value.int .i64 0)], ⟨resA (cs := [(Value.slice a46 repeat_1.length c47), (Value.slice none 0 0), (Value.int .i64 (-1)), (Value.bool false)]) (vs := [(Value.slice a46 repeat_1.length c47), (Value.slice none 0 0), (Value.int .i64 (-1)), (Value.bool false)]) ty25 (i := 0) hs58 rfl rfl rfl rfl, rfl, trivial⟩, hs58.ext, ?_⟩
   exact Vr.eq (a := (vT2 (vA rXDisk) (vI .i64))) (x := ((⟨repeat_1, ([] : List XWrite), (-1), false⟩ : XDisk), 0)) (mkT2 (mkA (mkVia (mk_pair (mk_sl f57) (mk_pair (mk_sl SlR.nil_) (mk_pair (mk_int (show InK .i64 (-1) from by decide)) mkBool))))) ⟨rfl, (show InK .i64 0 from by decide)⟩) (Option.some.inj hm)
 ·
  intro K10 hK10
  have ch60 := Step.refl (ks [(some b1, Obj.cells [(Value.slice none 0 0), (Value.slice none 0 0), (Value.int .i64 0), (Value.bool false)].toArray 25)] O) w2
  refine Wp_region ?_
  refine Rg_op rfl (op_move (v := (Value.int .i64 sectors)) rfl ?_)
  refine Rg_op rfl (op_lss rfl rfl ?_)
  refine Rg_op rfl (op_move (v := (Value.bool (decide (sectors < 1)))) rfl ?_)
  refine Rg_case (fun hg61 => ?_) (fun hg61 => ?_)
  ·
   replace hm := bif_t hm hg61
   iterate 2 refine Rg_opx rfl (asB_ne rfl rfl) rfl ?_
   refine Rg_op rfl (op_pick_t (v := (Value.bool true)) rfl rfl ?_)
   refine Rg_nil ?_
   exact hK10 _ _ ⟨true, _, rfl, ⟨(by repeat (first | with_reducible exact Out.refl _ _ | refine Out.upd ?_ rfl | refine Out.updL ?_ rfl | refine Out.mix' ?_ rfl | exact Out.refl _ _)), rfl, rfl, trivial⟩, ch60, hs4, hm⟩
  ·
   replace hm := bif_f hm hg61
   refine Rg_opg rfl rfl rfl (op_move (v := (Value.int .i64 sectors)) rfl ?_)
   refine Rg_opg rfl rfl rfl (op_gtr rfl rfl ?_)
   refine Rg_op rfl (op_pick_f (v := (Value.bool (decide (4096 < sectors)))) rfl rfl ?_)
   refine Rg_nil ?_
   exact hK10 _ _ ⟨(decide (4096 < sectors)), _, rfl, ⟨(by repeat (first | with_reducible exact Out.refl _ _ | refine Out.upd ?_ rfl | refine Out.updL ?_ rfl | refine Out.mix' ?_ rfl | exact Out.refl _ _)), rfl, rfl, trivial⟩, ch60, hs4, hm⟩

end Go.Fx



set_option linter.unusedVariables false
set_option linter.unusedSimpArgs false
set_option maxRecDepth 100000
set_option maxHeartbeats 0
namespace Go.Fx
open Go Go.RowKit Go.Proofs
def m20_disk_Restart (d : XDisk) : Option XDisk :=
 some (⟨d.sectors, ([] : List XWrite), (-1), false⟩ : XDisk)

theorem c20_disk_Restart {w : World} {O : List Nat} {d : XDisk} {a_d_sectors : Option Addr} {c_d_sectors : Nat} {a_d_pending : Option Addr} {c_d_pending : Nat} (hO : ∀ k ∈ O, k < w.heap.size) (f_d_sectors : SlR (rSl rU8) w O a_d_sectors c_d_sectors d.sectors) (f_d_pending : SlR rXWrite w O a_d_pending c_d_pending d.pending) (r_d_left : InK .i64 d.left) {x : XDisk} (hm : m20_disk_Restart d = some x) :
  Ok Try.prog 20 [(Value.agg [(Value.slice a_d_sectors d.sectors.length c_d_sectors), (Value.slice a_d_pending d.pending.length c_d_pending), (Value.int .i64 d.left), (Value.bool d.stopped)].toArray)] w O (vA rXDisk) x := by
 unfold m20_disk_Restart at hm
 refine Fn_of_Wp (n := 6) (xs := [.cell 2 25]) Try.func20 rfl Try.ntmps20 Try.results20 rfl ?_
 have hs := St.start hO
 refine Wp_seq ?_
 refine Wp_region ?_
 refine Rg_op rfl (op_box (cs := [(Value.slice a_d_sectors d.sectors.length c_d_sectors), (Value.slice a_d_pending d.pending.length c_d_pending), (Value.int .i64 d.left), (Value.bool d.stopped)]) hs rfl rfl ?_)
 intro b1 w2 _ p3 hs4
 replace f_d_sectors := f_d_sectors.step p3; replace f_d_pending := f_d_pending.step p3; clear p3
 refine Rg_op rfl (op_alloc ty25 hs4 ?_)
 intro b6 w7 _ p8 hs9
 replace f_d_sectors := f_d_sectors.step p8; replace f_d_pending := f_d_pending.step p8; clear p8 hs4
 refine Rg_nil ?_
 refine Wp_seq ?_
 refine Wp_region ?_
 refine Rg_op rfl (op_fieldAddr ty25 rfl ty22 (by decide) rfl (rfl : _ = (⟨_, 0, none⟩ : Addr)) ?_)
 refine Rg_op rfl (op_load (cs := [(Value.slice a_d_sectors d.sectors.length c_d_sectors), (Value.slice a_d_pending d.pending.length c_d_pending), (Value.int .i64 d.left), (Value.bool d.stopped)]) (i := 1) ty22 hs9 rfl rfl rfl ?_)
 refine Rg_op rfl (op_build (vs := [(Value.slice a_d_sectors d.sectors.length c_d_sectors), (Value.slice none 0 0), (Value.int .i64 (-1)), (Value.bool false)]) (parts := [(0, .tmp 4), (2, .const (.int .i64 (-1)))]) ty25 pl25 rfl ?_)
 refine Rg_op_ (op_store (cs := [(Value.slice none 0 0), (Value.slice none 0 0), (Value.int .i64 0), (Value.bool false)]) (vs := [(Value.slice a_d_sectors d.sectors.length c_d_sectors), (Value.slice none 0 0), (Value.int .i64 (-1)), (Value.bool false)]) (cs' := [(Value.slice a_d_sectors d.sectors.length c_d_sectors), (Value.slice none 0 0), (Value.int .i64 (-1)), (Value.bool false)]) (bs' := [(some b6, Obj.cells [(Value.slice a_d_sectors d.sectors.length c_d_sectors), (Value.slice none 0 0), (Value.int .i64 (-1)), (Value.bool false)].toArray 25), (some b1, Obj.cells [(Value.slice a_d_sectors d.sectors.length c_d_sectors), (Value.slice a_d_pending d.pending.length c_d_pending), (Value.int .i64 d.left), (Value.bool d.stopped)].toArray 25)]) (i := 0) ty25 hs9 rfl rfl rfl rfl rfl (le_lit rfl) rfl rfl rfl ?_)
 intro w11 p12 hs13
 replace f_d_sectors := f_d_sectors.step p12; replace f_d_pending := f_d_pending.step p12; clear p12 hs9
 refine Rg_nil ?_
 refine Wp_ret ?_
 have hz := step_all hs13
 replace f_d_sectors := f_d_sectors.step hz; replace f_d_pending := f_d_pending.step hz
 refine ⟨_, (show Closes [] _ _ from rfl), [(Value.agg [(Value.slice a_d_sectors d.sectors.length c_d_sectors), (Value.slice none 0 0), (Value.int .i64 (-1)), (Value.bool false)].toArray)], ⟨resA (cs := [(Value.slice a_d_sectors d.sectors.length c_d_sectors), (Value.slice none 0 0), (Value.int .i64 (-1)), (Value.bool false)]) (vs := [(Value.slice a_d_sectors d.sectors.length c_d_sectors), (Value.slice none 0 0), (Value.int .i64 (-1)), (Value.bool false)]) ty25 (i := 0) hs13 rfl rfl rfl rfl, trivial⟩, hs13.ext, ?_⟩
 exact Vr.eq (a := (vA rXDisk)) (x := (⟨d.sectors, ([] : List XWrite), (-1), false⟩ : XDisk)) (mkA (mkVia (mk_pair (mk_sl f_d_sectors) (mk_pair (mk_sl SlR.nil_) (mk_pair (mk_int (show InK .i64 (-1) from by decide)) mkBool))))) (Option.some.inj hm)

end Go.Fx



set_option linter.unusedVariables false
set_option linter.unusedSimpArgs false
set_option maxRecDepth 100000
set_option maxHeartbeats 0
namespace Go.Fx
open Go Go.RowKit Go.Proofs
def m43_disk_isSector (b : List UInt8) : Option Bool :=
 some (decide ((b.length : Int) = 128))

theorem c43_disk_isSector {w : World} {O : List Nat} {b : List UInt8} {a_b : Option Addr} {c_b : Nat} (hO : ∀ k ∈ O, k < w.heap.size) (f_b : SlR rU8 w O a_b c_b b) {x : Bool} (hm : m43_disk_isSector b = some x) :
  Ok Try.prog 43 [(Value.slice a_b b.length c_b)] w O vB x := by
 unfold m43_disk_isSector at hm
 refine Fn_of_Wp (n := 6) (xs := [.tmp 2]) Try.func43 rfl Try.ntmps43 Try.results43 rfl ?_
 have hs := St.start hO
 refine Wp_seq ?_
 refine Wp_region ?_
 refine Rg_op rfl (op_assign (v := (Value.bool false)) rfl ?_)
 refine Rg_nil ?_
 refine Wp_seq ?_
 refine Wp_region ?_
 refine Rg_op rfl (op_move (v := (Value.slice a_b b.length c_b)) rfl ?_)
 refine Rg_op rfl (op_len Try.underlying41 rfl ?_)
 have rl1 := inK_len f_b
 refine Rg_op rfl (op_eql rfl rfl ?_)
 refine Rg_op rfl (op_assign (v := (Value.bool (decide ((b.length : Int) = 128)))) rfl ?_)
 refine Rg_nil ?_
 refine Wp_ret ?_
 have hz := step_all hs
 replace f_b := f_b.step hz
 refine ⟨_, (show Closes [] _ _ from rfl), [(Value.bool (decide ((b.length : Int) = 128)))], ⟨rfl, trivial⟩, hs.ext, ?_⟩
 exact Vr.eq (a := vB) (x := (decide ((b.length : Int) = 128))) rfl (Option.some.inj hm)

end Go.Fx



set_option linter.unusedVariables false
set_option linter.unusedSimpArgs false
set_option maxRecDepth 100000
set_option maxHeartbeats 0
namespace Go.Fx
open Go Go.RowKit Go.Proofs
def m42_disk_Check_1 (w_ : XWrite) (fv0_ : Int) : Option Bool :=
 bif (decide (w_.at_ < 0)) then
  some true
 else
  bif (decide (fv0_ ≤ w_.at_)) then
   some true
  else
   (m43_disk_isSector w_.data).bind fun issector_1 =>
   some (!issector_1)

theorem c42_disk_Check_1 {w : World} {O : List Nat} {w_ : XWrite} {fv0_ : Int} {a_w__data : Option Addr} {c_w__data : Nat} {p_fv0_ : Addr} (hO : ∀ k ∈ O, k < w.heap.size) (r_w__at_ : InK .i64 w_.at_) (f_w__data : SlR rU8 w O a_w__data c_w__data w_.data) (f_fv0_ : PtR (rInt .i64) w O p_fv0_ fv0_) {x : Bool} (hm : m42_disk_Check_1 w_ fv0_ = some x) :
  Ok Try.prog 42 [(Value.agg [(Value.int .i64 w_.at_), (Value.slice a_w__data w_.data.length c_w__data)].toArray), (Value.pointer (some p_fv0_))] w O vB x := by
 unfold m42_disk_Check_1 at hm
 refine Fn_of_Wp (n := 19) (xs := [.tmp 3]) Try.func42 rfl Try.ntmps42 Try.results42 rfl ?_
 have hs := St.start hO
 refine Wp_seq ?_
 refine Wp_region ?_
 refine Rg_op rfl (op_box (cs := [(Value.int .i64 w_.at_), (Value.slice a_w__data w_.data.length c_w__data)]) hs rfl rfl ?_)
 intro b1 w2 _ p3 hs4
 replace f_w__data := f_w__data.step p3; replace f_fv0_ := f_fv0_.step p3; clear p3
 refine Rg_op rfl (op_assign (v := (Value.bool false)) rfl ?_)
 refine Rg_nil ?_
 refine Wp_seq ?_
 refine Wp_region ?_
 refine Rg_op rfl (op_fieldAddr ty73 rfl ty3 (by decide) rfl (rfl : _ = (⟨_, 0, none⟩ : Addr)) ?_)
 refine Rg_op rfl (op_load (cs := [(Value.int .i64 w_.at_), (Value.slice a_w__data w_.data.length c_w__data)]) (i := 0) ty3 hs4 rfl rfl rfl ?_)
 refine Rg_op rfl (op_lss rfl rfl ?_)
 refine Rg_op rfl (op_move (v := (Value.bool (decide (w_.at_ < 0)))) rfl ?_)
 refine Rg_case (fun hg6 => ?_) (fun hg6 => ?_)
 ·
  replace hm := bif_t hm hg6
  iterate 4 refine Rg_opx rfl (asB_ne rfl rfl) rfl ?_
  refine Rg_op rfl (op_pick_t (v := (Value.bool true)) rfl rfl ?_)
  refine Rg_op rfl (op_move (v := (Value.bool true)) rfl ?_)
  iterate 4 refine Rg_opx rfl (asB_ne rfl rfl) rfl ?_
  refine Rg_op rfl (op_pick_t (v := (Value.bool true)) rfl rfl ?_)
  refine Rg_op rfl (op_assign (v := (Value.bool true)) rfl ?_)
  refine Rg_nil ?_
  refine Wp_ret ?_
  have hz := step_all hs4
  replace f_w__data := f_w__data.step hz; replace f_fv0_ := f_fv0_.step hz
  refine ⟨_, (show Closes [] _ _ from rfl), [(Value.bool true)], ⟨rfl, trivial⟩, hs4.ext, ?_⟩
  exact Vr.eq (a := vB) (x := true) rfl (Option.some.inj hm)
 ·
  replace hm := bif_f hm hg6
  refine Rg_opg rfl rfl rfl (op_fieldAddr ty73 rfl ty3 (by decide) rfl (rfl : _ = (⟨_, 0, none⟩ : Addr)) ?_)
  refine Rg_opg rfl rfl rfl (op_load (cs := [(Value.int .i64 w_.at_), (Value.slice a_w__data w_.data.length c_w__data)]) (i := 0) ty3 hs4 rfl rfl rfl ?_)
  refine Rg_opg rfl rfl rfl (op_loadP ty3 rfl f_fv0_ rfl ?_)
  intro v7 h8
  obtain ⟨rfl, r_y9⟩ := un_int h8
  refine Rg_opg rfl rfl rfl (op_geq rfl rfl ?_)
  refine Rg_op rfl (op_pick_f (v := (Value.bool (decide (fv0_ ≤ w_.at_)))) rfl rfl ?_)
  refine Rg_op rfl (op_move (v := (Value.bool (decide (fv0_ ≤ w_.at_)))) rfl ?_)
  refine Rg_case (fun hg10 => ?_) (fun hg10 => ?_)
  ·
   replace hm := bif_t hm hg10
   iterate 4 refine Rg_opx rfl (asB_ne rfl rfl) rfl ?_
   refine Rg_op rfl (op_pick_t (v := (Value.bool true)) rfl rfl ?_)
   refine Rg_op rfl (op_assign (v := (Value.bool true)) rfl ?_)
   refine Rg_nil ?_
   refine Wp_ret ?_
   have hz := step_all hs4
   replace f_w__data := f_w__data.step hz; replace f_fv0_ := f_fv0_.step hz
   refine ⟨_, (show Closes [] _ _ from rfl), [(Value.bool true)], ⟨rfl, trivial⟩, hs4.ext, ?_⟩
   exact Vr.eq (a := vB) (x := true) rfl (Option.some.inj hm)
  ·
   replace hm := bif_f hm hg10
   refine Rg_opg rfl rfl rfl (op_fieldAddr ty73 rfl ty41 (by decide) rfl (rfl : _ = (⟨_, 1, none⟩ : Addr)) ?_)
   refine Rg_opg rfl rfl rfl (op_load (cs := [(Value.int .i64 w_.at_), (Value.slice a_w__data w_.data.length c_w__data)]) (i := 0) ty41 hs4 rfl rfl rfl ?_)
   replace hm := bd hm; obtain ⟨issector_1, hv11, hm⟩ := hm
   refine Rg_opg rfl rfl rfl (op_call Try.call43 (c43_disk_isSector (b := w_.data) hs4.ltw f_w__data hv11) rfl ?_)
   rintro v12 w13 ⟨hx14, h15⟩
   have hs16 := hs4.call hx14
   have p17 := Step.ext (O := ks [(some b1, Obj.cells [(Value.int .i64 w_.at_), (Value.slice a_w__data w_.data.length c_w__data)].toArray 73)] O) hx14
   clear hx14
   replace f_w__data := f_w__data.step p17; replace f_fv0_ := f_fv0_.step p17; clear p17 hs4
   obtain rfl := h15
   refine Rg_opg rfl rfl rfl (op_not rfl ?_)
   refine Rg_op rfl (op_pick_f (v := (Value.bool (!issector_1))) rfl rfl ?_)
   refine Rg_op rfl (op_assign (v := (Value.bool (!issector_1))) rfl ?_)
   refine Rg_nil ?_
   refine Wp_ret ?_
   have hz := step_all hs16
   replace f_w__data := f_w__data.step hz; replace f_fv0_ := f_fv0_.step hz
   refine ⟨_, (show Closes [] _ _ from rfl), [(Value.bool (!issector_1))], ⟨rfl, trivial⟩, hs16.ext, ?_⟩
   exact Vr.eq (a := vB) (x := (!issector_1)) rfl (Option.some.inj hm)

end Go.Fx



set_option linter.unusedVariables false
set_option linter.unusedSimpArgs false
set_option maxRecDepth 100000
set_option maxHeartbeats 0
namespace Go.Fx
open Go Go.RowKit Go.Proofs
def m65_api_Write__B0 (s : List XWrite) (f : XWrite → Option Bool) (sf4 : Int → Option Int) (v_1 : Int) : Option Int :=
 bif (decide (v_1 < (s.length : Int))) then
  ck ((0 : Int) ≤ v_1 ∧ v_1 < (s.length : Int)) <|
  (f (s.getD v_1.toNat default)).bind fun r_1 =>
  bif r_1 then
   some v_1
  else
   sf4 (IntKind.wrap .i64 (v_1 + 1))
 else
  some (-1)

def m65_api_Write_ (s : List XWrite) (f : XWrite → Option Bool) : Option Int :=
 loop1 (m65_api_Write__B0 s f) (((s.length : Int) - 0).toNat + 1) 0

theorem c65_api_Write_ {w : World} {O : List Nat} {s : List XWrite} {f : XWrite → Option Bool} {a_s : Option Addr} {c_s : Nat} {v_f : Value} (hO : ∀ k ∈ O, k < w.heap.size) (f_s : SlR rXWrite w O a_s c_s s) (F_f : CallsTo1 Try.prog w O v_f (vA rXWrite) vB f) {x : Int} (hm : m65_api_Write_ s f = some x) :
  Ok Try.prog 65 [(Value.slice a_s s.length c_s), v_f] w O (vI .i64) x := by
 unfold m65_api_Write_ at hm
 refine Fn_of_Wp (n := 19) (xs := [.tmp 4]) Try.func65 rfl Try.ntmps65 Try.results65 rfl ?_
 have hs := St.start hO
 refine Wp_seq ?_
 refine Wp_region ?_
 refine Rg_op rfl (op_assign (v := (Value.int .i64 0)) rfl ?_)
 refine Rg_nil ?_
 refine Wp_seq ?_
 refine Wp_seq ?_
 refine Wp_region ?_
 refine Rg_op rfl (op_move (v := (Value.slice a_s s.length c_s)) rfl ?_)
 refine Rg_op rfl (op_len Try.underlying23 rfl ?_)
 have rl1 := inK_len f_s
 refine Rg_op rfl (op_move (v := (Value.int .i64 0)) rfl ?_)
 refine Rg_nil ?_
 refine Wp_block ?_
 refine Wp_reset [] [(0, (Value.slice a_s s.length c_s)), (1, v_f), (7, (Value.int .i64 (s.length : Int))), (8, (Value.int .i64 0))] rfl ⟨rfl, rfl, rfl, rfl, trivial⟩ fun ξ3 => ?_
 refine Wp_loopM [4, 5, 8, 9, 10, 11, 12, 13, 14, 15, 16, 17, 18] (fun m fr w' => ∃ (v_1 : Int) (Ebs : Ents), Ebs = [] ∧ fr [] [(8, (Value.int .i64 v_1))] ∧ Step (ks [] O) w (ks Ebs O) w' ∧ St ⟨w, [], []⟩ O w' Ebs ∧ InK .i64 v_1 ∧ loop1 (m65_api_Write__B0 s f) m v_1 = some x) (((s.length : Int) - 0).toNat + 1) ⟨0, _, rfl, ⟨Out.refl _ _, rfl, rfl, trivial⟩, Step.refl _ _, hs, (show InK .i64 0 from by decide), hm⟩ ?_ ?_
 · rintro _ _ ⟨_, _, _, _, _, _, _, hm⟩; exact loop1_z hm
 ·
  rintro m7 K6 hK6 ρ12 w8 ⟨v_1, Ebs, hEbs, hfr11, hst10, hs9, r_y2, hm⟩
  obtain ⟨sf4, hsf5, hm⟩ := loop1_s hm; unfold m65_api_Write__B0 at hm
  subst hEbs; rw [hfr11.eq]; clear hfr11
  replace f_s := f_s.step hst10; replace F_f := F_f.step hst10
  have ch13 := hst10
  refine Wp_seq ?_
  refine Wp_region ?_
  refine Rg_op rfl (op_lss rfl rfl ?_)
  refine Rg_nil ?_
  refine Wp_seq ?_
  refine Wp_cond rfl (fun hc14 => ?_) (fun hc14 => ?_)
  ·
   replace hm := bif_t hm hc14
   refine Wp_skip ?_
   refine Wp_seq ?_
   refine Wp_block ?_
   refine Wp_seq ?_
   refine Wp_region ?_
   refine Rg_op rfl (op_move (v := (Value.int .i64 v_1)) rfl ?_)
   refine Rg_op rfl (op_assign (v := (Value.int .i64 v_1)) rfl ?_)
   refine Rg_nil ?_
   refine Wp_seq ?_
   refine Wp_region ?_
   refine Rg_op rfl (op_move (v := v_f) rfl ?_)
   refine Rg_op rfl (op_move (v := (Value.slice a_s s.length c_s)) rfl ?_)
   refine Rg_op rfl (op_move (v := (Value.int .i64 v_1)) rfl ?_)
   replace hm := ck_some hm; obtain ⟨hc15, hm⟩ := hm
   refine Rg_op rfl (op_indexAddr (q := rXWrite) ty23 ty73 rfl rfl f_s rfl hc15.1 hc15.2 ?_)
   intro p16 f17
   refine Rg_op rfl (op_loadPA ty73 rfl f17 rfl ?_)
   intro vs18 h19
   obtain ⟨_, _, rfl, ⟨rfl, r_y20_at_⟩, ⟨a_y20_data, c_y20_data, rfl, f_y20_data⟩⟩ := h19
   replace hm := bd hm; obtain ⟨r_1, hv21, hm⟩ := hm
   refine Rg_op rfl (op_callF rfl (F_f.call hs9.ltw (mkA (mkVia (mk_pair (mk_int r_y20_at_) (mk_sl f_y20_data)))) hv21) rfl ?_)
   rintro v22 w23 ⟨hx24, h25⟩
   have hs26 := hs9.call hx24
   have p27 := Step.ext (O := ks [] O) hx24
   clear hx24
   replace f_s := f_s.step p27; replace F_f := F_f.step p27; replace f17 := f17.step p27; replace f_y20_data := f_y20_data.step p27; replace ch13 := ch13.trans p27; clear p27 hs9
   obtain rfl := h25
   refine Rg_nil ?_
   refine Wp_cond rfl (fun hc29 => ?_) (fun hc29 => ?_)
   ·
    replace hm := bif_t hm hc29
    refine Wp_seq ?_
    clear f_s F_f f17 f_y20_data
    refine Wp_region ?_
    refine Rg_op rfl (op_move (v := (Value.int .i64 v_1)) rfl ?_)
    refine Rg_op rfl (op_assign (v := (Value.int .i64 v_1)) rfl ?_)
    refine Rg_nil ?_
    refine Wp_ret ?_
    have hz := step_all hs26
    refine ⟨_, (show Closes [] _ _ from rfl), [(Value.int .i64 v_1)], ⟨rfl, trivial⟩, hs26.ext, ?_⟩
    exact Vr.eq (a := (vI .i64)) (x := v_1) ⟨rfl, r_y2⟩ (Option.some.inj hm)
   ·
    replace hm := bif_f hm hc29
    refine Wp_skip ?_
    clear f17 f_y20_data
    refine Wp_region ?_
    refine Rg_op rfl (op_addw rfl rfl ?_)
    refine Rg_op rfl (op_move (v := (Value.int .i64 (IntKind.wrap .i64 (v_1 + 1)))) rfl ?_)
    refine Rg_nil ?_
    exact hK6 _ _ ⟨(IntKind.wrap .i64 (v_1 + 1)), _, rfl, ⟨(by repeat (first | with_reducible exact Out.refl _ _ | refine Out.upd ?_ rfl | refine Out.updL ?_ rfl | refine Out.mix' ?_ rfl | exact Out.refl _ _)), rfl, rfl, trivial⟩, ch13, hs26, (inK_wrap .i64 _), jnE1 hsf5 hm⟩
  ·
   replace hm := bif_f hm hc14
   refine Wp_exit ?_
   refine Wp_seq ?_
   clear f_s F_f
   refine Wp_region ?_
   refine Rg_op rfl (op_assign (v := (Value.int .i64 (-1))) rfl ?_)
   refine Rg_nil ?_
   refine Wp_ret ?_
   have hz := step_all hs9
   refine ⟨_, (show Closes [] _ _ from rfl), [(Value.int .i64 (-1))], ⟨rfl, trivial⟩, hs9.ext, ?_⟩
   exact Vr.eq (a := (vI .i64)) (x := (-1)) ⟨rfl, (show InK .i64 (-1) from by decide)⟩ (Option.some.inj hm)

end Go.Fx



set_option linter.unusedVariables false
set_option linter.unusedSimpArgs false
set_option maxRecDepth 100000
set_option maxHeartbeats 0
namespace Go.Fx
open Go Go.RowKit Go.Proofs
def m44_api_Write_ (s : List XWrite) (f : XWrite → Option Bool) : Option Bool :=
 (m65_api_Write_ s f).bind fun write_1 =>
 some (decide (0 ≤ write_1))

theorem c44_api_Write_ {w : World} {O : List Nat} {s : List XWrite} {f : XWrite → Option Bool} {a_s : Option Addr} {c_s : Nat} {v_f : Value} (hO : ∀ k ∈ O, k < w.heap.size) (f_s : SlR rXWrite w O a_s c_s s) (F_f : CallsTo1 Try.prog w O v_f (vA rXWrite) vB f) {x : Bool} (hm : m44_api_Write_ s f = some x) :
  Ok Try.prog 44 [(Value.slice a_s s.length c_s), v_f] w O vB x := by
 unfold m44_api_Write_ at hm
 refine Fn_of_Wp (n := 9) (xs := [.tmp 4]) Try.func44 rfl Try.ntmps44 Try.results44 rfl ?_
 have hs := St.start hO
 refine Wp_seq ?_
 refine Wp_region ?_
 refine Rg_op rfl (op_assign (v := (Value.bool false)) rfl ?_)
 refine Rg_nil ?_
 refine Wp_seq ?_
 refine Wp_region ?_
 refine Rg_op rfl (op_move (v := (Value.slice a_s s.length c_s)) rfl ?_)
 refine Rg_op rfl (op_move (v := v_f) rfl ?_)
 replace hm := bd hm; obtain ⟨write_1, hv1, hm⟩ := hm
 refine Rg_op rfl (op_call Try.call65 (c65_api_Write_ (s := s) (f := f) hs.ltw f_s F_f hv1) rfl ?_)
 rintro v2 w3 ⟨hx4, h5⟩
 have hs6 := hs.call hx4
 have p7 := Step.ext (O := ks [] O) hx4
 clear hx4
 replace f_s := f_s.step p7; replace F_f := F_f.step p7; clear p7
 obtain ⟨rfl, r_y8⟩ := h5
 refine Rg_op rfl (op_geq rfl rfl ?_)
 refine Rg_op rfl (op_assign (v := (Value.bool (decide (0 ≤ write_1)))) rfl ?_)
 refine Rg_nil ?_
 refine Wp_ret ?_
 have hz := step_all hs6
 replace f_s := f_s.step hz; replace F_f := F_f.step hz
 refine ⟨_, (show Closes [] _ _ from rfl), [(Value.bool (decide (0 ≤ write_1)))], ⟨rfl, trivial⟩, hs6.ext, ?_⟩
 exact Vr.eq (a := vB) (x := (decide (0 ≤ write_1))) rfl (Option.some.inj hm)

end Go.Fx



set_option linter.unusedVariables false
set_option linter.unusedSimpArgs false
set_option maxRecDepth 100000
set_option maxHeartbeats 0
namespace Go.Fx
open Go Go.RowKit Go.Proofs
def m66_slices_IndexFuncbyte_byte__B0 (s : List (List UInt8)) (f : (List UInt8) → Option Bool) (sf4 : Int → Option Int) (v_1 : Int) : Option Int :=
 bif (decide (v_1 < (s.length : Int))) then
  ck ((0 : Int) ≤ v_1 ∧ v_1 < (s.length : Int)) <|
  (f (s.getD v_1.toNat default)).bind fun r_1 =>
  bif r_1 then
   some v_1
  else
   sf4 (IntKind.wrap .i64 (v_1 + 1))
 else
  some (-1)

def m66_slices_IndexFuncbyte_byte_ (s : List (List UInt8)) (f : (List UInt8) → Option Bool) : Option Int :=
 loop1 (m66_slices_IndexFuncbyte_byte__B0 s f) (((s.length : Int) - 0).toNat + 1) 0

theorem c66_slices_IndexFuncbyte_byte_ {w : World} {O : List Nat} {s : List (List UInt8)} {f : (List UInt8) → Option Bool} {a_s : Option Addr} {c_s : Nat} {v_f : Value} (hO : ∀ k ∈ O, k < w.heap.size) (f_s : SlR (rSl rU8) w O a_s c_s s) (F_f : CallsTo1 Try.prog w O v_f (vC (rSl rU8)) vB f) {x : Int} (hm : m66_slices_IndexFuncbyte_byte_ s f = some x) :
  Ok Try.prog 66 [(Value.slice a_s s.length c_s), v_f] w O (vI .i64) x := by
 unfold m66_slices_IndexFuncbyte_byte_ at hm
 refine Fn_of_Wp (n := 19) (xs := [.tmp 4]) Try.func66 rfl Try.ntmps66 Try.results66 rfl ?_
 have hs := St.start hO
 refine Wp_seq ?_
 refine Wp_region ?_
 refine Rg_op rfl (op_assign (v := (Value.int .i64 0)) rfl ?_)
 refine Rg_nil ?_
 refine Wp_seq ?_
 refine Wp_seq ?_
 refine Wp_region ?_
 refine Rg_op rfl (op_move (v := (Value.slice a_s s.length c_s)) rfl ?_)
 refine Rg_op rfl (op_len Try.underlying22 rfl ?_)
 have rl1 := inK_len f_s
 refine Rg_op rfl (op_move (v := (Value.int .i64 0)) rfl ?_)
 refine Rg_nil ?_
 refine Wp_block ?_
 refine Wp_reset [] [(0, (Value.slice a_s s.length c_s)), (1, v_f), (7, (Value.int .i64 (s.length : Int))), (8, (Value.int .i64 0))] rfl ⟨rfl, rfl, rfl, rfl, trivial⟩ fun ξ3 => ?_
 refine Wp_loopM [4, 5, 8, 9, 10, 11, 12, 13, 14, 15, 16, 17, 18] (fun m fr w' => ∃ (v_1 : Int) (Ebs : Ents), Ebs = [] ∧ fr [] [(8, (Value.int .i64 v_1))] ∧ Step (ks [] O) w (ks Ebs O) w' ∧ St ⟨w, [], []⟩ O w' Ebs ∧ InK .i64 v_1 ∧ loop1 (m66_slices_IndexFuncbyte_byte__B0 s f) m v_1 = some x) (((s.length : Int) - 0).toNat + 1) ⟨0, _, rfl, ⟨Out.refl _ _, rfl, rfl, trivial⟩, Step.refl _ _, hs, (show InK .i64 0 from by decide), hm⟩ ?_ ?_
 · rintro _ _ ⟨_, _, _, _, _, _, _, hm⟩; exact loop1_z hm
 ·
  rintro m7 K6 hK6 ρ12 w8 ⟨v_1, Ebs, hEbs, hfr11, hst10, hs9, r_y2, hm⟩
  obtain ⟨sf4, hsf5, hm⟩ := loop1_s hm; unfold m66_slices_IndexFuncbyte_byte__B0 at hm
  subst hEbs; rw [hfr11.eq]; clear hfr11
  replace f_s := f_s.step hst10; replace F_f := F_f.step hst10
  have ch13 := hst10
  refine Wp_seq ?_
  refine Wp_region ?_
  refine Rg_op rfl (op_lss rfl rfl ?_)
  refine Rg_nil ?_
  refine Wp_seq ?_
  refine Wp_cond rfl (fun hc14 => ?_) (fun hc14 => ?_)
  ·
   replace hm := bif_t hm hc14
   refine Wp_skip ?_
   refine Wp_seq ?_
   refine Wp_block ?_
   refine Wp_seq ?_
   refine Wp_region ?_
   refine Rg_op rfl (op_move (v := (Value.int .i64 v_1)) rfl ?_)
   refine Rg_op rfl (op_assign (v := (Value.int .i64 v_1)) rfl ?_)
   refine Rg_nil ?_
   refine Wp_seq ?_
   refine Wp_region ?_
   refine Rg_op rfl (op_move (v := v_f) rfl ?_)
   refine Rg_op rfl (op_move (v := (Value.slice a_s s.length c_s)) rfl ?_)
   refine Rg_op rfl (op_move (v := (Value.int .i64 v_1)) rfl ?_)
   replace hm := ck_some hm; obtain ⟨hc15, hm⟩ := hm
   refine Rg_op rfl (op_indexAddr (q := (rSl rU8)) ty22 ty41 rfl rfl f_s rfl hc15.1 hc15.2 ?_)
   intro p16 f17
   refine Rg_op rfl (op_loadP ty41 rfl f17 rfl ?_)
   intro v18 h19
   obtain ⟨a_y20, c_y20, rfl, f_y20⟩ := un_sl h19
   replace hm := bd hm; obtain ⟨r_1, hv21, hm⟩ := hm
   refine Rg_op rfl (op_callF rfl (F_f.call hs9.ltw (mkC (mk_sl f_y20)) hv21) rfl ?_)
   rintro v22 w23 ⟨hx24, h25⟩
   have hs26 := hs9.call hx24
   have p27 := Step.ext (O := ks [] O) hx24
   clear hx24
   replace f_s := f_s.step p27; replace F_f := F_f.step p27; replace f17 := f17.step p27; replace f_y20 := f_y20.step p27; replace ch13 := ch13.trans p27; clear p27 hs9
   obtain rfl := h25
   refine Rg_nil ?_
   refine Wp_cond rfl (fun hc29 => ?_) (fun hc29 => ?_)
   ·
    replace hm := bif_t hm hc29
    refine Wp_seq ?_
    clear f_s F_f f17 f_y20
    refine Wp_region ?_
    refine Rg_op rfl (op_move (v := (Value.int .i64 v_1)) rfl ?_)
    refine Rg_op rfl (op_assign (v := (Value.int .i64 v_1)) rfl ?_)
    refine Rg_nil ?_
    refine Wp_ret ?_
    have hz := step_all hs26
    refine ⟨_, (show Closes [] _ _ from rfl), [(Value.int .i64 v_1)], ⟨rfl, trivial⟩, hs26.ext, ?_⟩
    exact Vr.eq (a := (vI .i64)) (x := v_1) ⟨rfl, r_y2⟩ (Option.some.inj hm)
   ·
    replace hm := bif_f hm hc29
    refine Wp_skip ?_
    clear f17 f_y20
    refine Wp_region ?_
    refine Rg_op rfl (op_addw rfl rfl ?_)
    refine Rg_op rfl (op_move (v := (Value.int .i64 (IntKind.wrap .i64 (v_1 + 1)))) rfl ?_)
    refine Rg_nil ?_
    exact hK6 _ _ ⟨(IntKind.wrap .i64 (v_1 + 1)), _, rfl, ⟨(by repeat (first | with_reducible exact Out.refl _ _ | refine Out.upd ?_ rfl | refine Out.updL ?_ rfl | refine Out.mix' ?_ rfl | exact Out.refl _ _)), rfl, rfl, trivial⟩, ch13, hs26, (inK_wrap .i64 _), jnE1 hsf5 hm⟩
  ·
   replace hm := bif_f hm hc14
   refine Wp_exit ?_
   refine Wp_seq ?_
   clear f_s F_f
   refine Wp_region ?_
   refine Rg_op rfl (op_assign (v := (Value.int .i64 (-1))) rfl ?_)
   refine Rg_nil ?_
   refine Wp_ret ?_
   have hz := step_all hs9
   refine ⟨_, (show Closes [] _ _ from rfl), [(Value.int .i64 (-1))], ⟨rfl, trivial⟩, hs9.ext, ?_⟩
   exact Vr.eq (a := (vI .i64)) (x := (-1)) ⟨rfl, (show InK .i64 (-1) from by decide)⟩ (Option.some.inj hm)

end Go.Fx



set_option linter.unusedVariables false
set_option linter.unusedSimpArgs false
set_option maxRecDepth 100000
set_option maxHeartbeats 0
namespace Go.Fx
open Go Go.RowKit Go.Proofs
def m45_slices_ContainsFuncbyte_byte_ (s : List (List UInt8)) (f : (List UInt8) → Option Bool) : Option Bool :=
 (m66_slices_IndexFuncbyte_byte_ s f).bind fun indexfunc_1 =>
 some (decide (0 ≤ indexfunc_1))

theorem c45_slices_ContainsFuncbyte_byte_ {w : World} {O : List Nat} {s : List (List UInt8)} {f : (List UInt8) → Option Bool} {a_s : Option Addr} {c_s : Nat} {v_f : Value} (hO : ∀ k ∈ O, k < w.heap.size) (f_s : SlR (rSl rU8) w O a_s c_s s) (F_f : CallsTo1 Try.prog w O v_f (vC (rSl rU8)) vB f) {x : Bool} (hm : m45_slices_ContainsFuncbyte_byte_ s f = some x) :
  Ok Try.prog 45 [(Value.slice a_s s.length c_s), v_f] w O vB x := by
 unfold m45_slices_ContainsFuncbyte_byte_ at hm
 refine Fn_of_Wp (n := 9) (xs := [.tmp 4]) Try.func45 rfl Try.ntmps45 Try.results45 rfl ?_
 have hs := St.start hO
 refine Wp_seq ?_
 refine Wp_region ?_
 refine Rg_op rfl (op_assign (v := (Value.bool false)) rfl ?_)
 refine Rg_nil ?_
 refine Wp_seq ?_
 refine Wp_region ?_
 refine Rg_op rfl (op_move (v := (Value.slice a_s s.length c_s)) rfl ?_)
 refine Rg_op rfl (op_move (v := v_f) rfl ?_)
 replace hm := bd hm; obtain ⟨indexfunc_1, hv1, hm⟩ := hm
 refine Rg_op rfl (op_call Try.call66 (c66_slices_IndexFuncbyte_byte_ (s := s) (f := f) hs.ltw f_s F_f hv1) rfl ?_)
 rintro v2 w3 ⟨hx4, h5⟩
 have hs6 := hs.call hx4
 have p7 := Step.ext (O := ks [] O) hx4
 clear hx4
 replace f_s := f_s.step p7; replace F_f := F_f.step p7; clear p7
 obtain ⟨rfl, r_y8⟩ := h5
 refine Rg_op rfl (op_geq rfl rfl ?_)
 refine Rg_op rfl (op_assign (v := (Value.bool (decide (0 ≤ indexfunc_1)))) rfl ?_)
 refine Rg_nil ?_
 refine Wp_ret ?_
 have hz := step_all hs6
 replace f_s := f_s.step hz; replace F_f := F_f.step hz
 refine ⟨_, (show Closes [] _ _ from rfl), [(Value.bool (decide (0 ≤ indexfunc_1)))], ⟨rfl, trivial⟩, hs6.ext, ?_⟩
 exact Vr.eq (a := vB) (x := (decide (0 ≤ indexfunc_1))) rfl (Option.some.inj hm)

end Go.Fx



set_option linter.unusedVariables false
set_option linter.unusedSimpArgs false
set_option maxRecDepth 100000
set_option maxHeartbeats 0
namespace Go.Fx
open Go Go.RowKit Go.Proofs
def m46_disk_Check_2 (b : List UInt8) : Option Bool :=
 (m43_disk_isSector b).bind fun issector_1 =>
 some (!issector_1)

theorem c46_disk_Check_2 {w : World} {O : List Nat} {b : List UInt8} {a_b : Option Addr} {c_b : Nat} (hO : ∀ k ∈ O, k < w.heap.size) (f_b : SlR rU8 w O a_b c_b b) {x : Bool} (hm : m46_disk_Check_2 b = some x) :
  Ok Try.prog 46 [(Value.slice a_b b.length c_b)] w O vB x := by
 unfold m46_disk_Check_2 at hm
 refine Fn_of_Wp (n := 6) (xs := [.tmp 2]) Try.func46 rfl Try.ntmps46 Try.results46 rfl ?_
 have hs := St.start hO
 refine Wp_seq ?_
 refine Wp_region ?_
 refine Rg_op rfl (op_assign (v := (Value.bool false)) rfl ?_)
 refine Rg_nil ?_
 refine Wp_seq ?_
 refine Wp_region ?_
 refine Rg_op rfl (op_move (v := (Value.slice a_b b.length c_b)) rfl ?_)
 replace hm := bd hm; obtain ⟨issector_1, hv1, hm⟩ := hm
 refine Rg_op rfl (op_call Try.call43 (c43_disk_isSector (b := b) hs.ltw f_b hv1) rfl ?_)
 rintro v2 w3 ⟨hx4, h5⟩
 have hs6 := hs.call hx4
 have p7 := Step.ext (O := ks [] O) hx4
 clear hx4
 replace f_b := f_b.step p7; clear p7
 obtain rfl := h5
 refine Rg_op rfl (op_not rfl ?_)
 refine Rg_op rfl (op_assign (v := (Value.bool (!issector_1))) rfl ?_)
 refine Rg_nil ?_
 refine Wp_ret ?_
 have hz := step_all hs6
 replace f_b := f_b.step hz
 refine ⟨_, (show Closes [] _ _ from rfl), [(Value.bool (!issector_1))], ⟨rfl, trivial⟩, hs6.ext, ?_⟩
 exact Vr.eq (a := vB) (x := (!issector_1)) rfl (Option.some.inj hm)

end Go.Fx



set_option linter.unusedVariables false
set_option linter.unusedSimpArgs false
set_option maxRecDepth 100000
set_option maxHeartbeats 0
namespace Go.Fx
open Go Go.RowKit Go.Proofs
def m18_disk_Check (d : XDisk) : Option Int :=
 jn (fun (v_1 : Bool) =>
  bif v_1 then
   some 440
  else
   (m45_slices_ContainsFuncbyte_byte_ d.sectors (fun x53 => m46_disk_Check_2 x53)).bind fun containsfunc_1 =>
   bif containsfunc_1 then
    some 440
   else
    some 0)
 (fun k31 =>
  bif (decide ((d.sectors.length : Int) < 1)) then
   k31 true
  else
   bif (decide (4096 < (d.sectors.length : Int))) then
    k31 true
   else
    bif (decide (4096 < (d.pending.length : Int))) then
     k31 true
    else
     bif (decide (d.left < (-1))) then
      k31 true
     else
      bif (decide (65536 < d.left)) then
       k31 true
      else
       (m44_api_Write_ d.pending (fun x18 => m42_disk_Check_1 x18 (d.sectors.length : Int))).bind fun write_1 =>
       k31 write_1)

theorem c18_disk_Check {w : World} {O : List Nat} {d : XDisk} {a_d_sectors : Option Addr} {c_d_sectors : Nat} {a_d_pending : Option Addr} {c_d_pending : Nat} (hO : ∀ k ∈ O, k < w.heap.size) (f_d_sectors : SlR (rSl rU8) w O a_d_sectors c_d_sectors d.sectors) (f_d_pending : SlR rXWrite w O a_d_pending c_d_pending d.pending) (r_d_left : InK .i64 d.left) {x : Int} (hm : m18_disk_Check d = some x) :
  Ok Try.prog 18 [(Value.agg [(Value.slice a_d_sectors d.sectors.length c_d_sectors), (Value.slice a_d_pending d.pending.length c_d_pending), (Value.int .i64 d.left), (Value.bool d.stopped)].toArray)] w O (vI .i64) x := by
 unfold m18_disk_Check at hm
 refine Fn_of_Wp (n := 40) (xs := [.tmp 2]) Try.func18 rfl Try.ntmps18 Try.results18 rfl ?_
 have hs := St.start hO
 refine Wp_seq ?_
 refine Wp_region ?_
 refine Rg_op rfl (op_box (cs := [(Value.slice a_d_sectors d.sectors.length c_d_sectors), (Value.slice a_d_pending d.pending.length c_d_pending), (Value.int .i64 d.left), (Value.bool d.stopped)]) hs rfl rfl ?_)
 intro b1 w2 _ p3 hs4
 replace f_d_sectors := f_d_sectors.step p3; replace f_d_pending := f_d_pending.step p3; clear p3
 refine Rg_op rfl (op_assign (v := (Value.int .i64 0)) rfl ?_)
 refine Rg_nil ?_
 refine Wp_seq ?_
 refine Wp_region ?_
 refine Rg_op rfl (op_fieldAddr ty25 rfl ty22 (by decide) rfl (rfl : _ = (⟨_, 0, none⟩ : Addr)) ?_)
 refine Rg_op rfl (op_load (cs := [(Value.slice a_d_sectors d.sectors.length c_d_sectors), (Value.slice a_d_pending d.pending.length c_d_pending), (Value.int .i64 d.left), (Value.bool d.stopped)]) (i := 0) ty22 hs4 rfl rfl rfl ?_)
 refine Rg_op rfl (op_len Try.underlying22 rfl ?_)
 have rl6 := inK_len f_d_sectors
 refine Rg_op rfl (op_alloc ty3 hs4 ?_)
 intro b7 w8 _ p9 hs10
 replace f_d_sectors := f_d_sectors.step p9; replace f_d_pending := f_d_pending.step p9; clear p9 hs4
 refine Rg_op_ (op_store (cs := [(Value.int .i64 0)]) (vs := [(Value.int .i64 (d.sectors.length : Int))]) (cs' := [(Value.int .i64 (d.sectors.length : Int))]) (bs' := [(some b7, Obj.cells [(Value.int .i64 (d.sectors.length : Int))].toArray 3), (some b1, Obj.cells [(Value.slice a_d_sectors d.sectors.length c_d_sectors), (Value.slice a_d_pending d.pending.length c_d_pending), (Value.int .i64 d.left), (Value.bool d.stopped)].toArray 25)]) (i := 0) ty3 hs10 rfl rfl rfl rfl rfl (le_lit rfl) rfl rfl rfl ?_)
 intro w12 p13 hs14
 replace f_d_sectors := f_d_sectors.step p13; replace f_d_pending := f_d_pending.step p13; clear p13 hs10
 refine Rg_nil ?_
 refine Wp_seq ?_
 refine Wp_region ?_
 obtain ⟨hs16, p17, f15⟩ := St.publishP (p := (rInt .i64)) (i := 0) (x := (d.sectors.length : Int)) hs14 rfl (mk_int rl6)
 replace f_d_sectors := f_d_sectors.step p17; replace f_d_pending := f_d_pending.step p17; clear p17 hs14
 refine Rg_op rfl (op_makeFunc' (a' := []) (c' := [(Value.pointer (some (⟨b7, 0, none⟩ : Addr)))]) rfl rfl ?_)
 have F19 : CallsTo1 Try.prog w12 (ks [(some b1, Obj.cells [(Value.slice a_d_sectors d.sectors.length c_d_sectors), (Value.slice a_d_pending d.pending.length c_d_pending), (Value.int .i64 d.left), (Value.bool d.stopped)].toArray 25)] O) (Value.func (.func 42) #[] #[(Value.pointer (some (⟨b7, 0, none⟩ : Addr)))]) (vA rXWrite) vB (fun x18 => m42_disk_Check_1 x18 (d.sectors.length : Int)) := by
  intro w20 O21 st22 hO23 v26 x18 y24 h27 hy25
  obtain ⟨_, rfl, ⟨_, _, rfl, ⟨rfl, r_y28_at_⟩, ⟨a_y28_data, c_y28_data, rfl, f_y28_data⟩⟩⟩ := h27
  exact ⟨42, #[], #[(Value.pointer (some (⟨b7, 0, none⟩ : Addr)))], rfl, Try.call42, c42_disk_Check_1 (w_ := x18) hO23 r_y28_at_ f_y28_data (f15.step st22) hy25⟩
 refine Rg_op rfl (op_assign (v := (Value.func (.func 42) #[] #[(Value.pointer (some (⟨b7, 0, none⟩ : Addr)))])) rfl ?_)
 refine Rg_nil ?_
 refine Wp_seq ?_
 refine Wp_reset [] [(1, (Value.pointer (some ⟨b1, 0, none⟩))), (3, (Value.pointer (some (⟨b7, 0, none⟩ : Addr)))), (4, (Value.func (.func 42) #[] #[(Value.pointer (some (⟨b7, 0, none⟩ : Addr)))]))] rfl ⟨rfl, rfl, rfl, trivial⟩ fun ξ29 => ?_
 replace hm := jn_elim hm; obtain ⟨k31, hk32, hm⟩ := hm
 refine Wp_seqJ [9, 10, 11, 12, 13, 14, 15, 16, 17, 18, 19, 20, 21, 22, 23, 24, 25, 26, 27, 28, 29, 30, 31, 32, 33, 34, 35, 36] (fun fr w' => ∃ (v_1 : Bool) (Ebs : Ents), Ebs = [(some b1, Obj.cells [(Value.slice a_d_sectors d.sectors.length c_d_sectors), (Value.slice a_d_pending d.pending.length c_d_pending), (Value.int .i64 d.left), (Value.bool d.stopped)].toArray 25)] ∧ fr [] [(36, (Value.bool v_1))] ∧ Step (ks [(some b1, Obj.cells [(Value.slice a_d_sectors d.sectors.length c_d_sectors), (Value.slice a_d_pending d.pending.length c_d_pending), (Value.int .i64 d.left), (Value.bool d.stopped)].toArray 25)] O) w12 (ks Ebs O) w' ∧ St ⟨w, [], []⟩ O w' Ebs ∧ k31 v_1 = some x) ?_ ?_
 ·
  rintro ρ38 w34 ⟨v_1, Ebs, hEbs, hfr37, hst36, hs35, hm⟩
  replace hm := jnE1 hk32 hm
  subst hEbs; rw [hfr37.eq]; clear hfr37
  replace f_d_sectors := f_d_sectors.step hst36; replace f_d_pending := f_d_pending.step hst36; replace f15 := f15.step hst36; replace F19 := F19.step hst36; clear hst36 hs16
  refine Wp_cond rfl (fun hc39 => ?_) (fun hc39 => ?_)
  ·
   replace hm := bif_t hm hc39
   refine Wp_seq ?_
   obtain ⟨hs40, p41⟩ := hs35.sub (bs' := []) (.cons _ List.Sublist.slnil)
   clear f_d_sectors f_d_pending f15 F19
   clear p41 hs35
   refine Wp_region ?_
   refine Rg_op rfl (op_assign (v := (Value.int .i64 440)) rfl ?_)
   refine Rg_nil ?_
   refine Wp_ret ?_
   have hz := step_all hs40
   refine ⟨_, (show Closes [] _ _ from rfl), [(Value.int .i64 440)], ⟨rfl, trivial⟩, hs40.ext, ?_⟩
   exact Vr.eq (a := (vI .i64)) (x := 440) ⟨rfl, (show InK .i64 440 from by decide)⟩ (Option.some.inj hm)
  ·
   replace hm := bif_f hm hc39
   refine Wp_skip ?_
   refine Wp_seq ?_
   refine Wp_seq ?_
   clear f15 F19
   refine Wp_region ?_
   refine Rg_op rfl (op_fieldAddr ty25 rfl ty22 (by decide) rfl (rfl : _ = (⟨_, 0, none⟩ : Addr)) ?_)
   refine Rg_op rfl (op_load (cs := [(Value.slice a_d_sectors d.sectors.length c_d_sectors), (Value.slice a_d_pending d.pending.length c_d_pending), (Value.int .i64 d.left), (Value.bool d.stopped)]) (i := 0) ty22 hs35 rfl rfl rfl ?_)
   have F43 : CallsTo1 Try.prog w34 (ks [(some b1, Obj.cells [(Value.slice a_d_sectors d.sectors.length c_d_sectors), (Value.slice a_d_pending d.pending.length c_d_pending), (Value.int .i64 d.left), (Value.bool d.stopped)].toArray 25)] O) (Value.func (.func 46) #[] #[]) (vC (rSl rU8)) vB (fun x42 => m46_disk_Check_2 x42) := by
    intro w44 O45 st46 hO47 v50 x42 y48 h51 hy49
    obtain ⟨a_y52, c_y52, rfl, f_y52⟩ := un_sl h51
    exact ⟨46, #[], #[], rfl, Try.call46, c46_disk_Check_2 (b := x42) hO47 f_y52 hy49⟩
   have F54 : CallsTo1 Try.prog w34 (ks [(some b1, Obj.cells [(Value.slice a_d_sectors d.sectors.length c_d_sectors), (Value.slice a_d_pending d.pending.length c_d_pending), (Value.int .i64 d.left), (Value.bool d.stopped)].toArray 25)] O) (Value.func (.func 46) #[] #[]) (vC (rSl rU8)) vB (fun x53 => m46_disk_Check_2 x53) := by
    intro w55 O56 st57 hO58 v61 x53 y59 h62 hy60
    obtain ⟨a_y63, c_y63, rfl, f_y63⟩ := un_sl h62
    exact ⟨46, #[], #[], rfl, Try.call46, c46_disk_Check_2 (b := x53) hO58 f_y63 hy60⟩
   replace hm := bd hm; obtain ⟨containsfunc_1, hv64, hm⟩ := hm
   have F71 : CallsTo1 Try.prog w34 (ks [(some b1, Obj.cells [(Value.slice a_d_sectors d.sectors.length c_d_sectors), (Value.slice a_d_pending d.pending.length c_d_pending), (Value.int .i64 d.left), (Value.bool d.stopped)].toArray 25)] O) (Value.func (.func 46) #[] #[]) (vC (rSl rU8)) vB (fun x70 => m46_disk_Check_2 x70) := by
    intro w72 O73 st74 hO75 v78 x70 y76 h79 hy77
    obtain ⟨a_y80, c_y80, rfl, f_y80⟩ := un_sl h79
    exact ⟨46, #[], #[], rfl, Try.call46, c46_disk_Check_2 (b := x70) hO75 f_y80 hy77⟩
   refine Rg_op rfl (op_call Try.call45 (c45_slices_ContainsFuncbyte_byte_ (s := d.sectors) (f := (fun x53 => m46_disk_Check_2 x53)) hs35.ltw f_d_sectors F54 hv64) rfl ?_)
   rintro v65 w66 ⟨hx67, h68⟩
   have hs69 := hs35.call hx67
   have p81 := Step.ext (O := ks [(some b1, Obj.cells [(Value.slice a_d_sectors d.sectors.length c_d_sectors), (Value.slice a_d_pending d.pending.length c_d_pending), (Value.int .i64 d.left), (Value.bool d.stopped)].toArray 25)] O) hx67
   clear hx67
   replace f_d_sectors := f_d_sectors.step p81; replace f_d_pending := f_d_pending.step p81; replace F43 := F43.step p81; replace F54 := F54.step p81; replace F71 := F71.step p81; clear p81 hs35
   obtain rfl := h68
   refine Rg_nil ?_
   refine Wp_cond rfl (fun hc83 => ?_) (fun hc83 => ?_)
   ·
    replace hm := bif_t hm hc83
    refine Wp_seq ?_
    obtain ⟨hs84, p85⟩ := hs69.sub (bs' := []) (.cons _ List.Sublist.slnil)
    clear f_d_sectors f_d_pending F43 F54 F71
    clear p85 hs69
    refine Wp_region ?_
    refine Rg_op rfl (op_assign (v := (Value.int .i64 440)) rfl ?_)
    refine Rg_nil ?_
    refine Wp_ret ?_
    have hz := step_all hs84
    refine ⟨_, (show Closes [] _ _ from rfl), [(Value.int .i64 440)], ⟨rfl, trivial⟩, hs84.ext, ?_⟩
    exact Vr.eq (a := (vI .i64)) (x := 440) ⟨rfl, (show InK .i64 440 from by decide)⟩ (Option.some.inj hm)
   ·
    replace hm := bif_f hm hc83
    refine Wp_skip ?_
    refine Wp_seq ?_
    obtain ⟨hs86, p87⟩ := hs69.sub (bs' := []) (.cons _ List.Sublist.slnil)
    clear f_d_sectors f_d_pending F43 F54 F71
    clear p87 hs69
    refine Wp_region ?_
    refine Rg_op rfl (op_assign (v := (Value.int .i64 0)) rfl ?_)
    refine Rg_nil ?_
    refine Wp_ret ?_
    have hz := step_all hs86
    refine ⟨_, (show Closes [] _ _ from rfl), [(Value.int .i64 0)], ⟨rfl, trivial⟩, hs86.ext, ?_⟩
    exact Vr.eq (a := (vI .i64)) (x := 0) ⟨rfl, (show InK .i64 0 from by decide)⟩ (Option.some.inj hm)
 ·
  intro K33 hK33
  have ch88 := Step.refl (ks [(some b1, Obj.cells [(Value.slice a_d_sectors d.sectors.length c_d_sectors), (Value.slice a_d_pending d.pending.length c_d_pending), (Value.int .i64 d.left), (Value.bool d.stopped)].toArray 25)] O) w12
  refine Wp_region ?_
  refine Rg_op rfl (op_loadP ty3 rfl f15 rfl ?_)
  intro v89 h90
  obtain ⟨rfl, r_y91⟩ := un_int h90
  refine Rg_op rfl (op_lss rfl rfl ?_)
  refine Rg_op rfl (op_move (v := (Value.bool (decide ((d.sectors.length : Int) < 1)))) rfl ?_)
  refine Rg_case (fun hg92 => ?_) (fun hg92 => ?_)
  ·
   replace hm := bif_t hm hg92
   iterate 2 refine Rg_opx rfl (asB_ne rfl rfl) rfl ?_
   refine Rg_op rfl (op_pick_t (v := (Value.bool true)) rfl rfl ?_)
   refine Rg_op rfl (op_move (v := (Value.bool true)) rfl ?_)
   iterate 4 refine Rg_opx rfl (asB_ne rfl rfl) rfl ?_
   refine Rg_op rfl (op_pick_t (v := (Value.bool true)) rfl rfl ?_)
   refine Rg_op rfl (op_move (v := (Value.bool true)) rfl ?_)
   iterate 3 refine Rg_opx rfl (asB_ne rfl rfl) rfl ?_
   refine Rg_op rfl (op_pick_t (v := (Value.bool true)) rfl rfl ?_)
   refine Rg_op rfl (op_move (v := (Value.bool true)) rfl ?_)
   iterate 3 refine Rg_opx rfl (asB_ne rfl rfl) rfl ?_
   refine Rg_op rfl (op_pick_t (v := (Value.bool true)) rfl rfl ?_)
   refine Rg_op rfl (op_move (v := (Value.bool true)) rfl ?_)
   iterate 4 refine Rg_opx rfl (asB_ne rfl rfl) rfl ?_
   refine Rg_op rfl (op_pick_t (v := (Value.bool true)) rfl rfl ?_)
   refine Rg_nil ?_
   exact hK33 _ _ ⟨true, _, rfl, ⟨(by repeat (first | with_reducible exact Out.refl _ _ | refine Out.upd ?_ rfl | refine Out.updL ?_ rfl | refine Out.mix' ?_ rfl | exact Out.refl _ _)), rfl, rfl, trivial⟩, ch88, hs16, hm⟩
  ·
   replace hm := bif_f hm hg92
   refine Rg_opg rfl rfl rfl (op_loadP ty3 rfl f15 rfl ?_)
   intro v93 h94
   obtain ⟨rfl, r_y95⟩ := un_int h94
   refine Rg_opg rfl rfl rfl (op_gtr rfl rfl ?_)
   refine Rg_op rfl (op_pick_f (v := (Value.bool (decide (4096 < (d.sectors.length : Int))))) rfl rfl ?_)
   refine Rg_op rfl (op_move (v := (Value.bool (decide (4096 < (d.sectors.length : Int))))) rfl ?_)
   refine Rg_case (fun hg96 => ?_) (fun hg96 => ?_)
   ·
    replace hm := bif_t hm hg96
    iterate 4 refine Rg_opx rfl (asB_ne rfl rfl) rfl ?_
    refine Rg_op rfl (op_pick_t (v := (Value.bool true)) rfl rfl ?_)
    refine Rg_op rfl (op_move (v := (Value.bool true)) rfl ?_)
    iterate 3 refine Rg_opx rfl (asB_ne rfl rfl) rfl ?_
    refine Rg_op rfl (op_pick_t (v := (Value.bool true)) rfl rfl ?_)
    refine Rg_op rfl (op_move (v := (Value.bool true)) rfl ?_)
    iterate 3 refine Rg_opx rfl (asB_ne rfl rfl) rfl ?_
    refine Rg_op rfl (op_pick_t (v := (Value.bool true)) rfl rfl ?_)
    refine Rg_op rfl (op_move (v := (Value.bool true)) rfl ?_)
    iterate 4 refine Rg_opx rfl (asB_ne rfl rfl) rfl ?_
    refine Rg_op rfl (op_pick_t (v := (Value.bool true)) rfl rfl ?_)
    refine Rg_nil ?_
    exact hK33 _ _ ⟨true, _, rfl, ⟨(by repeat (first | with_reducible exact Out.refl _ _ | refine Out.upd ?_ rfl | refine Out.updL ?_ rfl | refine Out.mix' ?_ rfl | exact Out.refl _ _)), rfl, rfl, trivial⟩, ch88, hs16, hm⟩
   ·
    replace hm := bif_f hm hg96
    refine Rg_opg rfl rfl rfl (op_fieldAddr ty25 rfl ty23 (by decide) rfl (rfl : _ = (⟨_, 1, none⟩ : Addr)) ?_)
    refine Rg_opg rfl rfl rfl (op_load (cs := [(Value.slice a_d_sectors d.sectors.length c_d_sectors), (Value.slice a_d_pending d.pending.length c_d_pending), (Value.int .i64 d.left), (Value.bool d.stopped)]) (i := 0) ty23 hs16 rfl rfl rfl ?_)
    refine Rg_opg rfl rfl rfl (op_len Try.underlying23 rfl ?_)
    have rl97 := inK_len f_d_pending
    refine Rg_opg rfl rfl rfl (op_gtr rfl rfl ?_)
    refine Rg_op rfl (op_pick_f (v := (Value.bool (decide (4096 < (d.pending.length : Int))))) rfl rfl ?_)
    refine Rg_op rfl (op_move (v := (Value.bool (decide (4096 < (d.pending.length : Int))))) rfl ?_)
    refine Rg_case (fun hg98 => ?_) (fun hg98 => ?_)
    ·
     replace hm := bif_t hm hg98
     iterate 3 refine Rg_opx rfl (asB_ne rfl rfl) rfl ?_
     refine Rg_op rfl (op_pick_t (v := (Value.bool true)) rfl rfl ?_)
     refine Rg_op rfl (op_move (v := (Value.bool true)) rfl ?_)
     iterate 3 refine Rg_opx rfl (asB_ne rfl rfl) rfl ?_
     refine Rg_op rfl (op_pick_t (v := (Value.bool true)) rfl rfl ?_)
     refine Rg_op rfl (op_move (v := (Value.bool true)) rfl ?_)
     iterate 4 refine Rg_opx rfl (asB_ne rfl rfl) rfl ?_
     refine Rg_op rfl (op_pick_t (v := (Value.bool true)) rfl rfl ?_)
     refine Rg_nil ?_
     exact hK33 _ _ ⟨true, _, rfl, ⟨(by repeat (first | with_reducible exact Out.refl _ _ | refine Out.upd ?_ rfl | refine Out.updL ?_ rfl | refine Out.mix' ?_ rfl | exact Out.refl _ _)), rfl, rfl, trivial⟩, ch88, hs16, hm⟩
    ·
     replace hm := bif_f hm hg98
     refine Rg_opg rfl rfl rfl (op_fieldAddr ty25 rfl ty3 (by decide) rfl (rfl : _ = (⟨_, 2, none⟩ : Addr)) ?_)
     refine Rg_opg rfl rfl rfl (op_load (cs := [(Value.slice a_d_sectors d.sectors.length c_d_sectors), (Value.slice a_d_pending d.pending.length c_d_pending), (Value.int .i64 d.left), (Value.bool d.stopped)]) (i := 0) ty3 hs16 rfl rfl rfl ?_)
     refine Rg_opg rfl rfl rfl (op_lss rfl rfl ?_)
     refine Rg_op rfl (op_pick_f (v := (Value.bool (decide (d.left < (-1))))) rfl rfl ?_)
     refine Rg_op rfl (op_move (v := (Value.bool (decide (d.left < (-1))))) rfl ?_)
     refine Rg_case (fun hg99 => ?_) (fun hg99 => ?_)
     ·
      replace hm := bif_t hm hg99
      iterate 3 refine Rg_opx rfl (asB_ne rfl rfl) rfl ?_
      refine Rg_op rfl (op_pick_t (v := (Value.bool true)) rfl rfl ?_)
      refine Rg_op rfl (op_move (v := (Value.bool true)) rfl ?_)
      iterate 4 refine Rg_opx rfl (asB_ne rfl rfl) rfl ?_
      refine Rg_op rfl (op_pick_t (v := (Value.bool true)) rfl rfl ?_)
      refine Rg_nil ?_
      exact hK33 _ _ ⟨true, _, rfl, ⟨(by repeat (first | with_reducible exact Out.refl _ _ | refine Out.upd ?_ rfl | refine Out.updL ?_ rfl | refine Out.mix' ?_ rfl | exact Out.refl _ _)), rfl, rfl, trivial⟩, ch88, hs16, hm⟩
     ·
      replace hm := bif_f hm hg99
      refine Rg_opg rfl rfl rfl (op_fieldAddr ty25 rfl ty3 (by decide) rfl (rfl : _ = (⟨_, 2, none⟩ : Addr)) ?_)
      refine Rg_opg rfl rfl rfl (op_load (cs := [(Value.slice a_d_sectors d.sectors.length c_d_sectors), (Value.slice a_d_pending d.pending.length c_d_pending), (Value.int .i64 d.left), (Value.bool d.stopped)]) (i := 0) ty3 hs16 rfl rfl rfl ?_)
      refine Rg_opg rfl rfl rfl (op_gtr rfl rfl ?_)
      refine Rg_op rfl (op_pick_f (v := (Value.bool (decide (65536 < d.left)))) rfl rfl ?_)
      refine Rg_op rfl (op_move (v := (Value.bool (decide (65536 < d.left)))) rfl ?_)
      refine Rg_case (fun hg100 => ?_) (fun hg100 => ?_)
      ·
       replace hm := bif_t hm hg100
       iterate 4 refine Rg_opx rfl (asB_ne rfl rfl) rfl ?_
       refine Rg_op rfl (op_pick_t (v := (Value.bool true)) rfl rfl ?_)
       refine Rg_nil ?_
       exact hK33 _ _ ⟨true, _, rfl, ⟨(by repeat (first | with_reducible exact Out.refl _ _ | refine Out.upd ?_ rfl | refine Out.updL ?_ rfl | refine Out.mix' ?_ rfl | exact Out.refl _ _)), rfl, rfl, trivial⟩, ch88, hs16, hm⟩
      ·
       replace hm := bif_f hm hg100
       refine Rg_opg rfl rfl rfl (op_fieldAddr ty25 rfl ty23 (by decide) rfl (rfl : _ = (⟨_, 1, none⟩ : Addr)) ?_)
       refine Rg_opg rfl rfl rfl (op_load (cs := [(Value.slice a_d_sectors d.sectors.length c_d_sectors), (Value.slice a_d_pending d.pending.length c_d_pending), (Value.int .i64 d.left), (Value.bool d.stopped)]) (i := 0) ty23 hs16 rfl rfl rfl ?_)
       refine Rg_opg rfl rfl rfl (op_move (v := (Value.func (.func 42) #[] #[(Value.pointer (some (⟨b7, 0, none⟩ : Addr)))])) rfl ?_)
       replace hm := bd hm; obtain ⟨write_1, hv101, hm⟩ := hm
       refine Rg_opg rfl rfl rfl (op_call Try.call44 (c44_api_Write_ (s := d.pending) (f := (fun x18 => m42_disk_Check_1 x18 (d.sectors.length : Int))) hs16.ltw f_d_pending F19 hv101) rfl ?_)
       rintro v102 w103 ⟨hx104, h105⟩
       have hs106 := hs16.call hx104
       have p107 := Step.ext (O := ks [(some b1, Obj.cells [(Value.slice a_d_sectors d.sectors.length c_d_sectors), (Value.slice a_d_pending d.pending.length c_d_pending), (Value.int .i64 d.left), (Value.bool d.stopped)].toArray 25)] O) hx104
       clear hx104
       replace f_d_sectors := f_d_sectors.step p107; replace f_d_pending := f_d_pending.step p107; replace f15 := f15.step p107; replace F19 := F19.step p107; replace ch88 := ch88.trans p107; clear p107 hs16
       obtain rfl := h105
       refine Rg_op rfl (op_pick_f (v := (Value.bool write_1)) rfl rfl ?_)
       refine Rg_nil ?_
       exact hK33 _ _ ⟨write_1, _, rfl, ⟨(by repeat (first | with_reducible exact Out.refl _ _ | refine Out.upd ?_ rfl | refine Out.updL ?_ rfl | refine Out.mix' ?_ rfl | exact Out.refl _ _)), rfl, rfl, trivial⟩, ch88, hs106, hm⟩

end Go.Fx



set_option linter.unusedVariables false
set_option linter.unusedSimpArgs false
set_option maxRecDepth 100000
set_option maxHeartbeats 0
namespace Go.Fx
open Go Go.RowKit Go.Proofs
def m47_disk_runs (d : XDisk) : Option Bool :=
 (m18_disk_Check d).bind fun check_1 =>
 bif (decide (check_1 = 0)) then
  some (!d.stopped)
 else
  some false

theorem c47_disk_runs {w : World} {O : List Nat} {d : XDisk} {a_d_sectors : Option Addr} {c_d_sectors : Nat} {a_d_pending : Option Addr} {c_d_pending : Nat} (hO : ∀ k ∈ O, k < w.heap.size) (f_d_sectors : SlR (rSl rU8) w O a_d_sectors c_d_sectors d.sectors) (f_d_pending : SlR rXWrite w O a_d_pending c_d_pending d.pending) (r_d_left : InK .i64 d.left) {x : Bool} (hm : m47_disk_runs d = some x) :
  Ok Try.prog 47 [(Value.agg [(Value.slice a_d_sectors d.sectors.length c_d_sectors), (Value.slice a_d_pending d.pending.length c_d_pending), (Value.int .i64 d.left), (Value.bool d.stopped)].toArray)] w O vB x := by
 unfold m47_disk_runs at hm
 refine Fn_of_Wp (n := 11) (xs := [.tmp 2]) Try.func47 rfl Try.ntmps47 Try.results47 rfl ?_
 have hs := St.start hO
 refine Wp_seq ?_
 refine Wp_region ?_
 refine Rg_op rfl (op_box (cs := [(Value.slice a_d_sectors d.sectors.length c_d_sectors), (Value.slice a_d_pending d.pending.length c_d_pending), (Value.int .i64 d.left), (Value.bool d.stopped)]) hs rfl rfl ?_)
 intro b1 w2 _ p3 hs4
 replace f_d_sectors := f_d_sectors.step p3; replace f_d_pending := f_d_pending.step p3; clear p3
 refine Rg_op rfl (op_assign (v := (Value.bool false)) rfl ?_)
 refine Rg_nil ?_
 refine Wp_seq ?_
 refine Wp_region ?_
 refine Rg_op rfl (op_loadA (cs := [(Value.slice a_d_sectors d.sectors.length c_d_sectors), (Value.slice a_d_pending d.pending.length c_d_pending), (Value.int .i64 d.left), (Value.bool d.stopped)]) (vs := [(Value.slice a_d_sectors d.sectors.length c_d_sectors), (Value.slice a_d_pending d.pending.length c_d_pending), (Value.int .i64 d.left), (Value.bool d.stopped)]) (i := 0) ty25 hs4 rfl rfl rfl rfl ?_)
 replace hm := bd hm; obtain ⟨check_1, hv6, hm⟩ := hm
 refine Rg_op rfl (op_call Try.call18 (c18_disk_Check (d := d) hs4.ltw f_d_sectors f_d_pending r_d_left hv6) rfl ?_)
 rintro v7 w8 ⟨hx9, h10⟩
 have hs11 := hs4.call hx9
 have p12 := Step.ext (O := ks [(some b1, Obj.cells [(Value.slice a_d_sectors d.sectors.length c_d_sectors), (Value.slice a_d_pending d.pending.length c_d_pending), (Value.int .i64 d.left), (Value.bool d.stopped)].toArray 25)] O) hx9
 clear hx9
 replace f_d_sectors := f_d_sectors.step p12; replace f_d_pending := f_d_pending.step p12; clear p12 hs4
 obtain ⟨rfl, r_y13⟩ := h10
 refine Rg_op rfl (op_eql rfl rfl ?_)
 refine Rg_op rfl (op_move (v := (Value.bool (decide (check_1 = 0)))) rfl ?_)
 refine Rg_case (fun hg14 => ?_) (fun hg14 => ?_)
 ·
  replace hm := bif_t hm hg14
  refine Rg_opg rfl rfl rfl (op_fieldAddr ty25 rfl ty4 (by decide) rfl (rfl : _ = (⟨_, 3, none⟩ : Addr)) ?_)
  refine Rg_opg rfl rfl rfl (op_load (cs := [(Value.slice a_d_sectors d.sectors.length c_d_sectors), (Value.slice a_d_pending d.pending.length c_d_pending), (Value.int .i64 d.left), (Value.bool d.stopped)]) (i := 0) ty4 hs11 rfl rfl rfl ?_)
  refine Rg_opg rfl rfl rfl (op_not rfl ?_)
  refine Rg_op rfl (op_pick_t (v := (Value.bool (!d.stopped))) rfl rfl ?_)
  refine Rg_op rfl (op_assign (v := (Value.bool (!d.stopped))) rfl ?_)
  refine Rg_nil ?_
  refine Wp_ret ?_
  have hz := step_all hs11
  replace f_d_sectors := f_d_sectors.step hz; replace f_d_pending := f_d_pending.step hz
  refine ⟨_, (show Closes [] _ _ from rfl), [(Value.bool (!d.stopped))], ⟨rfl, trivial⟩, hs11.ext, ?_⟩
  exact Vr.eq (a := vB) (x := (!d.stopped)) rfl (Option.some.inj hm)
 ·
  replace hm := bif_f hm hg14
  iterate 3 refine Rg_opx rfl (asB_ne rfl rfl) rfl ?_
  refine Rg_op rfl (op_pick_f (v := (Value.bool false)) rfl rfl ?_)
  refine Rg_op rfl (op_assign (v := (Value.bool false)) rfl ?_)
  refine Rg_nil ?_
  refine Wp_ret ?_
  have hz := step_all hs11
  replace f_d_sectors := f_d_sectors.step hz; replace f_d_pending := f_d_pending.step hz
  refine ⟨_, (show Closes [] _ _ from rfl), [(Value.bool false)], ⟨rfl, trivial⟩, hs11.ext, ?_⟩
  exact Vr.eq (a := vB) (x := false) rfl (Option.some.inj hm)

end Go.Fx



set_option linter.unusedVariables false
set_option linter.unusedSimpArgs false
set_option maxRecDepth 100000
set_option maxHeartbeats 0
namespace Go.Fx
open Go Go.RowKit Go.Proofs
def m22_disk_Stop (d : XDisk) (left : Int) : Option (XDisk × Int) :=
 (m47_disk_runs d).bind fun runs_1 =>
 bif (!runs_1) then
  some ((⟨([] : List (List UInt8)), ([] : List XWrite), 0, false⟩ : XDisk), 440)
 else
  jn (fun (v_1 : Bool) =>
   bif v_1 then
    some ((⟨([] : List (List UInt8)), ([] : List XWrite), 0, false⟩ : XDisk), 1)
   else
    some ((⟨d.sectors, d.pending, left, d.stopped⟩ : XDisk), 0))
  (fun k27 =>
   bif (decide (left < 0)) then
    k27 true
   else
    k27 (decide (65536 < left)))

theorem c22_disk_Stop {w : World} {O : List Nat} {d : XDisk} {left : Int} {a_d_sectors : Option Addr} {c_d_sectors : Nat} {a_d_pending : Option Addr} {c_d_pending : Nat} (hO : ∀ k ∈ O, k < w.heap.size) (f_d_sectors : SlR (rSl rU8) w O a_d_sectors c_d_sectors d.sectors) (f_d_pending : SlR rXWrite w O a_d_pending c_d_pending d.pending) (r_d_left : InK .i64 d.left) (r_left : InK .i64 left) {x : XDisk × Int} (hm : m22_disk_Stop d left = some x) :
  Ok Try.prog 22 [(Value.agg [(Value.slice a_d_sectors d.sectors.length c_d_sectors), (Value.slice a_d_pending d.pending.length c_d_pending), (Value.int .i64 d.left), (Value.bool d.stopped)].toArray), (Value.int .i64 left)] w O (vT2 (vA rXDisk) (vI .i64)) x := by
 unfold m22_disk_Stop at hm
 refine Fn_of_Wp (n := 22) (xs := [.cell 4 25, .tmp 5]) Try.func22 rfl Try.ntmps22 Try.results22 rfl ?_
 have hs := St.start hO
 refine Wp_seq ?_
 refine Wp_region ?_
 refine Rg_op rfl (op_box (cs := [(Value.slice a_d_sectors d.sectors.length c_d_sectors), (Value.slice a_d_pending d.pending.length c_d_pending), (Value.int .i64 d.left), (Value.bool d.stopped)]) hs rfl rfl ?_)
 intro b1 w2 _ p3 hs4
 replace f_d_sectors := f_d_sectors.step p3; replace f_d_pending := f_d_pending.step p3; clear p3
 refine Rg_op rfl (op_alloc ty25 hs4 ?_)
 intro b6 w7 _ p8 hs9
 replace f_d_sectors := f_d_sectors.step p8; replace f_d_pending := f_d_pending.step p8; clear p8 hs4
 refine Rg_op rfl (op_assign (v := (Value.int .i64 0)) rfl ?_)
 refine Rg_nil ?_
 refine Wp_seq ?_
 refine Wp_block ?_
 refine Wp_seq ?_
 refine Wp_region ?_
 refine Rg_op rfl (op_loadA (cs := [(Value.slice a_d_sectors d.sectors.length c_d_sectors), (Value.slice a_d_pending d.pending.length c_d_pending), (Value.int .i64 d.left), (Value.bool d.stopped)]) (vs := [(Value.slice a_d_sectors d.sectors.length c_d_sectors), (Value.slice a_d_pending d.pending.length c_d_pending), (Value.int .i64 d.left), (Value.bool d.stopped)]) (i := 1) ty25 hs9 rfl rfl rfl rfl ?_)
 replace hm := bd hm; obtain ⟨runs_1, hv11, hm⟩ := hm
 refine Rg_op rfl (op_call Try.call47 (c47_disk_runs (d := d) hs9.ltw f_d_sectors f_d_pending r_d_left hv11) rfl ?_)
 rintro v12 w13 ⟨hx14, h15⟩
 have hs16 := hs9.call hx14
 have p17 := Step.ext (O := ks [(some b6, Obj.cells [(Value.slice none 0 0), (Value.slice none 0 0), (Value.int .i64 0), (Value.bool false)].toArray 25), (some b1, Obj.cells [(Value.slice a_d_sectors d.sectors.length c_d_sectors), (Value.slice a_d_pending d.pending.length c_d_pending), (Value.int .i64 d.left), (Value.bool d.stopped)].toArray 25)] O) hx14
 clear hx14
 replace f_d_sectors := f_d_sectors.step p17; replace f_d_pending := f_d_pending.step p17; clear p17 hs9
 obtain rfl := h15
 refine Rg_op rfl (op_not rfl ?_)
 refine Rg_op rfl (op_assign (v := (Value.bool (!runs_1))) rfl ?_)
 refine Rg_nil ?_
 refine Wp_cond rfl (fun hc19 => ?_) (fun hc19 => ?_)
 ·
  replace hm := bif_t hm hc19
  refine Wp_seq ?_
  obtain ⟨hs20, p21⟩ := hs16.sub (bs' := [(some b6, Obj.cells [(Value.slice none 0 0), (Value.slice none 0 0), (Value.int .i64 0), (Value.bool false)].toArray 25)]) (.cons_cons _ (.cons _ List.Sublist.slnil))
  clear f_d_sectors f_d_pending
  clear p21 hs16
  refine Wp_region ?_
  refine Rg_op rfl (op_loadA (cs := [(Value.slice none 0 0), (Value.slice none 0 0), (Value.int .i64 0), (Value.bool false)]) (vs := [(Value.slice none 0 0), (Value.slice none 0 0), (Value.int .i64 0), (Value.bool false)]) (i := 0) ty25 hs20 rfl rfl rfl rfl ?_)
  refine Rg_op_ (op_store (cs := [(Value.slice none 0 0), (Value.slice none 0 0), (Value.int .i64 0), (Value.bool false)]) (vs := [(Value.slice none 0 0), (Value.slice none 0 0), (Value.int .i64 0), (Value.bool false)]) (cs' := [(Value.slice none 0 0), (Value.slice none 0 0), (Value.int .i64 0), (Value.bool false)]) (bs' := [(some b6, Obj.cells [(Value.slice none 0 0), (Value.slice none 0 0), (Value.int .i64 0), (Value.bool false)].toArray 25)]) (i := 0) ty25 hs20 rfl rfl rfl rfl rfl (le_lit rfl) rfl rfl rfl ?_)
  intro w22 p23 hs24
  clear p23 hs20
  refine Rg_op rfl (op_assign (v := (Value.int .i64 440)) rfl ?_)
  refine Rg_nil ?_
  refine Wp_ret ?_
  have hz := step_all hs24
  refine ⟨_, (show Closes [] _ _ from rfl), [(Value.agg [(Value.slice none 0 0), (Value.slice none 0 0), (Value.int .i64 0), (Value.bool false)].toArray), (Value.int .i64 440)], ⟨resA (cs := [(Value.slice none 0 0), (Value.slice none 0 0), (Value.int .i64 0), (Value.bool false)]) (vs := [(Value.slice none 0 0), (Value.slice none 0 0), (Value.int .i64 0), (Value.bool false)]) ty25 (i := 0) hs24 rfl rfl rfl rfl, rfl, trivial⟩, hs24.ext, ?_⟩
  exact Vr.eq (a := (vT2 (vA rXDisk) (vI .i64))) (x := ((⟨([] : List (List UInt8)), ([] : List XWrite), 0, false⟩ : XDisk), 440)) (mkT2 (mkA (mkVia (mk_pair (mk_sl SlR.nil_) (mk_pair (mk_sl SlR.nil_) (mk_pair (mk_int (show InK .i64 0 from by decide)) mkBool))))) ⟨rfl, (show InK .i64 440 from by decide)⟩) (Option.some.inj hm)
 ·
  replace hm := bif_f hm hc19
  refine Wp_reset [] [(1, (Value.int .i64 left)), (2, (Value.pointer (some ⟨b1, 0, none⟩))), (4, (Value.pointer (some ⟨b6, 0, none⟩)))] rfl ⟨rfl, rfl, rfl, trivial⟩ fun ξ25 => ?_
  replace hm := jn_elim hm; obtain ⟨k27, hk28, hm⟩ := hm
  refine Wp_seqJ [11, 12, 13, 14, 15, 16, 17] (fun fr w' => ∃ (v_1 : Bool) (Ebs : Ents), Ebs = [(some b6, Obj.cells [(Value.slice none 0 0), (Value.slice none 0 0), (Value.int .i64 0), (Value.bool false)].toArray 25), (some b1, Obj.cells [(Value.slice a_d_sectors d.sectors.length c_d_sectors), (Value.slice a_d_pending d.pending.length c_d_pending), (Value.int .i64 d.left), (Value.bool d.stopped)].toArray 25)] ∧ fr [] [(11, (Value.bool v_1))] ∧ Step (ks [(some b6, Obj.cells [(Value.slice none 0 0), (Value.slice none 0 0), (Value.int .i64 0), (Value.bool false)].toArray 25), (some b1, Obj.cells [(Value.slice a_d_sectors d.sectors.length c_d_sectors), (Value.slice a_d_pending d.pending.length c_d_pending), (Value.int .i64 d.left), (Value.bool d.stopped)].toArray 25)] O) w13 (ks Ebs O) w' ∧ St ⟨w, [], []⟩ O w' Ebs ∧ k27 v_1 = some x) ?_ ?_
  ·
   rintro ρ34 w30 ⟨v_1, Ebs, hEbs, hfr33, hst32, hs31, hm⟩
   replace hm := jnE1 hk28 hm
   subst hEbs; rw [hfr33.eq]; clear hfr33
   replace f_d_sectors := f_d_sectors.step hst32; replace f_d_pending := f_d_pending.step hst32; clear hst32 hs16
   refine Wp_cond rfl (fun hc35 => ?_) (fun hc35 => ?_)
   ·
    replace hm := bif_t hm hc35
    refine Wp_seq ?_
    obtain ⟨hs36, p37⟩ := hs31.sub (bs' := [(some b6, Obj.cells [(Value.slice none 0 0), (Value.slice none 0 0), (Value.int .i64 0), (Value.bool false)].toArray 25)]) (.cons_cons _ (.cons _ List.Sublist.slnil))
    clear f_d_sectors f_d_pending
    clear p37 hs31
    refine Wp_region ?_
    refine Rg_op rfl (op_loadA (cs := [(Value.slice none 0 0), (Value.slice none 0 0), (Value.int .i64 0), (Value.bool false)]) (vs := [(Value.slice none 0 0), (Value.slice none 0 0), (Value.int .i64 0), (Value.bool false)]) (i := 0) ty25 hs36 rfl rfl rfl rfl ?_)
    refine Rg_op_ (op_store (cs := [(Value.slice none 0 0), (Value.slice none 0 0), (Value.int .i64 0), (Value.bool false)]) (vs := [(Value.slice none 0 0), (Value.slice none 0 0), (Value.int .i64 0), (Value.bool false)]) (cs' := [(Value.slice none 0 0), (Value.slice none 0 0), (Value.int .i64 0), (Value.bool false)]) (bs' := [(some b6, Obj.cells [(Value.slice none 0 0), (Value.slice none 0 0), (Value.int .i64 0), (Value.bool false)].toArray 25)]) (i := 0) ty25 hs36 rfl rfl rfl rfl rfl (le_lit rfl) rfl rfl rfl ?_)
    intro w38 p39 hs40
    clear p39 hs36
    refine Rg_op rfl (op_assign (v := (Value.int .i64 1)) rfl ?_)
    refine Rg_nil ?_
    refine Wp_ret ?_
    have hz := step_all hs40
    refine ⟨_, (show Closes [] _ _ from rfl), [(Value.agg [(Value.slice none 0 0), (Value.slice none 0 0), (Value.int .i64 0), (Value.bool false)].toArray), (Value.int .i64 1)], ⟨resA (cs := [(Value.slice none 0 0), (Value.slice none 0 0), (Value.int .i64 0), (Value.bool false)]) (vs := [(Value.slice none 0 0), (Value.slice none 0 0), (Value.int .i64 0), (Value.bool false)]) ty25 (i := 0) hs40 rfl rfl rfl rfl, rfl, trivial⟩, hs40.ext, ?_⟩
    exact Vr.eq (a := (vT2 (vA rXDisk) (vI .i64))) (x := ((⟨([] : List (List UInt8)), ([] : List XWrite), 0, false⟩ : XDisk), 1)) (mkT2 (mkA (mkVia (mk_pair (mk_sl SlR.nil_) (mk_pair (mk_sl SlR.nil_) (mk_pair (mk_int (show InK .i64 0 from by decide)) mkBool))))) ⟨rfl, (show InK .i64 1 from by decide)⟩) (Option.some.inj hm)
   ·
    replace hm := bif_f hm hc35
    refine Wp_skip ?_
    refine Wp_seq ?_
    refine Wp_region ?_
    refine Rg_op rfl (op_move (v := (Value.int .i64 left)) rfl ?_)
    refine Rg_op rfl (op_fieldAddr ty25 rfl ty3 (by decide) rfl (rfl : _ = (⟨_, 2, none⟩ : Addr)) ?_)
    refine Rg_op_ (op_store (cs := [(Value.slice a_d_sectors d.sectors.length c_d_sectors), (Value.slice a_d_pending d.pending.length c_d_pending), (Value.int .i64 d.left), (Value.bool d.stopped)]) (vs := [(Value.int .i64 left)]) (cs' := [(Value.slice a_d_sectors d.sectors.length c_d_sectors), (Value.slice a_d_pending d.pending.length c_d_pending), (Value.int .i64 left), (Value.bool d.stopped)]) (bs' := [(some b6, Obj.cells [(Value.slice none 0 0), (Value.slice none 0 0), (Value.int .i64 0), (Value.bool false)].toArray 25), (some b1, Obj.cells [(Value.slice a_d_sectors d.sectors.length c_d_sectors), (Value.slice a_d_pending d.pending.length c_d_pending), (Value.int .i64 left), (Value.bool d.stopped)].toArray 25)]) (i := 1) ty3 hs31 rfl rfl rfl rfl rfl (le_lit rfl) rfl rfl rfl ?_)
    intro w41 p42 hs43
    replace f_d_sectors := f_d_sectors.step p42; replace f_d_pending := f_d_pending.step p42; clear p42 hs31
    refine Rg_nil ?_
    refine Wp_seq ?_
    refine Wp_region ?_
    refine Rg_op rfl (op_loadA (cs := [(Value.slice a_d_sectors d.sectors.length c_d_sectors), (Value.slice a_d_pending d.pending.length c_d_pending), (Value.int .i64 left), (Value.bool d.stopped)]) (vs := [(Value.slice a_d_sectors d.sectors.length c_d_sectors), (Value.slice a_d_pending d.pending.length c_d_pending), (Value.int .i64 left), (Value.bool d.stopped)]) (i := 1) ty25 hs43 rfl rfl rfl rfl ?_)
    refine Rg_op_ (op_store (cs := [(Value.slice none 0 0), (Value.slice none 0 0), (Value.int .i64 0), (Value.bool false)]) (vs := [(Value.slice a_d_sectors d.sectors.length c_d_sectors), (Value.slice a_d_pending d.pending.length c_d_pending), (Value.int .i64 left), (Value.bool d.stopped)]) (cs' := [(Value.slice a_d_sectors d.sectors.length c_d_sectors), (Value.slice a_d_pending d.pending.length c_d_pending), (Value.int .i64 left), (Value.bool d.stopped)]) (bs' := [(some b6, Obj.cells [(Value.slice a_d_sectors d.sectors.length c_d_sectors), (Value.slice a_d_pending d.pending.length c_d_pending), (Value.int .i64 left), (Value.bool d.stopped)].toArray 25), (some b1, Obj.cells [(Value.slice a_d_sectors d.sectors.length c_d_sectors), (Value.slice a_d_pending d.pending.length c_d_pending), (Value.int .i64 left), (Value.bool d.stopped)].toArray 25)]) (i := 0) ty25 hs43 rfl rfl rfl rfl rfl (le_lit rfl) rfl rfl rfl ?_)
    intro w44 p45 hs46
    replace f_d_sectors := f_d_sectors.step p45; replace f_d_pending := f_d_pending.step p45; clear p45 hs43
    refine Rg_op rfl (op_assign (v := (Value.int .i64 0)) rfl ?_)
    refine Rg_nil ?_
    refine Wp_ret ?_
    have hz := step_all hs46
    replace f_d_sectors := f_d_sectors.step hz; replace f_d_pending := f_d_pending.step hz
    refine ⟨_, (show Closes [] _ _ from rfl), [(Value.agg [(Value.slice a_d_sectors d.sectors.length c_d_sectors), (Value.slice a_d_pending d.pending.length c_d_pending), (Value.int .i64 left), (Value.bool d.stopped)].toArray), (Value.int .i64 0)], ⟨resA (cs := [(Value.slice a_d_sectors d.sectors.length c_d_sectors), (Value.slice a_d_pending d.pending.length c_d_pending), (Value.int .i64 left), (Value.bool d.stopped)]) (vs := [(Value.slice a_d_sectors d.sectors.length c_d_sectors), (Value.slice a_d_pending d.pending.length c_d_pending), (Value.int .i64 left), (Value.bool d.stopped)]) ty25 (i := 0) hs46 rfl rfl rfl rfl, rfl, trivial⟩, hs46.ext, ?_⟩
    exact Vr.eq (a := (vT2 (vA rXDisk) (vI .i64))) (x := ((⟨d.sectors, d.pending, left, d.stopped⟩ : XDisk), 0)) (mkT2 (mkA (mkVia (mk_pair (mk_sl f_d_sectors) (mk_pair (mk_sl f_d_pending) (mk_pair (mk_int r_left) mkBool))))) ⟨rfl, (show InK .i64 0 from by decide)⟩) (Option.some.inj hm)
  ·
   intro K29 hK29
   have ch47 := Step.refl (ks [(some b6, Obj.cells [(Value.slice none 0 0), (Value.slice none 0 0), (Value.int .i64 0), (Value.bool false)].toArray 25), (some b1, Obj.cells [(Value.slice a_d_sectors d.sectors.length c_d_sectors), (Value.slice a_d_pending d.pending.length c_d_pending), (Value.int .i64 d.left), (Value.bool d.stopped)].toArray 25)] O) w13
   refine Wp_region ?_
   refine Rg_op rfl (op_move (v := (Value.int .i64 left)) rfl ?_)
   refine Rg_op rfl (op_lss rfl rfl ?_)
   refine Rg_op rfl (op_move (v := (Value.bool (decide (left < 0)))) rfl ?_)
   refine Rg_case (fun hg48 => ?_) (fun hg48 => ?_)
   ·
    replace hm := bif_t hm hg48
    iterate 2 refine Rg_opx rfl (asB_ne rfl rfl) rfl ?_
    refine Rg_op rfl (op_pick_t (v := (Value.bool true)) rfl rfl ?_)
    refine Rg_op rfl (op_assign (v := (Value.bool true)) rfl ?_)
    refine Rg_nil ?_
    exact hK29 _ _ ⟨true, _, rfl, ⟨(by repeat (first | with_reducible exact Out.refl _ _ | refine Out.upd ?_ rfl | refine Out.updL ?_ rfl | refine Out.mix' ?_ rfl | exact Out.refl _ _)), rfl, rfl, trivial⟩, ch47, hs16, hm⟩
   ·
    replace hm := bif_f hm hg48
    refine Rg_opg rfl rfl rfl (op_move (v := (Value.int .i64 left)) rfl ?_)
    refine Rg_opg rfl rfl rfl (op_gtr rfl rfl ?_)
    refine Rg_op rfl (op_pick_f (v := (Value.bool (decide (65536 < left)))) rfl rfl ?_)
    refine Rg_op rfl (op_assign (v := (Value.bool (decide (65536 < left)))) rfl ?_)
    refine Rg_nil ?_
    exact hK29 _ _ ⟨(decide (65536 < left)), _, rfl, ⟨(by repeat (first | with_reducible exact Out.refl _ _ | refine Out.upd ?_ rfl | refine Out.updL ?_ rfl | refine Out.mix' ?_ rfl | exact Out.refl _ _)), rfl, rfl, trivial⟩, ch47, hs16, hm⟩

end Go.Fx



set_option linter.unusedVariables false
set_option linter.unusedSimpArgs false
set_option maxRecDepth 100000
set_option maxHeartbeats 0
namespace Go.Fx
open Go Go.RowKit Go.Proofs
def m54_journal_sectors (b : List UInt8) : Option Int :=
 some (max 1 (IntKind.wrap .i64 ((IntKind.wrap .i64 ((IntKind.wrap .i64 ((b.length : Int) + 112)) - 1)).tdiv 112)))

theorem c54_journal_sectors {w : World} {O : List Nat} {b : List UInt8} {a_b : Option Addr} {c_b : Nat} (hO : ∀ k ∈ O, k < w.heap.size) (f_b : SlR rU8 w O a_b c_b b) {x : Int} (hm : m54_journal_sectors b = some x) :
  Ok Try.prog 54 [(Value.slice a_b b.length c_b)] w O (vI .i64) x := by
 unfold m54_journal_sectors at hm
 refine Fn_of_Wp (n := 9) (xs := [.tmp 2]) Try.func54 rfl Try.ntmps54 Try.results54 rfl ?_
 have hs := St.start hO
 refine Wp_seq ?_
 refine Wp_region ?_
 refine Rg_op rfl (op_assign (v := (Value.int .i64 0)) rfl ?_)
 refine Rg_nil ?_
 refine Wp_seq ?_
 refine Wp_region ?_
 refine Rg_op rfl (op_move (v := (Value.slice a_b b.length c_b)) rfl ?_)
 refine Rg_op rfl (op_len Try.underlying41 rfl ?_)
 have rl1 := inK_len f_b
 refine Rg_op rfl (op_addw rfl rfl ?_)
 refine Rg_op rfl (op_subw rfl rfl ?_)
 refine Rg_op rfl (op_quo rfl rfl (by decide) ?_)
 refine Rg_op rfl (op_max rfl rfl ?_)
 refine Rg_op rfl (op_assign (v := (Value.int .i64 (max 1 (IntKind.wrap .i64 ((IntKind.wrap .i64 ((IntKind.wrap .i64 ((b.length : Int) + 112)) - 1)).tdiv 112))))) rfl ?_)
 refine Rg_nil ?_
 refine Wp_ret ?_
 have hz := step_all hs
 replace f_b := f_b.step hz
 refine ⟨_, (show Closes [] _ _ from rfl), [(Value.int .i64 (max 1 (IntKind.wrap .i64 ((IntKind.wrap .i64 ((IntKind.wrap .i64 ((b.length : Int) + 112)) - 1)).tdiv 112))))], ⟨rfl, trivial⟩, hs.ext, ?_⟩
 exact Vr.eq (a := (vI .i64)) (x := (max 1 (IntKind.wrap .i64 ((IntKind.wrap .i64 ((IntKind.wrap .i64 ((b.length : Int) + 112)) - 1)).tdiv 112)))) ⟨rfl, (inK_max (show InK .i64 1 from by decide) (inK_wrap .i64 _))⟩ (Option.some.inj hm)

end Go.Fx



set_option linter.unusedVariables false
set_option linter.unusedSimpArgs false
set_option maxRecDepth 100000
set_option maxHeartbeats 0
namespace Go.Fx
open Go Go.RowKit Go.Proofs
def m55_journal_used_B0 (l : List (List UInt8)) (sf5 : Int → Int → Option Int) (n_1 : Int) (v_1 : Int) : Option Int :=
 bif (decide (v_1 < (l.length : Int))) then
  ck ((0 : Int) ≤ v_1 ∧ v_1 < (l.length : Int)) <|
  (m54_journal_sectors (l.getD v_1.toNat default)).bind fun sectors_1 =>
  sf5 (IntKind.wrap .i64 (n_1 + sectors_1)) (IntKind.wrap .i64 (v_1 + 1))
 else
  some n_1

def m55_journal_used (l : List (List UInt8)) : Option Int :=
 loop2 (m55_journal_used_B0 l) (((l.length : Int) - 0).toNat + 1) 0 0

theorem c55_journal_used {w : World} {O : List Nat} {l : List (List UInt8)} {a_l : Option Addr} {c_l : Nat} (hO : ∀ k ∈ O, k < w.heap.size) (f_l : SlR (rSl rU8) w O a_l c_l l) {x : Int} (hm : m55_journal_used l = some x) :
  Ok Try.prog 55 [(Value.slice a_l l.length c_l)] w O (vI .i64) x := by
 unfold m55_journal_used at hm
 refine Fn_of_Wp (n := 17) (xs := [.tmp 2]) Try.func55 rfl Try.ntmps55 Try.results55 rfl ?_
 have hs := St.start hO
 refine Wp_seq ?_
 refine Wp_region ?_
 refine Rg_op rfl (op_assign (v := (Value.int .i64 0)) rfl ?_)
 refine Rg_nil ?_
 refine Wp_seq ?_
 refine Wp_seq ?_
 refine Wp_region ?_
 refine Rg_op rfl (op_move (v := (Value.slice a_l l.length c_l)) rfl ?_)
 refine Rg_op rfl (op_len Try.underlying22 rfl ?_)
 have rl1 := inK_len f_l
 refine Rg_op rfl (op_move (v := (Value.int .i64 0)) rfl ?_)
 refine Rg_nil ?_
 refine Wp_block ?_
 refine Wp_reset [] [(2, (Value.int .i64 0)), (5, (Value.slice a_l l.length c_l)), (6, (Value.int .i64 (l.length : Int))), (7, (Value.int .i64 0))] rfl ⟨rfl, rfl, rfl, rfl, trivial⟩ fun ξ4 => ?_
 refine Wp_loopM [2, 4, 7, 8, 9, 10, 11, 12, 13, 14, 15] (fun m fr w' => ∃ (n_1 : Int) (v_1 : Int) (Ebs : Ents), Ebs = [] ∧ fr [] [(2, (Value.int .i64 n_1)), (7, (Value.int .i64 v_1))] ∧ Step (ks [] O) w (ks Ebs O) w' ∧ St ⟨w, [], []⟩ O w' Ebs ∧ InK .i64 n_1 ∧ InK .i64 v_1 ∧ loop2 (m55_journal_used_B0 l) m n_1 v_1 = some x) (((l.length : Int) - 0).toNat + 1) ⟨0, 0, _, rfl, ⟨Out.refl _ _, rfl, rfl, rfl, trivial⟩, Step.refl _ _, hs, (show InK .i64 0 from by decide), (show InK .i64 0 from by decide), hm⟩ ?_ ?_
 · rintro _ _ ⟨_, _, _, _, _, _, _, _, _, hm⟩; exact loop2_z hm
 ·
  rintro m8 K7 hK7 ρ13 w9 ⟨n_1, v_1, Ebs, hEbs, hfr12, hst11, hs10, r_y2, r_y3, hm⟩
  obtain ⟨sf5, hsf6, hm⟩ := loop2_s hm; unfold m55_journal_used_B0 at hm
  subst hEbs; rw [hfr12.eq]; clear hfr12
  replace f_l := f_l.step hst11
  have ch14 := hst11
  refine Wp_seq ?_
  refine Wp_region ?_
  refine Rg_op rfl (op_lss rfl rfl ?_)
  refine Rg_nil ?_
  refine Wp_seq ?_
  refine Wp_cond rfl (fun hc15 => ?_) (fun hc15 => ?_)
  ·
   replace hm := bif_t hm hc15
   refine Wp_skip ?_
   refine Wp_seq ?_
   refine Wp_block ?_
   refine Wp_seq ?_
   refine Wp_region ?_
   replace hm := ck_some hm; obtain ⟨hc16, hm⟩ := hm
   refine Rg_op rfl (op_indexAddr (q := (rSl rU8)) ty22 ty41 rfl rfl f_l rfl hc16.1 hc16.2 ?_)
   intro p17 f18
   refine Rg_op rfl (op_loadP ty41 rfl f18 rfl ?_)
   intro v19 h20
   obtain ⟨a_y21, c_y21, rfl, f_y21⟩ := un_sl h20
   refine Rg_op rfl (op_assign (v := (Value.slice a_y21 (l.getD v_1.toNat default).length c_y21)) rfl ?_)
   refine Rg_nil ?_
   clear f18
   refine Wp_region ?_
   refine Rg_op rfl (op_move (v := (Value.int .i64 n_1)) rfl ?_)
   refine Rg_op rfl (op_move (v := (Value.slice a_y21 (l.getD v_1.toNat default).length c_y21)) rfl ?_)
   replace hm := bd hm; obtain ⟨sectors_1, hv22, hm⟩ := hm
   refine Rg_op rfl (op_call Try.call54 (c54_journal_sectors (b := (l.getD v_1.toNat default)) hs10.ltw f_y21 hv22) rfl ?_)
   rintro v23 w24 ⟨hx25, h26⟩
   have hs27 := hs10.call hx25
   have p28 := Step.ext (O := ks [] O) hx25
   clear hx25
   replace f_l := f_l.step p28; replace f_y21 := f_y21.step p28; replace ch14 := ch14.trans p28; clear p28 hs10
   obtain ⟨rfl, r_y29⟩ := h26
   refine Rg_op rfl (op_addw rfl rfl ?_)
   refine Rg_op rfl (op_assign (v := (Value.int .i64 (IntKind.wrap .i64 (n_1 + sectors_1)))) rfl ?_)
   refine Rg_nil ?_
   clear f_y21
   refine Wp_region ?_
   refine Rg_op rfl (op_addw rfl rfl ?_)
   refine Rg_op rfl (op_move (v := (Value.int .i64 (IntKind.wrap .i64 (v_1 + 1)))) rfl ?_)
   refine Rg_nil ?_
   exact hK7 _ _ ⟨(IntKind.wrap .i64 (n_1 + sectors_1)), (IntKind.wrap .i64 (v_1 + 1)), _, rfl, ⟨(by repeat (first | with_reducible exact Out.refl _ _ | refine Out.upd ?_ rfl | refine Out.updL ?_ rfl | refine Out.mix' ?_ rfl | exact Out.refl _ _)), rfl, rfl, rfl, trivial⟩, ch14, hs27, (inK_wrap .i64 _), (inK_wrap .i64 _), jnE2 hsf6 hm⟩
  ·
   replace hm := bif_f hm hc15
   refine Wp_exit ?_
   refine Wp_seq ?_
   clear f_l
   refine Wp_region ?_
   refine Rg_op rfl (op_move (v := (Value.int .i64 n_1)) rfl ?_)
   refine Rg_op rfl (op_assign (v := (Value.int .i64 n_1)) rfl ?_)
   refine Rg_nil ?_
   refine Wp_ret ?_
   have hz := step_all hs10
   refine ⟨_, (show Closes [] _ _ from rfl), [(Value.int .i64 n_1)], ⟨rfl, trivial⟩, hs10.ext, ?_⟩
   exact Vr.eq (a := (vI .i64)) (x := n_1) ⟨rfl, r_y2⟩ (Option.some.inj hm)

end Go.Fx



set_option linter.unusedVariables false
set_option linter.unusedSimpArgs false
set_option maxRecDepth 100000
set_option maxHeartbeats 0
namespace Go.Fx
open Go Go.RowKit Go.Proofs
def m32_journal_Check (l : XJournal) : Option Int :=
 jn (fun (v_1 : Bool) =>
  bif v_1 then
   some 1
  else
   some 0)
 (fun k8 =>
  bif (decide (l.many < 1)) then
   k8 true
  else
   bif (decide (4096 < l.many)) then
    k8 true
   else
    bif (decide (l.synced < 0)) then
     k8 true
    else
     bif (decide ((l.records.length : Int) < l.synced)) then
      k8 true
     else
      (m55_journal_used l.records).bind fun used_1 =>
      k8 (decide (l.many < used_1)))

theorem c32_journal_Check {w : World} {O : List Nat} {l : XJournal} {a_l_records : Option Addr} {c_l_records : Nat} (hO : ∀ k ∈ O, k < w.heap.size) (f_l_records : SlR (rSl rU8) w O a_l_records c_l_records l.records) (r_l_many : InK .i64 l.many) (r_l_synced : InK .i64 l.synced) {x : Int} (hm : m32_journal_Check l = some x) :
  Ok Try.prog 32 [(Value.agg [(Value.slice a_l_records l.records.length c_l_records), (Value.int .i64 l.many), (Value.int .i64 l.synced)].toArray)] w O (vI .i64) x := by
 unfold m32_journal_Check at hm
 refine Fn_of_Wp (n := 32) (xs := [.tmp 2]) Try.func32 rfl Try.ntmps32 Try.results32 rfl ?_
 have hs := St.start hO
 refine Wp_seq ?_
 refine Wp_region ?_
 refine Rg_op rfl (op_box (cs := [(Value.slice a_l_records l.records.length c_l_records), (Value.int .i64 l.many), (Value.int .i64 l.synced)]) hs rfl rfl ?_)
 intro b1 w2 _ p3 hs4
 replace f_l_records := f_l_records.step p3; clear p3
 refine Rg_op rfl (op_assign (v := (Value.int .i64 0)) rfl ?_)
 refine Rg_nil ?_
 refine Wp_seq ?_
 refine Wp_reset [] [(1, (Value.pointer (some ⟨b1, 0, none⟩)))] rfl ⟨rfl, trivial⟩ fun ξ6 => ?_
 replace hm := jn_elim hm; obtain ⟨k8, hk9, hm⟩ := hm
 refine Wp_seqJ [3, 4, 5, 6, 7, 8, 9, 10, 11, 12, 13, 14, 15, 16, 17, 18, 19, 20, 21, 22, 23, 24, 25, 26, 27, 28, 29, 30, 31] (fun fr w' => ∃ (v_1 : Bool) (Ebs : Ents), Ebs = [(some b1, Obj.cells [(Value.slice a_l_records l.records.length c_l_records), (Value.int .i64 l.many), (Value.int .i64 l.synced)].toArray 52)] ∧ fr [] [(31, (Value.bool v_1))] ∧ Step (ks [(some b1, Obj.cells [(Value.slice a_l_records l.records.length c_l_records), (Value.int .i64 l.many), (Value.int .i64 l.synced)].toArray 52)] O) w2 (ks Ebs O) w' ∧ St ⟨w, [], []⟩ O w' Ebs ∧ k8 v_1 = some x) ?_ ?_
 ·
  rintro ρ15 w11 ⟨v_1, Ebs, hEbs, hfr14, hst13, hs12, hm⟩
  replace hm := jnE1 hk9 hm
  subst hEbs; rw [hfr14.eq]; clear hfr14
  replace f_l_records := f_l_records.step hst13; clear hst13 hs4
  refine Wp_cond rfl (fun hc16 => ?_) (fun hc16 => ?_)
  ·
   replace hm := bif_t hm hc16
   refine Wp_seq ?_
   obtain ⟨hs17, p18⟩ := hs12.sub (bs' := []) (.cons _ List.Sublist.slnil)
   clear f_l_records
   clear p18 hs12
   refine Wp_region ?_
   refine Rg_op rfl (op_assign (v := (Value.int .i64 1)) rfl ?_)
   refine Rg_nil ?_
   refine Wp_ret ?_
   have hz := step_all hs17
   refine ⟨_, (show Closes [] _ _ from rfl), [(Value.int .i64 1)], ⟨rfl, trivial⟩, hs17.ext, ?_⟩
   exact Vr.eq (a := (vI .i64)) (x := 1) ⟨rfl, (show InK .i64 1 from by decide)⟩ (Option.some.inj hm)
  ·
   replace hm := bif_f hm hc16
   refine Wp_skip ?_
   refine Wp_seq ?_
   obtain ⟨hs19, p20⟩ := hs12.sub (bs' := []) (.cons _ List.Sublist.slnil)
   clear f_l_records
   clear p20 hs12
   refine Wp_region ?_
   refine Rg_op rfl (op_assign (v := (Value.int .i64 0)) rfl ?_)
   refine Rg_nil ?_
   refine Wp_ret ?_
   have hz := step_all hs19
   refine ⟨_, (show Closes [] _ _ from rfl), [(Value.int .i64 0)], ⟨rfl, trivial⟩, hs19.ext, ?_⟩
   exact Vr.eq (a := (vI .i64)) (x := 0) ⟨rfl, (show InK .i64 0 from by decide)⟩ (Option.some.inj hm)
 ·
  intro K10 hK10
  have ch21 := Step.refl (ks [(some b1, Obj.cells [(Value.slice a_l_records l.records.length c_l_records), (Value.int .i64 l.many), (Value.int .i64 l.synced)].toArray 52)] O) w2
  refine Wp_drawR (g0 := []) (m := 27) (fl := []) (TS_inv hs4) rfl (.inl rfl) rfl (by decide +kernel) ?_  -- 1
  refine Dw_eq (Value.pointer (some ⟨b1, 1, none⟩)) (fun ρ22 w23 g hle hi ht => ?_) ?_
  ·
   obtain ⟨-, hst, -⟩ := hle
   refine StepOp_plain (op_fieldAddr ty52 rfl ty3 (by decide) (ht 1 rfl) (rfl : _ = (⟨_, 1, none⟩ : Addr)) ?_)
   exact Goes.same hi rfl
  refine Dw_eq (Value.int .i64 l.many) (fun ρ25 w26 g hle hi ht => ?_) ?_
  ·
   obtain ⟨-, hst, -⟩ := hle
   have hsn := (Step.nx hi).1
   refine StepOp_plain (op_load (cs := [(Value.slice a_l_records l.records.length c_l_records), (Value.int .i64 l.many), (Value.int .i64 l.synced)]) (i := 0) ty3 hsn (ht 3 rfl) rfl rfl ?_)
   exact Goes.same hi rfl
  refine Dw_eq (Value.bool (decide (l.many < 1))) (fun ρ28 w29 g hle hi ht => ?_) ?_
  ·
   obtain ⟨-, hst, -⟩ := hle
   refine StepOp_plain (op_lss (ht 4 rfl) rfl ?_)
   exact Goes.same hi rfl
  refine Dw_opB (decide (l.many < 1)) (fun ρ31 w32 g hle hi ht => ?_) (fun hg34 => ?_) (fun hg34 => ?_)
  ·
   obtain ⟨-, hst, -⟩ := hle
   refine StepOp_plain (op_move (v := (Value.bool (decide (l.many < 1)))) (ht 5 rfl) ?_)
   exact Goes.same hi rfl
  ·
   replace hm := bif_t hm hg34
   refine Dw_skip (fun _ _ _ ht => wanted_x rfl (ht 6 rfl) rfl) ?_
   refine Dw_skip (fun _ _ _ ht => wanted_x rfl (ht 6 rfl) rfl) ?_
   refine Dw_skip (fun _ _ _ ht => wanted_x rfl (ht 6 rfl) rfl) ?_
   refine Dw_eq (Value.bool true) (fun ρ35 w36 g hle hi ht => ?_) ?_
   ·
    obtain ⟨-, hst, -⟩ := hle
    refine StepOp_plain (op_pick_t (v := (Value.bool true)) (ht 6 rfl) rfl ?_)
    exact Goes.same hi rfl
   refine Dw_eq (Value.bool true) (fun ρ38 w39 g hle hi ht => ?_) ?_
   ·
    obtain ⟨-, hst, -⟩ := hle
    refine StepOp_plain (op_move (v := (Value.bool true)) (ht 10 rfl) ?_)
    exact Goes.same hi rfl
   refine Dw_skip (fun _ _ _ ht => wanted_x rfl (ht 11 rfl) rfl) ?_
   refine Dw_skip (fun _ _ _ ht => wanted_x rfl (ht 11 rfl) rfl) ?_
   refine Dw_skip (fun _ _ _ ht => wanted_x rfl (ht 11 rfl) rfl) ?_
   refine Dw_eq (Value.bool true) (fun ρ41 w42 g hle hi ht => ?_) ?_
   ·
    obtain ⟨-, hst, -⟩ := hle
    refine StepOp_plain (op_pick_t (v := (Value.bool true)) (ht 11 rfl) rfl ?_)
    exact Goes.same hi rfl
   refine Dw_eq (Value.bool true) (fun ρ44 w45 g hle hi ht => ?_) ?_
   ·
    obtain ⟨-, hst, -⟩ := hle
    refine StepOp_plain (op_move (v := (Value.bool true)) (ht 15 rfl) ?_)
    exact Goes.same hi rfl
   refine Dw_skip (fun _ _ _ ht => wanted_x rfl (ht 16 rfl) rfl) ?_
   refine Dw_skip (fun _ _ _ ht => wanted_x rfl (ht 16 rfl) rfl) ?_
   refine Dw_skip (fun _ _ _ ht => wanted_x rfl (ht 16 rfl) rfl) ?_
   refine Dw_skip (fun _ _ _ ht => wanted_x rfl (ht 16 rfl) rfl) ?_
   refine Dw_skip (fun _ _ _ ht => wanted_x rfl (ht 16 rfl) rfl) ?_
   refine Dw_skip (fun _ _ _ ht => wanted_x rfl (ht 16 rfl) rfl) ?_
   refine Dw_eq (Value.bool true) (fun ρ47 w48 g hle hi ht => ?_) ?_
   ·
    obtain ⟨-, hst, -⟩ := hle
    refine StepOp_plain (op_pick_t (v := (Value.bool true)) (ht 16 rfl) rfl ?_)
    exact Goes.same hi rfl
   refine Dw_eq (Value.bool true) (fun ρ50 w51 g hle hi ht => ?_) ?_
   ·
    obtain ⟨-, hst, -⟩ := hle
    refine StepOp_plain (op_move (v := (Value.bool true)) (ht 23 rfl) ?_)
    exact Goes.same hi rfl
   refine Dw_skip (fun _ _ _ ht => wanted_x rfl (ht 24 rfl) rfl) ?_
   refine Dw_skip (fun _ _ _ ht => wanted_x rfl (ht 24 rfl) rfl) ?_
   refine Dw_skip (fun _ _ _ ht => wanted_x rfl (ht 24 rfl) rfl) ?_
   refine Dw_skip (fun _ _ _ ht => wanted_x rfl (ht 24 rfl) rfl) ?_
   refine Dw_skip (fun _ _ _ ht => wanted_x rfl (ht 24 rfl) rfl) ?_
   refine Dw_nil fun w57 g58 hl59 hi60 => ?_
   obtain ⟨-, hst61, -⟩ := hl59
   obtain ⟨hs63, p62⟩ := Step.nx hi60
   rintro _ rfl
   rintro _ rfl
   rintro _ rfl
   rintro _ rfl
   rintro _ rfl
   rintro _ rfl
   rintro _ rfl
   rintro _ rfl
   rintro _ rfl
   rintro _ rfl
   rintro _ rfl
   rintro _ rfl
   rintro _ rfl
   rintro _ rfl
   rintro _ rfl
   rintro _ rfl
   rintro _ rfl
   rintro _ rfl
   rintro _ rfl
   rintro _ rfl
   rintro _ rfl
   rintro _ rfl
   rintro _ rfl
   rintro _ rfl
   rintro _ rfl
   rintro _ rfl
   rintro _ rfl
   have p64 : Step (ks [(some b1, Obj.cells [(Value.slice a_l_records l.records.length c_l_records), (Value.int .i64 l.many), (Value.int .i64 l.synced)].toArray 52)] O) w2 (ks [(some b1, Obj.cells [(Value.slice a_l_records l.records.length c_l_records), (Value.int .i64 l.many), (Value.int .i64 l.synced)].toArray 52)] O) w57 := hst61.trans p62
   replace f_l_records := f_l_records.step p64; replace ch21 := ch21.trans p64; clear p64 hs4
   refine Rg_opx rfl (asB_ne rfl rfl) rfl ?_
   refine Rg_op rfl (op_pick_t (v := (Value.bool true)) rfl rfl ?_)
   refine Rg_nil ?_
   exact hK10 _ _ ⟨true, _, rfl, ⟨(by repeat (first | with_reducible exact Out.refl _ _ | refine Out.upd ?_ rfl | refine Out.updL ?_ rfl | refine Out.mix' ?_ rfl | exact Out.refl _ _)), rfl, rfl, trivial⟩, ch21, hs63, hm⟩
  ·
   replace hm := bif_f hm hg34
   refine Dw_eq (Value.pointer (some ⟨b1, 1, none⟩)) (fun ρ65 w66 g hle hi ht => ?_) ?_
   ·
    obtain ⟨-, hst, -⟩ := hle
    refine StepOp_g rfl (ht 6 rfl) (op_fieldAddr ty52 rfl ty3 (by decide) (ht 1 rfl) (rfl : _ = (⟨_, 1, none⟩ : Addr)) ?_)
    exact Goes.same hi rfl
   refine Dw_eq (Value.int .i64 l.many) (fun ρ68 w69 g hle hi ht => ?_) ?_
   ·
    obtain ⟨-, hst, -⟩ := hle
    have hsn := (Step.nx hi).1
    refine StepOp_g rfl (ht 6 rfl) (op_load (cs := [(Value.slice a_l_records l.records.length c_l_records), (Value.int .i64 l.many), (Value.int .i64 l.synced)]) (i := 0) ty3 hsn (ht 7 rfl) rfl rfl ?_)
    exact Goes.same hi rfl
   refine Dw_eq (Value.bool (decide (4096 < l.many))) (fun ρ71 w72 g hle hi ht => ?_) ?_
   ·
    obtain ⟨-, hst, -⟩ := hle
    refine StepOp_g rfl (ht 6 rfl) (op_gtr (ht 8 rfl) rfl ?_)
    exact Goes.same hi rfl
   refine Dw_eq (Value.bool (decide (4096 < l.many))) (fun ρ74 w75 g hle hi ht => ?_) ?_
   ·
    obtain ⟨-, hst, -⟩ := hle
    refine StepOp_plain (op_pick_f (v := (Value.bool (decide (4096 < l.many)))) (ht 6 rfl) (ht 9 rfl) ?_)
    exact Goes.same hi rfl
   refine Dw_opB (decide (4096 < l.many)) (fun ρ77 w78 g hle hi ht => ?_) (fun hg80 => ?_) (fun hg80 => ?_)
   ·
    obtain ⟨-, hst, -⟩ := hle
    refine StepOp_plain (op_move (v := (Value.bool (decide (4096 < l.many)))) (ht 10 rfl) ?_)
    exact Goes.same hi rfl
   ·
    replace hm := bif_t hm hg80
    refine Dw_skip (fun _ _ _ ht => wanted_x rfl (ht 11 rfl) rfl) ?_
    refine Dw_skip (fun _ _ _ ht => wanted_x rfl (ht 11 rfl) rfl) ?_
    refine Dw_skip (fun _ _ _ ht => wanted_x rfl (ht 11 rfl) rfl) ?_
    refine Dw_eq (Value.bool true) (fun ρ81 w82 g hle hi ht => ?_) ?_
    ·
     obtain ⟨-, hst, -⟩ := hle
     refine StepOp_plain (op_pick_t (v := (Value.bool true)) (ht 11 rfl) rfl ?_)
     exact Goes.same hi rfl
    refine Dw_eq (Value.bool true) (fun ρ84 w85 g hle hi ht => ?_) ?_
    ·
     obtain ⟨-, hst, -⟩ := hle
     refine StepOp_plain (op_move (v := (Value.bool true)) (ht 15 rfl) ?_)
     exact Goes.same hi rfl
    refine Dw_skip (fun _ _ _ ht => wanted_x rfl (ht 16 rfl) rfl) ?_
    refine Dw_skip (fun _ _ _ ht => wanted_x rfl (ht 16 rfl) rfl) ?_
    refine Dw_skip (fun _ _ _ ht => wanted_x rfl (ht 16 rfl) rfl) ?_
    refine Dw_skip (fun _ _ _ ht => wanted_x rfl (ht 16 rfl) rfl) ?_
    refine Dw_skip (fun _ _ _ ht => wanted_x rfl (ht 16 rfl) rfl) ?_
    refine Dw_skip (fun _ _ _ ht => wanted_x rfl (ht 16 rfl) rfl) ?_
    refine Dw_eq (Value.bool true) (fun ρ87 w88 g hle hi ht => ?_) ?_
    ·
     obtain ⟨-, hst, -⟩ := hle
     refine StepOp_plain (op_pick_t (v := (Value.bool true)) (ht 16 rfl) rfl ?_)
     exact Goes.same hi rfl
    refine Dw_eq (Value.bool true) (fun ρ90 w91 g hle hi ht => ?_) ?_
    ·
     obtain ⟨-, hst, -⟩ := hle
     refine StepOp_plain (op_move (v := (Value.bool true)) (ht 23 rfl) ?_)
     exact Goes.same hi rfl
    refine Dw_skip (fun _ _ _ ht => wanted_x rfl (ht 24 rfl) rfl) ?_
    refine Dw_skip (fun _ _ _ ht => wanted_x rfl (ht 24 rfl) rfl) ?_
    refine Dw_skip (fun _ _ _ ht => wanted_x rfl (ht 24 rfl) rfl) ?_
    refine Dw_skip (fun _ _ _ ht => wanted_x rfl (ht 24 rfl) rfl) ?_
    refine Dw_skip (fun _ _ _ ht => wanted_x rfl (ht 24 rfl) rfl) ?_
    refine Dw_nil fun w97 g98 hl99 hi100 => ?_
    obtain ⟨-, hst101, -⟩ := hl99
    obtain ⟨hs103, p102⟩ := Step.nx hi100
    rintro _ rfl
    rintro _ rfl
    rintro _ rfl
    rintro _ rfl
    rintro _ rfl
    rintro _ rfl
    rintro _ rfl
    rintro _ rfl
    rintro _ rfl
    rintro _ rfl
    rintro _ rfl
    rintro _ rfl
    rintro _ rfl
    rintro _ rfl
    rintro _ rfl
    rintro _ rfl
    rintro _ rfl
    rintro _ rfl
    rintro _ rfl
    rintro _ rfl
    rintro _ rfl
    rintro _ rfl
    rintro _ rfl
    rintro _ rfl
    rintro _ rfl
    rintro _ rfl
    rintro _ rfl
    have p104 : Step (ks [(some b1, Obj.cells [(Value.slice a_l_records l.records.length c_l_records), (Value.int .i64 l.many), (Value.int .i64 l.synced)].toArray 52)] O) w2 (ks [(some b1, Obj.cells [(Value.slice a_l_records l.records.length c_l_records), (Value.int .i64 l.many), (Value.int .i64 l.synced)].toArray 52)] O) w97 := hst101.trans p102
    replace f_l_records := f_l_records.step p104; replace ch21 := ch21.trans p104; clear p104 hs4
    refine Rg_opx rfl (asB_ne rfl rfl) rfl ?_
    refine Rg_op rfl (op_pick_t (v := (Value.bool true)) rfl rfl ?_)
    refine Rg_nil ?_
    exact hK10 _ _ ⟨true, _, rfl, ⟨(by repeat (first | with_reducible exact Out.refl _ _ | refine Out.upd ?_ rfl | refine Out.updL ?_ rfl | refine Out.mix' ?_ rfl | exact Out.refl _ _)), rfl, rfl, trivial⟩, ch21, hs103, hm⟩
   ·
    replace hm := bif_f hm hg80
    refine Dw_eq (Value.pointer (some ⟨b1, 2, none⟩)) (fun ρ105 w106 g hle hi ht => ?_) ?_
    ·
     obtain ⟨-, hst, -⟩ := hle
     refine StepOp_g rfl (ht 11 rfl) (op_fieldAddr ty52 rfl ty3 (by decide) (ht 1 rfl) (rfl : _ = (⟨_, 2, none⟩ : Addr)) ?_)
     exact Goes.same hi rfl
    refine Dw_eq (Value.int .i64 l.synced) (fun ρ108 w109 g hle hi ht => ?_) ?_
    ·
     obtain ⟨-, hst, -⟩ := hle
     have hsn := (Step.nx hi).1
     refine StepOp_g rfl (ht 11 rfl) (op_load (cs := [(Value.slice a_l_records l.records.length c_l_records), (Value.int .i64 l.many), (Value.int .i64 l.synced)]) (i := 0) ty3 hsn (ht 12 rfl) rfl rfl ?_)
     exact Goes.same hi rfl
    refine Dw_eq (Value.bool (decide (l.synced < 0))) (fun ρ111 w112 g hle hi ht => ?_) ?_
    ·
     obtain ⟨-, hst, -⟩ := hle
     refine StepOp_g rfl (ht 11 rfl) (op_lss (ht 13 rfl) rfl ?_)
     exact Goes.same hi rfl
    refine Dw_eq (Value.bool (decide (l.synced < 0))) (fun ρ114 w115 g hle hi ht => ?_) ?_
    ·
     obtain ⟨-, hst, -⟩ := hle
     refine StepOp_plain (op_pick_f (v := (Value.bool (decide (l.synced < 0)))) (ht 11 rfl) (ht 14 rfl) ?_)
     exact Goes.same hi rfl
    refine Dw_opB (decide (l.synced < 0)) (fun ρ117 w118 g hle hi ht => ?_) (fun hg120 => ?_) (fun hg120 => ?_)
    ·
     obtain ⟨-, hst, -⟩ := hle
     refine StepOp_plain (op_move (v := (Value.bool (decide (l.synced < 0)))) (ht 15 rfl) ?_)
     exact Goes.same hi rfl
    ·
     replace hm := bif_t hm hg120
     refine Dw_skip (fun _ _ _ ht => wanted_x rfl (ht 16 rfl) rfl) ?_
     refine Dw_skip (fun _ _ _ ht => wanted_x rfl (ht 16 rfl) rfl) ?_
     refine Dw_skip (fun _ _ _ ht => wanted_x rfl (ht 16 rfl) rfl) ?_
     refine Dw_skip (fun _ _ _ ht => wanted_x rfl (ht 16 rfl) rfl) ?_
     refine Dw_skip (fun _ _ _ ht => wanted_x rfl (ht 16 rfl) rfl) ?_
     refine Dw_skip (fun _ _ _ ht => wanted_x rfl (ht 16 rfl) rfl) ?_
     refine Dw_eq (Value.bool true) (fun ρ121 w122 g hle hi ht => ?_) ?_
     ·
      obtain ⟨-, hst, -⟩ := hle
      refine StepOp_plain (op_pick_t (v := (Value.bool true)) (ht 16 rfl) rfl ?_)
      exact Goes.same hi rfl
     refine Dw_eq (Value.bool true) (fun ρ124 w125 g hle hi ht => ?_) ?_
     ·
      obtain ⟨-, hst, -⟩ := hle
      refine StepOp_plain (op_move (v := (Value.bool true)) (ht 23 rfl) ?_)
      exact Goes.same hi rfl
     refine Dw_skip (fun _ _ _ ht => wanted_x rfl (ht 24 rfl) rfl) ?_
     refine Dw_skip (fun _ _ _ ht => wanted_x rfl (ht 24 rfl) rfl) ?_
     refine Dw_skip (fun _ _ _ ht => wanted_x rfl (ht 24 rfl) rfl) ?_
     refine Dw_skip (fun _ _ _ ht => wanted_x rfl (ht 24 rfl) rfl) ?_
     refine Dw_skip (fun _ _ _ ht => wanted_x rfl (ht 24 rfl) rfl) ?_
     refine Dw_nil fun w131 g132 hl133 hi134 => ?_
     obtain ⟨-, hst135, -⟩ := hl133
     obtain ⟨hs137, p136⟩ := Step.nx hi134
     rintro _ rfl
     rintro _ rfl
     rintro _ rfl
     rintro _ rfl
     rintro _ rfl
     rintro _ rfl
     rintro _ rfl
     rintro _ rfl
     rintro _ rfl
     rintro _ rfl
     rintro _ rfl
     rintro _ rfl
     rintro _ rfl
     rintro _ rfl
     rintro _ rfl
     rintro _ rfl
     rintro _ rfl
     rintro _ rfl
     rintro _ rfl
     rintro _ rfl
     rintro _ rfl
     rintro _ rfl
     rintro _ rfl
     rintro _ rfl
     rintro _ rfl
     rintro _ rfl
     rintro _ rfl
     have p138 : Step (ks [(some b1, Obj.cells [(Value.slice a_l_records l.records.length c_l_records), (Value.int .i64 l.many), (Value.int .i64 l.synced)].toArray 52)] O) w2 (ks [(some b1, Obj.cells [(Value.slice a_l_records l.records.length c_l_records), (Value.int .i64 l.many), (Value.int .i64 l.synced)].toArray 52)] O) w131 := hst135.trans p136
     replace f_l_records := f_l_records.step p138; replace ch21 := ch21.trans p138; clear p138 hs4
     refine Rg_opx rfl (asB_ne rfl rfl) rfl ?_
     refine Rg_op rfl (op_pick_t (v := (Value.bool true)) rfl rfl ?_)
     refine Rg_nil ?_
     exact hK10 _ _ ⟨true, _, rfl, ⟨(by repeat (first | with_reducible exact Out.refl _ _ | refine Out.upd ?_ rfl | refine Out.updL ?_ rfl | refine Out.mix' ?_ rfl | exact Out.refl _ _)), rfl, rfl, trivial⟩, ch21, hs137, hm⟩
    ·
     replace hm := bif_f hm hg120
     refine Dw_eq (Value.pointer (some ⟨b1, 2, none⟩)) (fun ρ139 w140 g hle hi ht => ?_) ?_
     ·
      obtain ⟨-, hst, -⟩ := hle
      refine StepOp_g rfl (ht 16 rfl) (op_fieldAddr ty52 rfl ty3 (by decide) (ht 1 rfl) (rfl : _ = (⟨_, 2, none⟩ : Addr)) ?_)
      exact Goes.same hi rfl
     refine Dw_eq (Value.int .i64 l.synced) (fun ρ142 w143 g hle hi ht => ?_) ?_
     ·
      obtain ⟨-, hst, -⟩ := hle
      have hsn := (Step.nx hi).1
      refine StepOp_g rfl (ht 16 rfl) (op_load (cs := [(Value.slice a_l_records l.records.length c_l_records), (Value.int .i64 l.many), (Value.int .i64 l.synced)]) (i := 0) ty3 hsn (ht 17 rfl) rfl rfl ?_)
      exact Goes.same hi rfl
     refine Dw_eq (Value.pointer (some ⟨b1, 0, none⟩)) (fun ρ145 w146 g hle hi ht => ?_) ?_
     ·
      obtain ⟨-, hst, -⟩ := hle
      refine StepOp_g rfl (ht 16 rfl) (op_fieldAddr ty52 rfl ty22 (by decide) (ht 1 rfl) (rfl : _ = (⟨_, 0, none⟩ : Addr)) ?_)
      exact Goes.same hi rfl
     refine Dw_eq (Value.slice a_l_records l.records.length c_l_records) (fun ρ148 w149 g hle hi ht => ?_) ?_
     ·
      obtain ⟨-, hst, -⟩ := hle
      have hsn := (Step.nx hi).1
      refine StepOp_g rfl (ht 16 rfl) (op_load (cs := [(Value.slice a_l_records l.records.length c_l_records), (Value.int .i64 l.many), (Value.int .i64 l.synced)]) (i := 0) ty22 hsn (ht 19 rfl) rfl rfl ?_)
      exact Goes.same hi rfl
     refine Dw_eq (Value.int .i64 (l.records.length : Int)) (fun ρ151 w152 g hle hi ht => ?_) ?_
     ·
      obtain ⟨-, hst, -⟩ := hle
      refine StepOp_g rfl (ht 16 rfl) (op_len Try.underlying22 (ht 20 rfl) ?_)
      exact Goes.same hi rfl
     refine Dw_eq (Value.bool (decide ((l.records.length : Int) < l.synced))) (fun ρ154 w155 g hle hi ht => ?_) ?_
     ·
      obtain ⟨-, hst, -⟩ := hle
      refine StepOp_g rfl (ht 16 rfl) (op_gtr (ht 18 rfl) (ht 21 rfl) ?_)
      exact Goes.same hi rfl
     refine Dw_eq (Value.bool (decide ((l.records.length : Int) < l.synced))) (fun ρ157 w158 g hle hi ht => ?_) ?_
     ·
      obtain ⟨-, hst, -⟩ := hle
      refine StepOp_plain (op_pick_f (v := (Value.bool (decide ((l.records.length : Int) < l.synced)))) (ht 16 rfl) (ht 22 rfl) ?_)
      exact Goes.same hi rfl
     refine Dw_opB (decide ((l.records.length : Int) < l.synced)) (fun ρ160 w161 g hle hi ht => ?_) (fun hg163 => ?_) (fun hg163 => ?_)
     ·
      obtain ⟨-, hst, -⟩ := hle
      refine StepOp_plain (op_move (v := (Value.bool (decide ((l.records.length : Int) < l.synced)))) (ht 23 rfl) ?_)
      exact Goes.same hi rfl
     ·
      replace hm := bif_t hm hg163
      refine Dw_skip (fun _ _ _ ht => wanted_x rfl (ht 24 rfl) rfl) ?_
      refine Dw_skip (fun _ _ _ ht => wanted_x rfl (ht 24 rfl) rfl) ?_
      refine Dw_skip (fun _ _ _ ht => wanted_x rfl (ht 24 rfl) rfl) ?_
      refine Dw_skip (fun _ _ _ ht => wanted_x rfl (ht 24 rfl) rfl) ?_
      refine Dw_skip (fun _ _ _ ht => wanted_x rfl (ht 24 rfl) rfl) ?_
      refine Dw_nil fun w168 g169 hl170 hi171 => ?_
      obtain ⟨-, hst172, -⟩ := hl170
      obtain ⟨hs174, p173⟩ := Step.nx hi171
      rintro _ rfl
      rintro _ rfl
      rintro _ rfl
      rintro _ rfl
      rintro _ rfl
      rintro _ rfl
      rintro _ rfl
      rintro _ rfl
      rintro _ rfl
      rintro _ rfl
      rintro _ rfl
      rintro _ rfl
      rintro _ rfl
      rintro _ rfl
      rintro _ rfl
      rintro _ rfl
      rintro _ rfl
      rintro _ rfl
      rintro _ rfl
      rintro _ rfl
      rintro _ rfl
      rintro _ rfl
      rintro _ rfl
      rintro _ rfl
      rintro _ rfl
      rintro _ rfl
      rintro _ rfl
      have p175 : Step (ks [(some b1, Obj.cells [(Value.slice a_l_records l.records.length c_l_records), (Value.int .i64 l.many), (Value.int .i64 l.synced)].toArray 52)] O) w2 (ks [(some b1, Obj.cells [(Value.slice a_l_records l.records.length c_l_records), (Value.int .i64 l.many), (Value.int .i64 l.synced)].toArray 52)] O) w168 := hst172.trans p173
      replace f_l_records := f_l_records.step p175; replace ch21 := ch21.trans p175; clear p175 hs4
      refine Rg_opx rfl (asB_ne rfl rfl) rfl ?_
      refine Rg_op rfl (op_pick_t (v := (Value.bool true)) rfl rfl ?_)
      refine Rg_nil ?_
      exact hK10 _ _ ⟨true, _, rfl, ⟨(by repeat (first | with_reducible exact Out.refl _ _ | refine Out.upd ?_ rfl | refine Out.updL ?_ rfl | refine Out.mix' ?_ rfl | exact Out.refl _ _)), rfl, rfl, trivial⟩, ch21, hs174, hm⟩
     ·
      replace hm := bif_f hm hg163
      refine Dw_eq (Value.pointer (some ⟨b1, 0, none⟩)) (fun ρ176 w177 g hle hi ht => ?_) ?_
      ·
       obtain ⟨-, hst, -⟩ := hle
       refine StepOp_g rfl (ht 24 rfl) (op_fieldAddr ty52 rfl ty22 (by decide) (ht 1 rfl) (rfl : _ = (⟨_, 0, none⟩ : Addr)) ?_)
       exact Goes.same hi rfl
      refine Dw_eq (Value.slice a_l_records l.records.length c_l_records) (fun ρ179 w180 g hle hi ht => ?_) ?_
      ·
       obtain ⟨-, hst, -⟩ := hle
       have hsn := (Step.nx hi).1
       refine StepOp_g rfl (ht 24 rfl) (op_load (cs := [(Value.slice a_l_records l.records.length c_l_records), (Value.int .i64 l.many), (Value.int .i64 l.synced)]) (i := 0) ty22 hsn (ht 25 rfl) rfl rfl ?_)
       exact Goes.same hi rfl
      replace hm := bd hm; obtain ⟨used_1, hv185, hm⟩ := hm
      refine Dw_op (VD O [(some b1, Obj.cells [(Value.slice a_l_records l.records.length c_l_records), (Value.int .i64 l.many), (Value.int .i64 l.synced)].toArray 52)] (vI .i64) used_1) (VD.stab _ _) (fun ρ182 w183 g hle hi ht => ?_) ?_
      ·
       obtain ⟨-, hst, -⟩ := hle
       replace f_l_records := f_l_records.step hst
       refine StepOp_g rfl (ht 24 rfl) (op_call Try.call55 (c55_journal_used (O := ks (ents g ++ [(some b1, Obj.cells [(Value.slice a_l_records l.records.length c_l_records), (Value.int .i64 l.many), (Value.int .i64 l.synced)].toArray 52)]) O) (l := l.records) hi.ltw f_l_records hv185) (by simp only [List.map, Array.toList, (show ev _ (.tmp 26) = _ from (ht 26 rfl))] <;> rfl) ?_)
       rintro v186 w187 ⟨hx188, h189⟩
       exact Goes.call hi hx188 h189
      refine Dw_eq (Value.pointer (some ⟨b1, 1, none⟩)) (fun ρ191 w192 g hle hi ht => ?_) ?_
      ·
       obtain ⟨-, hst, -⟩ := hle
       refine StepOp_g rfl (ht 24 rfl) (op_fieldAddr ty52 rfl ty3 (by decide) (ht 1 rfl) (rfl : _ = (⟨_, 1, none⟩ : Addr)) ?_)
       exact Goes.same hi rfl
      refine Dw_eq (Value.int .i64 l.many) (fun ρ194 w195 g hle hi ht => ?_) ?_
      ·
       obtain ⟨-, hst, -⟩ := hle
       have hsn := (Step.nx hi).1
       refine StepOp_g rfl (ht 24 rfl) (op_load (cs := [(Value.slice a_l_records l.records.length c_l_records), (Value.int .i64 l.many), (Value.int .i64 l.synced)]) (i := 0) ty3 hsn (ht 28 rfl) rfl rfl ?_)
       exact Goes.same hi rfl
      refine Dw_nil fun w201 g202 hl203 hi204 => ?_
      obtain ⟨-, hst205, -⟩ := hl203
      obtain ⟨hs207, p206⟩ := Step.nx hi204
      rintro _ rfl
      rintro _ rfl
      rintro v208 h209
      replace h209 : Vr.vd (vI .i64) _ _ _ _ := h209
      obtain ⟨rfl, r_y210⟩ := h209
      rintro _ rfl
      rintro _ rfl
      rintro _ rfl
      rintro _ rfl
      rintro _ rfl
      rintro _ rfl
      rintro _ rfl
      rintro _ rfl
      rintro _ rfl
      rintro _ rfl
      rintro _ rfl
      rintro _ rfl
      rintro _ rfl
      rintro _ rfl
      rintro _ rfl
      rintro _ rfl
      rintro _ rfl
      rintro _ rfl
      rintro _ rfl
      rintro _ rfl
      rintro _ rfl
      rintro _ rfl
      rintro _ rfl
      rintro _ rfl
      have p211 : Step (ks [(some b1, Obj.cells [(Value.slice a_l_records l.records.length c_l_records), (Value.int .i64 l.many), (Value.int .i64 l.synced)].toArray 52)] O) w2 (ks [(some b1, Obj.cells [(Value.slice a_l_records l.records.length c_l_records), (Value.int .i64 l.many), (Value.int .i64 l.synced)].toArray 52)] O) w201 := hst205.trans p206
      replace f_l_records := f_l_records.step p211; replace ch21 := ch21.trans p211; clear p211 hs4
      refine Rg_opg rfl rfl rfl (op_gtr rfl rfl ?_)
      refine Rg_op rfl (op_pick_f (v := (Value.bool (decide (l.many < used_1)))) rfl rfl ?_)
      refine Rg_nil ?_
      exact hK10 _ _ ⟨(decide (l.many < used_1)), _, rfl, ⟨(by repeat (first | with_reducible exact Out.refl _ _ | refine Out.upd ?_ rfl | refine Out.updL ?_ rfl | refine Out.mix' ?_ rfl | exact Out.refl _ _)), rfl, rfl, trivial⟩, ch21, hs207, hm⟩

end Go.Fx



set_option linter.unusedVariables false
set_option linter.unusedSimpArgs false
set_option maxRecDepth 100000
set_option maxHeartbeats 0
namespace Go.Fx
open Go Go.RowKit Go.Proofs
def m52_slices_Clonebyte_byte_ (s : List UInt8) : Option (List UInt8) :=
 ck ((([] : List UInt8).length + s.length) * 1 ≤ 140737488355328) <|
 some (([] : List UInt8) ++ s)

theorem g52_slices_Clonebyte_byte_ {w : World} {O : List Nat} {s : List UInt8} {a_s : Option Addr} {c_s : Nat} (hO : ∀ k ∈ O, k < w.heap.size) (f_s : SlR rU8 w O a_s c_s s) {x : (List UInt8)} (hm : m52_slices_Clonebyte_byte_ s = some x) :
  OkG Try.prog 52 [(Value.slice a_s s.length c_s)] w O rU8 5 x := by
 unfold m52_slices_Clonebyte_byte_ at hm
 refine Fn_of_Wp (n := 8) (xs := [.tmp 2]) Try.func52 rfl Try.ntmps52 Try.results52 rfl ?_
 have hs := St.start hO
 refine Wp_seq ?_
 refine Wp_region ?_
 refine Rg_op rfl (op_assign (v := (Value.slice none 0 0)) rfl ?_)
 refine Rg_nil ?_
 refine Wp_seq ?_
 refine Wp_seq ?_
 refine Wp_region ?_
 refine Rg_op rfl (op_move (v := (Value.slice a_s s.length c_s)) rfl ?_)
 refine Rg_op rfl (op_eqnil Try.underlying41 rfl rfl ?_)
 refine Rg_nil ?_
 rcases a_s with _ | ad1
 ·
  have hnil2 := (f_s.nil rfl).1
  refine Wp_cond_t rfl ?_
  refine Wp_seq ?_
  clear f_s
  refine Wp_region ?_
  refine Rg_op rfl (op_assign (v := (Value.slice none 0 0)) rfl ?_)
  refine Rg_nil ?_
  refine Wp_ret ?_
  refine ⟨_, (show Closes [] _ _ from rfl), [(Value.slice none 0 0)], ⟨rfl, trivial⟩, hs.ext, ?_⟩
  exact OkG.mkNil (by simp [ck, hnil2] at hm; first | exact hm | (subst hm; simp [hnil2]) | simpa using hm)
 ·
  refine Wp_cond_f rfl ?_
  refine Wp_skip ?_
  refine Wp_seq ?_
  refine Wp_region ?_
  refine Rg_op rfl (op_buildSlice (cs := []) (parts := []) ty41 ty5 hs (by decide) rfl ?_)
  intro b3 w4 hx7 p5 hs6
  replace f_s := f_s.step p5; clear p5
  refine Rg_op rfl (op_move (v := (Value.slice (some ad1) s.length c_s)) rfl ?_)
  have f9 := Gs.of_cells (p := rU8) (e := 5) (bl := b3) (c := 0) (w := w4) (O := ks [(some b3, Obj.cells [].toArray 5)] O) (show Els rU8 _ _ [] [] from Els.nil) rfl (le_lit rfl)
  replace hm := ck_some hm; obtain ⟨hc10, hm⟩ := hm
  obtain ⟨ns11, he12, hr13⟩ := f_s.src
  refine Rg_op rfl (op_append (q := rU8) (i := 0) (xs := ([] : List UInt8)) (ys := s) (news := ns11) ty41 ty5 rfl (by decide) hs6 rfl rfl f9 rfl hr13 he12 hc10 (by have := hc10; simp only [maxLen]; omega) ?_)
  intro a17 c18 k19 o20 w14 p15 hs16 f21
  replace f_s := f_s.step p15; clear p15 hs6
  refine Rg_op rfl (op_assign (v := (Value.slice a17 (([] : List UInt8) ++ s).length c18)) rfl ?_)
  refine Rg_nil ?_
  refine Wp_ret ?_
  refine ⟨_, (show Closes [] _ _ from rfl), [(Value.slice a17 (([] : List UInt8) ++ s).length c18)], ⟨rfl, trivial⟩, hs16.ext, ?_⟩
  exact OkG.mk (i := 0) hs16 rfl f21 (Option.some.inj hm)
end Go.Fx



set_option linter.unusedVariables false
set_option linter.unusedSimpArgs false
set_option maxRecDepth 100000
set_option maxHeartbeats 0
namespace Go.Fx
open Go Go.RowKit Go.Proofs
def m56_slices_Clipbyte_byte_ (s : List (List UInt8)) : Option (List (List UInt8)) :=
 ck ((0 : Int) ≤ (s.length : Int) ∧ (s.length : Int) ≤ (s.length : Int)) <|
 some ((s.drop 0).take (s.length - 0))

theorem c56_slices_Clipbyte_byte_ {w : World} {O : List Nat} {s : List (List UInt8)} {a_s : Option Addr} {c_s : Nat} (hO : ∀ k ∈ O, k < w.heap.size) (f_s : SlR (rSl rU8) w O a_s c_s s) {x : (List (List UInt8))} (hm : m56_slices_Clipbyte_byte_ s = some x) :
  Ok Try.prog 56 [(Value.slice a_s s.length c_s)] w O (vCl (rSl rU8)) x := by
 unfold m56_slices_Clipbyte_byte_ at hm
 refine Fn_of_Wp (n := 9) (xs := [.tmp 2]) Try.func56 rfl Try.ntmps56 Try.results56 rfl ?_
 have hs := St.start hO
 refine Wp_seq ?_
 refine Wp_region ?_
 refine Rg_op rfl (op_assign (v := (Value.slice none 0 0)) rfl ?_)
 refine Rg_nil ?_
 refine Wp_seq ?_
 refine Wp_region ?_
 refine Rg_op rfl (op_move (v := (Value.slice a_s s.length c_s)) rfl ?_)
 refine Rg_op rfl (op_move (v := (Value.slice a_s s.length c_s)) rfl ?_)
 refine Rg_op rfl (op_len Try.underlying22 rfl ?_)
 have rl1 := inK_len f_s
 refine Rg_op rfl (op_move (v := (Value.slice a_s s.length c_s)) rfl ?_)
 refine Rg_op rfl (op_len Try.underlying22 rfl ?_)
 have rl2 := inK_len f_s
 replace hm := ck_some hm; obtain ⟨hc3, hm⟩ := hm
 refine Rg_op rfl (op_slice (q := (rSl rU8)) (l := 0) (h := s.length) (m := s.length) ty22 ty41 rfl f_s rfl rfl (bndI rfl (by omega)) (bndI rfl (by omega)) (by decide) (by omega) (by omega) (by have h_ : s.length ≤ c_s := f_s.le; omega) (by have h_ : s.length ≤ c_s := f_s.le; omega) ?_)
 intro a4 f5
 refine Rg_op rfl (op_assign (v := (Value.slice a4 ((s.drop 0).take (s.length - 0)).length (s.length - 0))) rfl ?_)
 refine Rg_nil ?_
 refine Wp_ret ?_
 have hz := step_all hs
 replace f_s := f_s.step hz; replace f5 := f5.step hz
 refine ⟨_, (show Closes [] _ _ from rfl), [(Value.slice a4 ((s.drop 0).take (s.length - 0)).length (s.length - 0))], ⟨rfl, trivial⟩, hs.ext, ?_⟩
 exact Vr.eq (a := (vCl (rSl rU8))) (x := ((s.drop 0).take (s.length - 0))) (mkCl f5 (by simp)) (Option.some.inj hm)

end Go.Fx



set_option linter.unusedVariables false
set_option linter.unusedSimpArgs false
set_option maxRecDepth 100000
set_option maxHeartbeats 0
namespace Go.Fx
open Go Go.RowKit Go.Proofs
def m30_journal_Append (l : XJournal) (b : List UInt8) : Option (XJournal × Int) :=
 (m32_journal_Check l).bind fun check_1 =>
 bif (decide (check_1 ≠ 0)) then
  some ((⟨([] : List (List UInt8)), 0, 0⟩ : XJournal), check_1)
 else
  (m54_journal_sectors b).bind fun sectors_1 =>
  (m55_journal_used l.records).bind fun used_1 =>
  bif (decide ((IntKind.wrap .i64 (l.many - used_1)) < sectors_1)) then
   some ((⟨([] : List (List UInt8)), 0, 0⟩ : XJournal), 2)
  else
   (m56_slices_Clipbyte_byte_ l.records).bind fun clip_1 =>
   (m52_slices_Clonebyte_byte_ b).bind fun clone_1 =>
   ck ((clip_1.length + [clone_1].length) * 24 ≤ 140737488355328) <|
   some ((⟨(clip_1 ++ [clone_1]), l.many, l.synced⟩ : XJournal), 0)

theorem c30_journal_Append {w : World} {O : List Nat} {l : XJournal} {b : List UInt8} {a_l_records : Option Addr} {c_l_records : Nat} {a_b : Option Addr} {c_b : Nat} (hO : ∀ k ∈ O, k < w.heap.size) (f_l_records : SlR (rSl rU8) w O a_l_records c_l_records l.records) (r_l_many : InK .i64 l.many) (r_l_synced : InK .i64 l.synced) (f_b : SlR rU8 w O a_b c_b b) {x : XJournal × Int} (hm : m30_journal_Append l b = some x) :
  Ok Try.prog 30 [(Value.agg [(Value.slice a_l_records l.records.length c_l_records), (Value.int .i64 l.many), (Value.int .i64 l.synced)].toArray), (Value.slice a_b b.length c_b)] w O (vT2 (vA rXJournal) (vI .i64)) x := by
 unfold m30_journal_Append at hm
 refine Fn_of_Wp (n := 32) (xs := [.cell 4 52, .tmp 5]) Try.func30 rfl Try.ntmps30 Try.results30 rfl ?_
 have hs := St.start hO
 refine Wp_seq ?_
 refine Wp_region ?_
 refine Rg_op rfl (op_box (cs := [(Value.slice a_l_records l.records.length c_l_records), (Value.int .i64 l.many), (Value.int .i64 l.synced)]) hs rfl rfl ?_)
 intro b1 w2 _ p3 hs4
 replace f_l_records := f_l_records.step p3; replace f_b := f_b.step p3; clear p3
 refine Rg_op rfl (op_alloc ty52 hs4 ?_)
 intro b6 w7 _ p8 hs9
 replace f_l_records := f_l_records.step p8; replace f_b := f_b.step p8; clear p8 hs4
 refine Rg_op rfl (op_assign (v := (Value.int .i64 0)) rfl ?_)
 refine Rg_nil ?_
 refine Wp_seq ?_
 refine Wp_seq ?_
 refine Wp_region ?_
 refine Rg_op rfl (op_loadA (cs := [(Value.slice a_l_records l.records.length c_l_records), (Value.int .i64 l.many), (Value.int .i64 l.synced)]) (vs := [(Value.slice a_l_records l.records.length c_l_records), (Value.int .i64 l.many), (Value.int .i64 l.synced)]) (i := 1) ty52 hs9 rfl rfl rfl rfl ?_)
 replace hm := bd hm; obtain ⟨check_1, hv11, hm⟩ := hm
 refine Rg_op rfl (op_call Try.call32 (c32_journal_Check (l := l) hs9.ltw f_l_records r_l_many r_l_synced hv11) rfl ?_)
 rintro v12 w13 ⟨hx14, h15⟩
 have hs16 := hs9.call hx14
 have p17 := Step.ext (O := ks [(some b6, Obj.cells [(Value.slice none 0 0), (Value.int .i64 0), (Value.int .i64 0)].toArray 52), (some b1, Obj.cells [(Value.slice a_l_records l.records.length c_l_records), (Value.int .i64 l.many), (Value.int .i64 l.synced)].toArray 52)] O) hx14
 clear hx14
 replace f_l_records := f_l_records.step p17; replace f_b := f_b.step p17; clear p17 hs9
 obtain ⟨rfl, r_y18⟩ := h15
 refine Rg_op rfl (op_assign (v := (Value.int .i64 check_1)) rfl ?_)
 refine Rg_nil ?_
 refine Wp_seq ?_
 refine Wp_region ?_
 refine Rg_op rfl (op_move (v := (Value.int .i64 check_1)) rfl ?_)
 refine Rg_op rfl (op_neq rfl rfl ?_)
 refine Rg_nil ?_
 refine Wp_cond rfl (fun hc19 => ?_) (fun hc19 => ?_)
 ·
  replace hm := bif_t hm hc19
  refine Wp_seq ?_
  obtain ⟨hs20, p21⟩ := hs16.sub (bs' := [(some b6, Obj.cells [(Value.slice none 0 0), (Value.int .i64 0), (Value.int .i64 0)].toArray 52)]) (.cons_cons _ (.cons _ List.Sublist.slnil))
  clear f_l_records f_b
  clear p21 hs16
  refine Wp_region ?_
  refine Rg_op rfl (op_build (vs := [(Value.slice none 0 0), (Value.int .i64 0), (Value.int .i64 0)]) (parts := []) ty52 pl52 rfl ?_)
  refine Rg_op rfl (op_move (v := (Value.int .i64 check_1)) rfl ?_)
  refine Rg_op_ (op_store (cs := [(Value.slice none 0 0), (Value.int .i64 0), (Value.int .i64 0)]) (vs := [(Value.slice none 0 0), (Value.int .i64 0), (Value.int .i64 0)]) (cs' := [(Value.slice none 0 0), (Value.int .i64 0), (Value.int .i64 0)]) (bs' := [(some b6, Obj.cells [(Value.slice none 0 0), (Value.int .i64 0), (Value.int .i64 0)].toArray 52)]) (i := 0) ty52 hs20 rfl rfl rfl rfl rfl (le_lit rfl) rfl rfl rfl ?_)
  intro w22 p23 hs24
  clear p23 hs20
  refine Rg_op rfl (op_assign (v := (Value.int .i64 check_1)) rfl ?_)
  refine Rg_nil ?_
  refine Wp_ret ?_
  have hz := step_all hs24
  refine ⟨_, (show Closes [] _ _ from rfl), [(Value.agg [(Value.slice none 0 0), (Value.int .i64 0), (Value.int .i64 0)].toArray), (Value.int .i64 check_1)], ⟨resA (cs := [(Value.slice none 0 0), (Value.int .i64 0), (Value.int .i64 0)]) (vs := [(Value.slice none 0 0), (Value.int .i64 0), (Value.int .i64 0)]) ty52 (i := 0) hs24 rfl rfl rfl rfl, rfl, trivial⟩, hs24.ext, ?_⟩
  exact Vr.eq (a := (vT2 (vA rXJournal) (vI .i64))) (x := ((⟨([] : List (List UInt8)), 0, 0⟩ : XJournal), check_1)) (mkT2 (mkA (mkVia (mk_pair (mk_sl SlR.nil_) (mk_pair (mk_int (show InK .i64 0 from by decide)) (mk_int (show InK .i64 0 from by decide)))))) ⟨rfl, r_y18⟩) (Option.some.inj hm)
 ·
  replace hm := bif_f hm hc19
  refine Wp_skip ?_
  refine Wp_seq ?_
  refine Wp_seq ?_
  refine Wp_drawR (g0 := []) (m := 7) (fl := []) (TS_inv hs16) rfl (.inl rfl) rfl (by decide +kernel) ?_  -- 4
  refine Dw_eq (Value.slice a_b b.length c_b) (fun ρ25 w26 g hle hi ht => ?_) ?_
  ·
   obtain ⟨-, hst, -⟩ := hle
   refine StepOp_plain (op_move (v := (Value.slice a_b b.length c_b)) (ht 1 rfl) ?_)
   exact Goes.same hi rfl
  replace hm := bd hm; obtain ⟨sectors_1, hv31, hm⟩ := hm
  refine Dw_op (VD O [(some b6, Obj.cells [(Value.slice none 0 0), (Value.int .i64 0), (Value.int .i64 0)].toArray 52), (some b1, Obj.cells [(Value.slice a_l_records l.records.length c_l_records), (Value.int .i64 l.many), (Value.int .i64 l.synced)].toArray 52)] (vI .i64) sectors_1) (VD.stab _ _) (fun ρ28 w29 g hle hi ht => ?_) ?_
  ·
   obtain ⟨-, hst, -⟩ := hle
   replace f_b := f_b.step hst
   refine StepOp_plain (op_call Try.call54 (c54_journal_sectors (O := ks (ents g ++ [(some b6, Obj.cells [(Value.slice none 0 0), (Value.int .i64 0), (Value.int .i64 0)].toArray 52), (some b1, Obj.cells [(Value.slice a_l_records l.records.length c_l_records), (Value.int .i64 l.many), (Value.int .i64 l.synced)].toArray 52)]) O) (b := b) hi.ltw f_b hv31) (by simp only [List.map, Array.toList, (show ev _ (.tmp 13) = _ from (ht 13 rfl))] <;> rfl) ?_)
   rintro v32 w33 ⟨hx34, h35⟩
   exact Goes.call hi hx34 h35
  refine Dw_eq (Value.pointer (some ⟨b1, 1, none⟩)) (fun ρ37 w38 g hle hi ht => ?_) ?_
  ·
   obtain ⟨-, hst, -⟩ := hle
   refine StepOp_plain (op_fieldAddr ty52 rfl ty3 (by decide) (ht 2 rfl) (rfl : _ = (⟨_, 1, none⟩ : Addr)) ?_)
   exact Goes.same hi rfl
  refine Dw_eq (Value.int .i64 l.many) (fun ρ40 w41 g hle hi ht => ?_) ?_
  ·
   obtain ⟨-, hst, -⟩ := hle
   have hsn := (Step.nx hi).1
   refine StepOp_plain (op_load (cs := [(Value.slice a_l_records l.records.length c_l_records), (Value.int .i64 l.many), (Value.int .i64 l.synced)]) (i := 1) ty3 hsn (ht 15 rfl) rfl rfl ?_)
   exact Goes.same hi rfl
  refine Dw_eq (Value.pointer (some ⟨b1, 0, none⟩)) (fun ρ43 w44 g hle hi ht => ?_) ?_
  ·
   obtain ⟨-, hst, -⟩ := hle
   refine StepOp_plain (op_fieldAddr ty52 rfl ty22 (by decide) (ht 2 rfl) (rfl : _ = (⟨_, 0, none⟩ : Addr)) ?_)
   exact Goes.same hi rfl
  refine Dw_eq (Value.slice a_l_records l.records.length c_l_records) (fun ρ46 w47 g hle hi ht => ?_) ?_
  ·
   obtain ⟨-, hst, -⟩ := hle
   have hsn := (Step.nx hi).1
   refine StepOp_plain (op_load (cs := [(Value.slice a_l_records l.records.length c_l_records), (Value.int .i64 l.many), (Value.int .i64 l.synced)]) (i := 1) ty22 hsn (ht 17 rfl) rfl rfl ?_)
   exact Goes.same hi rfl
  replace hm := bd hm; obtain ⟨used_1, hv52, hm⟩ := hm
  refine Dw_op (VD O [(some b6, Obj.cells [(Value.slice none 0 0), (Value.int .i64 0), (Value.int .i64 0)].toArray 52), (some b1, Obj.cells [(Value.slice a_l_records l.records.length c_l_records), (Value.int .i64 l.many), (Value.int .i64 l.synced)].toArray 52)] (vI .i64) used_1) (VD.stab _ _) (fun ρ49 w50 g hle hi ht => ?_) ?_
  ·
   obtain ⟨-, hst, -⟩ := hle
   replace f_l_records := f_l_records.step hst
   refine StepOp_plain (op_call Try.call55 (c55_journal_used (O := ks (ents g ++ [(some b6, Obj.cells [(Value.slice none 0 0), (Value.int .i64 0), (Value.int .i64 0)].toArray 52), (some b1, Obj.cells [(Value.slice a_l_records l.records.length c_l_records), (Value.int .i64 l.many), (Value.int .i64 l.synced)].toArray 52)]) O) (l := l.records) hi.ltw f_l_records hv52) (by simp only [List.map, Array.toList, (show ev _ (.tmp 18) = _ from (ht 18 rfl))] <;> rfl) ?_)
   rintro v53 w54 ⟨hx55, h56⟩
   exact Goes.call hi hx55 h56
  refine Dw_nil fun w62 g63 hl64 hi65 => ?_
  obtain ⟨-, hst66, -⟩ := hl64
  obtain ⟨hs68, p67⟩ := Step.nx hi65
  rintro v69 h70
  replace h70 : Vr.vd (vI .i64) _ _ _ _ := h70
  obtain ⟨rfl, r_y71⟩ := h70
  rintro _ rfl
  rintro _ rfl
  rintro _ rfl
  rintro _ rfl
  rintro v72 h73
  replace h73 : Vr.vd (vI .i64) _ _ _ _ := h73
  obtain ⟨rfl, r_y74⟩ := h73
  rintro _ rfl
  have p75 : Step (ks [(some b6, Obj.cells [(Value.slice none 0 0), (Value.int .i64 0), (Value.int .i64 0)].toArray 52), (some b1, Obj.cells [(Value.slice a_l_records l.records.length c_l_records), (Value.int .i64 l.many), (Value.int .i64 l.synced)].toArray 52)] O) w13 (ks [(some b6, Obj.cells [(Value.slice none 0 0), (Value.int .i64 0), (Value.int .i64 0)].toArray 52), (some b1, Obj.cells [(Value.slice a_l_records l.records.length c_l_records), (Value.int .i64 l.many), (Value.int .i64 l.synced)].toArray 52)] O) w62 := hst66.trans p67
  replace f_l_records := f_l_records.step p75; replace f_b := f_b.step p75; clear p75 hs16
  refine Rg_op rfl (op_subw rfl rfl ?_)
  refine Rg_op rfl (op_gtr rfl rfl ?_)
  refine Rg_nil ?_
  refine Wp_cond rfl (fun hc76 => ?_) (fun hc76 => ?_)
  ·
   replace hm := bif_t hm hc76
   refine Wp_seq ?_
   obtain ⟨hs77, p78⟩ := hs68.sub (bs' := [(some b6, Obj.cells [(Value.slice none 0 0), (Value.int .i64 0), (Value.int .i64 0)].toArray 52)]) (.cons_cons _ (.cons _ List.Sublist.slnil))
   clear f_l_records f_b
   clear p78 hs68
   refine Wp_region ?_
   refine Rg_op rfl (op_build (vs := [(Value.slice none 0 0), (Value.int .i64 0), (Value.int .i64 0)]) (parts := []) ty52 pl52 rfl ?_)
   refine Rg_op_ (op_store (cs := [(Value.slice none 0 0), (Value.int .i64 0), (Value.int .i64 0)]) (vs := [(Value.slice none 0 0), (Value.int .i64 0), (Value.int .i64 0)]) (cs' := [(Value.slice none 0 0), (Value.int .i64 0), (Value.int .i64 0)]) (bs' := [(some b6, Obj.cells [(Value.slice none 0 0), (Value.int .i64 0), (Value.int .i64 0)].toArray 52)]) (i := 0) ty52 hs77 rfl rfl rfl rfl rfl (le_lit rfl) rfl rfl rfl ?_)
   intro w79 p80 hs81
   clear p80 hs77
   refine Rg_op rfl (op_assign (v := (Value.int .i64 2)) rfl ?_)
   refine Rg_nil ?_
   refine Wp_ret ?_
   have hz := step_all hs81
   refine ⟨_, (show Closes [] _ _ from rfl), [(Value.agg [(Value.slice none 0 0), (Value.int .i64 0), (Value.int .i64 0)].toArray), (Value.int .i64 2)], ⟨resA (cs := [(Value.slice none 0 0), (Value.int .i64 0), (Value.int .i64 0)]) (vs := [(Value.slice none 0 0), (Value.int .i64 0), (Value.int .i64 0)]) ty52 (i := 0) hs81 rfl rfl rfl rfl, rfl, trivial⟩, hs81.ext, ?_⟩
   exact Vr.eq (a := (vT2 (vA rXJournal) (vI .i64))) (x := ((⟨([] : List (List UInt8)), 0, 0⟩ : XJournal), 2)) (mkT2 (mkA (mkVia (mk_pair (mk_sl SlR.nil_) (mk_pair (mk_int (show InK .i64 0 from by decide)) (mk_int (show InK .i64 0 from by decide)))))) ⟨rfl, (show InK .i64 2 from by decide)⟩) (Option.some.inj hm)
  ·
   replace hm := bif_f hm hc76
   refine Wp_skip ?_
   refine Wp_seq ?_
   refine Wp_region ?_
   refine Rg_op rfl (op_fieldAddr ty52 rfl ty22 (by decide) rfl (rfl : _ = (⟨_, 0, none⟩ : Addr)) ?_)
   refine Rg_op rfl (op_load (cs := [(Value.slice a_l_records l.records.length c_l_records), (Value.int .i64 l.many), (Value.int .i64 l.synced)]) (i := 1) ty22 hs68 rfl rfl rfl ?_)
   replace hm := bd hm; obtain ⟨clip_1, hv82, hm⟩ := hm
   refine Rg_op rfl (op_call Try.call56 (c56_slices_Clipbyte_byte_ (s := l.records) hs68.ltw f_l_records hv82) rfl ?_)
   rintro v83 w84 ⟨hx85, h86⟩
   have hs87 := hs68.call hx85
   have p88 := Step.ext (O := ks [(some b6, Obj.cells [(Value.slice none 0 0), (Value.int .i64 0), (Value.int .i64 0)].toArray 52), (some b1, Obj.cells [(Value.slice a_l_records l.records.length c_l_records), (Value.int .i64 l.many), (Value.int .i64 l.synced)].toArray 52)] O) hx85
   clear hx85
   replace f_l_records := f_l_records.step p88; replace f_b := f_b.step p88; clear p88 hs68
   obtain ⟨a89, rfl, f90⟩ := h86
   refine Rg_op rfl (op_move (v := (Value.slice a_b b.length c_b)) rfl ?_)
   replace hm := bd hm; obtain ⟨clone_1, hv91, hm⟩ := hm
   refine Rg_op rfl (op_call Try.call52 (g52_slices_Clonebyte_byte_ (s := b) hs87.ltw f_b hv91) rfl ?_)
   rintro _ w93 ⟨hx94, a97, c98, k99, o100, rfl, hk101, f102⟩
   obtain ⟨hs96, p103⟩ := hs87.callG (o := o100) hx94 hk101
   rw [← ks_cons (o := o100)] at f102
   replace f_l_records := f_l_records.step p103; replace f_b := f_b.step p103; replace f90 := f90.step p103; clear p103 hs87
   obtain ⟨hs106, p107, f105⟩ := Gs.publish (i := 0) hs96 rfl f102
   replace f_l_records := f_l_records.step p107; replace f_b := f_b.step p107; replace f90 := f90.step p107; clear p107 hs96
   refine Rg_op rfl (op_buildSlice (cs := [(Value.slice a97 clone_1.length c98)]) (parts := [(0, .tmp 27)]) ty22 ty41 hs106 (by decide) rfl ?_)
   intro b108 w109 hx112 p110 hs111
   replace f_l_records := f_l_records.step p110; replace f_b := f_b.step p110; replace f90 := f90.step p110; replace f105 := f105.step p110; clear p110 hs106
   replace hm := ck_some hm; obtain ⟨hc114, hm⟩ := hm
   refine Rg_op rfl (op_appendP (q := (rSl rU8)) (xs := clip_1) (ys := [clone_1]) (news := [(Value.slice a97 clone_1.length c98)]) ty22 ty41 rfl (by decide) hs111 rfl f90 rfl (Src.owned' (len := 1) (hs111.get (i := 0) rfl) rfl) (show Els (rSl rU8) _ _ [(Value.slice a97 clone_1.length c98)] [clone_1] from ⟨_, _, rfl, (mk_sl f105), Els.nil⟩) (le_lit rfl) hc114 (by have := hc114; simp only [maxLen]; omega) ?_)
   intro a118 c119 w115 p116 hs117 f120
   replace f_l_records := f_l_records.step p116; replace f_b := f_b.step p116; replace f90 := f90.step p116; replace f105 := f105.step p116; clear p116 hs111
   have hs121 := hs117.drop 0
   replace f_l_records := f_l_records.step (hs117.dropS 0)
   replace f_b := f_b.step (hs117.dropS 0)
   replace f90 := f90.step (hs117.dropS 0)
   replace f105 := f105.step (hs117.dropS 0)
   replace f120 := f120.step (hs117.dropS 0); clear hs117
   refine Rg_op rfl (op_fieldAddr ty52 rfl ty22 (by decide) rfl (rfl : _ = (⟨_, 0, none⟩ : Addr)) ?_)
   refine Rg_op_ (op_store (cs := [(Value.slice a_l_records l.records.length c_l_records), (Value.int .i64 l.many), (Value.int .i64 l.synced)]) (vs := [(Value.slice a118 (clip_1 ++ [clone_1]).length c119)]) (cs' := [(Value.slice a118 (clip_1 ++ [clone_1]).length c119), (Value.int .i64 l.many), (Value.int .i64 l.synced)]) (bs' := [(some b6, Obj.cells [(Value.slice none 0 0), (Value.int .i64 0), (Value.int .i64 0)].toArray 52), (some b1, Obj.cells [(Value.slice a118 (clip_1 ++ [clone_1]).length c119), (Value.int .i64 l.many), (Value.int .i64 l.synced)].toArray 52)]) (i := 1) ty22 hs121 rfl rfl rfl rfl rfl (le_lit rfl) rfl rfl rfl ?_)
   intro w122 p123 hs124
   replace f_l_records := f_l_records.step p123; replace f_b := f_b.step p123; replace f90 := f90.step p123; replace f105 := f105.step p123; replace f120 := f120.step p123; clear p123 hs121
   refine Rg_nil ?_
   refine Wp_seq ?_
   clear f_l_records f_b f90 f105
   refine Wp_reset [] [(2, (Value.pointer (some ⟨b1, 0, none⟩))), (4, (Value.pointer (some ⟨b6, 0, none⟩)))] rfl ⟨rfl, rfl, trivial⟩ fun ξ125 => ?_
   refine Wp_region ?_
   refine Rg_op rfl (op_loadA (cs := [(Value.slice a118 (clip_1 ++ [clone_1]).length c119), (Value.int .i64 l.many), (Value.int .i64 l.synced)]) (vs := [(Value.slice a118 (clip_1 ++ [clone_1]).length c119), (Value.int .i64 l.many), (Value.int .i64 l.synced)]) (i := 1) ty52 hs124 rfl rfl rfl rfl ?_)
   refine Rg_op_ (op_store (cs := [(Value.slice none 0 0), (Value.int .i64 0), (Value.int .i64 0)]) (vs := [(Value.slice a118 (clip_1 ++ [clone_1]).length c119), (Value.int .i64 l.many), (Value.int .i64 l.synced)]) (cs' := [(Value.slice a118 (clip_1 ++ [clone_1]).length c119), (Value.int .i64 l.many), (Value.int .i64 l.synced)]) (bs' := [(some b6, Obj.cells [(Value.slice a118 (clip_1 ++ [clone_1]).length c119), (Value.int .i64 l.many), (Value.int .i64 l.synced)].toArray 52), (some b1, Obj.cells [(Value.slice a118 (clip_1 ++ [clone_1]).length c119), (Value.int .i64 l.many), (Value.int .i64 l.synced)].toArray 52)]) (i := 0) ty52 hs124 rfl rfl rfl rfl rfl (le_lit rfl) rfl rfl rfl ?_)
   intro w126 p127 hs128
   replace f120 := f120.step p127; clear p127 hs124
   refine Rg_op rfl (op_assign (v := (Value.int .i64 0)) rfl ?_)
   refine Rg_nil ?_
   refine Wp_ret ?_
   have hz := step_all hs128
   replace f120 := f120.step hz
   refine ⟨_, (show Closes [] _ _ from rfl), [(Value.agg [(Value.slice a118 (clip_1 ++ [clone_1]).length c119), (Value.int .i64 l.many), (Value.int .i64 l.synced)].toArray), (Value.int .i64 0)], ⟨resA (cs := [(Value.slice a118 (clip_1 ++ [clone_1]).length c119), (Value.int .i64 l.many), (Value.int .i64 l.synced)]) (vs := [(Value.slice a118 (clip_1 ++ [clone_1]).length c119), (Value.int .i64 l.many), (Value.int .i64 l.synced)]) ty52 (i := 0) hs128 rfl rfl rfl rfl, rfl, trivial⟩, hs128.ext, ?_⟩
   exact Vr.eq (a := (vT2 (vA rXJournal) (vI .i64))) (x := ((⟨(clip_1 ++ [clone_1]), l.many, l.synced⟩ : XJournal), 0)) (mkT2 (mkA (mkVia (mk_pair (mk_sl f120) (mk_pair (mk_int r_l_many) (mk_int r_l_synced))))) ⟨rfl, (show InK .i64 0 from by decide)⟩) (Option.some.inj hm)

end Go.Fx



set_option linter.unusedVariables false
set_option linter.unusedSimpArgs false
set_option maxRecDepth 100000
set_option maxHeartbeats 0
namespace Go.Fx
open Go Go.RowKit Go.Proofs
def m34_journal_Room (l : XJournal) : Option Int :=
 (m32_journal_Check l).bind fun check_1 =>
 bif (decide (check_1 ≠ 0)) then
  some 0
 else
  (m55_journal_used l.records).bind fun used_1 =>
  some (IntKind.wrap .i64 (112 * (IntKind.wrap .i64 (l.many - used_1))))

theorem c34_journal_Room {w : World} {O : List Nat} {l : XJournal} {a_l_records : Option Addr} {c_l_records : Nat} (hO : ∀ k ∈ O, k < w.heap.size) (f_l_records : SlR (rSl rU8) w O a_l_records c_l_records l.records) (r_l_many : InK .i64 l.many) (r_l_synced : InK .i64 l.synced) {x : Int} (hm : m34_journal_Room l = some x) :
  Ok Try.prog 34 [(Value.agg [(Value.slice a_l_records l.records.length c_l_records), (Value.int .i64 l.many), (Value.int .i64 l.synced)].toArray)] w O (vI .i64) x := by
 unfold m34_journal_Room at hm
 refine Fn_of_Wp (n := 13) (xs := [.tmp 2]) Try.func34 rfl Try.ntmps34 Try.results34 rfl ?_
 have hs := St.start hO
 refine Wp_seq ?_
 refine Wp_region ?_
 refine Rg_op rfl (op_box (cs := [(Value.slice a_l_records l.records.length c_l_records), (Value.int .i64 l.many), (Value.int .i64 l.synced)]) hs rfl rfl ?_)
 intro b1 w2 _ p3 hs4
 replace f_l_records := f_l_records.step p3; clear p3
 refine Rg_op rfl (op_assign (v := (Value.int .i64 0)) rfl ?_)
 refine Rg_nil ?_
 refine Wp_seq ?_
 refine Wp_seq ?_
 refine Wp_region ?_
 refine Rg_op rfl (op_loadA (cs := [(Value.slice a_l_records l.records.length c_l_records), (Value.int .i64 l.many), (Value.int .i64 l.synced)]) (vs := [(Value.slice a_l_records l.records.length c_l_records), (Value.int .i64 l.many), (Value.int .i64 l.synced)]) (i := 0) ty52 hs4 rfl rfl rfl rfl ?_)
 replace hm := bd hm; obtain ⟨check_1, hv6, hm⟩ := hm
 refine Rg_op rfl (op_call Try.call32 (c32_journal_Check (l := l) hs4.ltw f_l_records r_l_many r_l_synced hv6) rfl ?_)
 rintro v7 w8 ⟨hx9, h10⟩
 have hs11 := hs4.call hx9
 have p12 := Step.ext (O := ks [(some b1, Obj.cells [(Value.slice a_l_records l.records.length c_l_records), (Value.int .i64 l.many), (Value.int .i64 l.synced)].toArray 52)] O) hx9
 clear hx9
 replace f_l_records := f_l_records.step p12; clear p12 hs4
 obtain ⟨rfl, r_y13⟩ := h10
 refine Rg_op rfl (op_neq rfl rfl ?_)
 refine Rg_nil ?_
 refine Wp_cond rfl (fun hc14 => ?_) (fun hc14 => ?_)
 ·
  replace hm := bif_t hm hc14
  refine Wp_seq ?_
  obtain ⟨hs15, p16⟩ := hs11.sub (bs' := []) (.cons _ List.Sublist.slnil)
  clear f_l_records
  clear p16 hs11
  refine Wp_region ?_
  refine Rg_op rfl (op_assign (v := (Value.int .i64 0)) rfl ?_)
  refine Rg_nil ?_
  refine Wp_ret ?_
  have hz := step_all hs15
  refine ⟨_, (show Closes [] _ _ from rfl), [(Value.int .i64 0)], ⟨rfl, trivial⟩, hs15.ext, ?_⟩
  exact Vr.eq (a := (vI .i64)) (x := 0) ⟨rfl, (show InK .i64 0 from by decide)⟩ (Option.some.inj hm)
 ·
  replace hm := bif_f hm hc14
  refine Wp_skip ?_
  refine Wp_seq ?_
  refine Wp_drawR (g0 := []) (m := 5) (fl := []) (TS_inv hs11) rfl (.inl rfl) rfl (by decide +kernel) ?_  -- 3
  refine Dw_eq (Value.pointer (some ⟨b1, 1, none⟩)) (fun ρ17 w18 g hle hi ht => ?_) ?_
  ·
   obtain ⟨-, hst, -⟩ := hle
   refine StepOp_plain (op_fieldAddr ty52 rfl ty3 (by decide) (ht 1 rfl) (rfl : _ = (⟨_, 1, none⟩ : Addr)) ?_)
   exact Goes.same hi rfl
  refine Dw_eq (Value.int .i64 l.many) (fun ρ20 w21 g hle hi ht => ?_) ?_
  ·
   obtain ⟨-, hst, -⟩ := hle
   have hsn := (Step.nx hi).1
   refine StepOp_plain (op_load (cs := [(Value.slice a_l_records l.records.length c_l_records), (Value.int .i64 l.many), (Value.int .i64 l.synced)]) (i := 0) ty3 hsn (ht 6 rfl) rfl rfl ?_)
   exact Goes.same hi rfl
  refine Dw_eq (Value.pointer (some ⟨b1, 0, none⟩)) (fun ρ23 w24 g hle hi ht => ?_) ?_
  ·
   obtain ⟨-, hst, -⟩ := hle
   refine StepOp_plain (op_fieldAddr ty52 rfl ty22 (by decide) (ht 1 rfl) (rfl : _ = (⟨_, 0, none⟩ : Addr)) ?_)
   exact Goes.same hi rfl
  refine Dw_eq (Value.slice a_l_records l.records.length c_l_records) (fun ρ26 w27 g hle hi ht => ?_) ?_
  ·
   obtain ⟨-, hst, -⟩ := hle
   have hsn := (Step.nx hi).1
   refine StepOp_plain (op_load (cs := [(Value.slice a_l_records l.records.length c_l_records), (Value.int .i64 l.many), (Value.int .i64 l.synced)]) (i := 0) ty22 hsn (ht 8 rfl) rfl rfl ?_)
   exact Goes.same hi rfl
  replace hm := bd hm; obtain ⟨used_1, hv32, hm⟩ := hm
  refine Dw_op (VD O [(some b1, Obj.cells [(Value.slice a_l_records l.records.length c_l_records), (Value.int .i64 l.many), (Value.int .i64 l.synced)].toArray 52)] (vI .i64) used_1) (VD.stab _ _) (fun ρ29 w30 g hle hi ht => ?_) ?_
  ·
   obtain ⟨-, hst, -⟩ := hle
   replace f_l_records := f_l_records.step hst
   refine StepOp_plain (op_call Try.call55 (c55_journal_used (O := ks (ents g ++ [(some b1, Obj.cells [(Value.slice a_l_records l.records.length c_l_records), (Value.int .i64 l.many), (Value.int .i64 l.synced)].toArray 52)]) O) (l := l.records) hi.ltw f_l_records hv32) (by simp only [List.map, Array.toList, (show ev _ (.tmp 9) = _ from (ht 9 rfl))] <;> rfl) ?_)
   rintro v33 w34 ⟨hx35, h36⟩
   exact Goes.call hi hx35 h36
  refine Dw_nil fun w42 g43 hl44 hi45 => ?_
  obtain ⟨-, hst46, -⟩ := hl44
  obtain ⟨hs48, p47⟩ := Step.nx hi45
  rintro v49 h50
  replace h50 : Vr.vd (vI .i64) _ _ _ _ := h50
  obtain ⟨rfl, r_y51⟩ := h50
  rintro _ rfl
  rintro _ rfl
  rintro _ rfl
  rintro _ rfl
  have p52 : Step (ks [(some b1, Obj.cells [(Value.slice a_l_records l.records.length c_l_records), (Value.int .i64 l.many), (Value.int .i64 l.synced)].toArray 52)] O) w8 (ks [(some b1, Obj.cells [(Value.slice a_l_records l.records.length c_l_records), (Value.int .i64 l.many), (Value.int .i64 l.synced)].toArray 52)] O) w42 := hst46.trans p47
  replace f_l_records := f_l_records.step p52; clear p52 hs11
  refine Rg_op rfl (op_subw rfl rfl ?_)
  refine Rg_op rfl (op_mulw rfl rfl ?_)
  refine Rg_op rfl (op_assign (v := (Value.int .i64 (IntKind.wrap .i64 (112 * (IntKind.wrap .i64 (l.many - used_1)))))) rfl ?_)
  refine Rg_nil ?_
  refine Wp_ret ?_
  have hz := step_all hs48
  replace f_l_records := f_l_records.step hz
  refine ⟨_, (show Closes [] _ _ from rfl), [(Value.int .i64 (IntKind.wrap .i64 (112 * (IntKind.wrap .i64 (l.many - used_1)))))], ⟨rfl, trivial⟩, hs48.ext, ?_⟩
  exact Vr.eq (a := (vI .i64)) (x := (IntKind.wrap .i64 (112 * (IntKind.wrap .i64 (l.many - used_1))))) ⟨rfl, (inK_wrap .i64 _)⟩ (Option.some.inj hm)

end Go.Fx



set_option linter.unusedVariables false
set_option linter.unusedSimpArgs false
set_option maxRecDepth 100000
set_option maxHeartbeats 0
namespace Go.Fx
open Go Go.RowKit Go.Proofs
def m60_journal_get_B0 (b : List UInt8) (sf5 : Int → Int → Option Int) (n_1 : Int) (v_1 : Int) : Option Int :=
 bif (decide (v_1 < (b.length : Int))) then
  ck ((0 : Int) ≤ v_1 ∧ v_1 < (b.length : Int)) <|
  sf5 (Go.bits .or .u64 (IntKind.wrap .u64 (n_1 * 2 ^ min 8 (IntKind.bits .u64))) ((b.getD v_1.toNat default).toNat : Int)) (IntKind.wrap .i64 (v_1 + 1))
 else
  some n_1

def m60_journal_get (b : List UInt8) : Option Int :=
 loop2 (m60_journal_get_B0 b) (((b.length : Int) - 0).toNat + 1) 0 0

theorem c60_journal_get {w : World} {O : List Nat} {b : List UInt8} {a_b : Option Addr} {c_b : Nat} (hO : ∀ k ∈ O, k < w.heap.size) (f_b : SlR rU8 w O a_b c_b b) {x : Int} (hm : m60_journal_get b = some x) :
  Ok Try.prog 60 [(Value.slice a_b b.length c_b)] w O (vI .u64) x := by
 unfold m60_journal_get at hm
 refine Fn_of_Wp (n := 18) (xs := [.tmp 2]) Try.func60 rfl Try.ntmps60 Try.results60 rfl ?_
 have hs := St.start hO
 refine Wp_seq ?_
 refine Wp_region ?_
 refine Rg_op rfl (op_assign (v := (Value.int .u64 0)) rfl ?_)
 refine Rg_nil ?_
 refine Wp_seq ?_
 refine Wp_seq ?_
 refine Wp_region ?_
 refine Rg_op rfl (op_move (v := (Value.slice a_b b.length c_b)) rfl ?_)
 refine Rg_op rfl (op_len Try.underlying41 rfl ?_)
 have rl1 := inK_len f_b
 refine Rg_op rfl (op_move (v := (Value.int .i64 0)) rfl ?_)
 refine Rg_nil ?_
 refine Wp_block ?_
 refine Wp_reset [] [(2, (Value.int .u64 0)), (5, (Value.slice a_b b.length c_b)), (6, (Value.int .i64 (b.length : Int))), (7, (Value.int .i64 0))] rfl ⟨rfl, rfl, rfl, rfl, trivial⟩ fun ξ4 => ?_
 refine Wp_loopM [2, 4, 7, 8, 9, 10, 11, 12, 13, 14, 15, 16] (fun m fr w' => ∃ (n_1 : Int) (v_1 : Int) (Ebs : Ents), Ebs = [] ∧ fr [] [(2, (Value.int .u64 n_1)), (7, (Value.int .i64 v_1))] ∧ Step (ks [] O) w (ks Ebs O) w' ∧ St ⟨w, [], []⟩ O w' Ebs ∧ InK .u64 n_1 ∧ InK .i64 v_1 ∧ loop2 (m60_journal_get_B0 b) m n_1 v_1 = some x) (((b.length : Int) - 0).toNat + 1) ⟨0, 0, _, rfl, ⟨Out.refl _ _, rfl, rfl, rfl, trivial⟩, Step.refl _ _, hs, (show InK .u64 0 from by decide), (show InK .i64 0 from by decide), hm⟩ ?_ ?_
 · rintro _ _ ⟨_, _, _, _, _, _, _, _, _, hm⟩; exact loop2_z hm
 ·
  rintro m8 K7 hK7 ρ13 w9 ⟨n_1, v_1, Ebs, hEbs, hfr12, hst11, hs10, r_y2, r_y3, hm⟩
  obtain ⟨sf5, hsf6, hm⟩ := loop2_s hm; unfold m60_journal_get_B0 at hm
  subst hEbs; rw [hfr12.eq]; clear hfr12
  replace f_b := f_b.step hst11
  have ch14 := hst11
  refine Wp_seq ?_
  refine Wp_region ?_
  refine Rg_op rfl (op_lss rfl rfl ?_)
  refine Rg_nil ?_
  refine Wp_seq ?_
  refine Wp_cond rfl (fun hc15 => ?_) (fun hc15 => ?_)
  ·
   replace hm := bif_t hm hc15
   refine Wp_skip ?_
   refine Wp_seq ?_
   refine Wp_block ?_
   refine Wp_seq ?_
   refine Wp_region ?_
   replace hm := ck_some hm; obtain ⟨hc16, hm⟩ := hm
   refine Rg_op rfl (op_indexAddr (q := rU8) ty41 ty5 rfl rfl f_b rfl hc16.1 hc16.2 ?_)
   intro p17 f18
   refine Rg_op rfl (op_loadP ty5 rfl f18 rfl ?_)
   intro v19 h20
   obtain rfl := un_u8 h20
   refine Rg_op rfl (op_assign (v := (Value.int .u8 ((b.getD v_1.toNat default).toNat : Int))) rfl ?_)
   refine Rg_nil ?_
   clear f18
   refine Wp_region ?_
   refine Rg_op rfl (op_move (v := (Value.int .u64 n_1)) rfl ?_)
   refine Rg_op rfl (op_shl rfl rfl (by decide) ?_)
   refine Rg_op rfl (op_move (v := (Value.int .u8 ((b.getD v_1.toNat default).toNat : Int))) rfl ?_)
   refine Rg_op rfl (op_conv_u8 Try.underlying5 Try.underlying93 rfl (by decide) ?_)
   refine Rg_op rfl (op_or rfl rfl ?_)
   refine Rg_op rfl (op_assign (v := (Value.int .u64 (Go.bits .or .u64 (IntKind.wrap .u64 (n_1 * 2 ^ min 8 (IntKind.bits .u64))) ((b.getD v_1.toNat default).toNat : Int)))) rfl ?_)
   refine Rg_nil ?_
   refine Wp_region ?_
   refine Rg_op rfl (op_addw rfl rfl ?_)
   refine Rg_op rfl (op_move (v := (Value.int .i64 (IntKind.wrap .i64 (v_1 + 1)))) rfl ?_)
   refine Rg_nil ?_
   exact hK7 _ _ ⟨(Go.bits .or .u64 (IntKind.wrap .u64 (n_1 * 2 ^ min 8 (IntKind.bits .u64))) ((b.getD v_1.toNat default).toNat : Int)), (IntKind.wrap .i64 (v_1 + 1)), _, rfl, ⟨(by repeat (first | with_reducible exact Out.refl _ _ | refine Out.upd ?_ rfl | refine Out.updL ?_ rfl | refine Out.mix' ?_ rfl | exact Out.refl _ _)), rfl, rfl, rfl, trivial⟩, ch14, hs10, (inK_bits .or .u64 _ _), (inK_wrap .i64 _), jnE2 hsf6 hm⟩
  ·
   replace hm := bif_f hm hc15
   refine Wp_exit ?_
   refine Wp_seq ?_
   clear f_b
   refine Wp_region ?_
   refine Rg_op rfl (op_move (v := (Value.int .u64 n_1)) rfl ?_)
   refine Rg_op rfl (op_assign (v := (Value.int .u64 n_1)) rfl ?_)
   refine Rg_nil ?_
   refine Wp_ret ?_
   have hz := step_all hs10
   refine ⟨_, (show Closes [] _ _ from rfl), [(Value.int .u64 n_1)], ⟨rfl, trivial⟩, hs10.ext, ?_⟩
   exact Vr.eq (a := (vI .u64)) (x := n_1) ⟨rfl, r_y2⟩ (Option.some.inj hm)

end Go.Fx



set_option linter.unusedVariables false
set_option linter.unusedSimpArgs false
set_option maxRecDepth 100000
set_option maxHeartbeats 0
namespace Go.Fx
open Go Go.RowKit Go.Proofs
def m62_bytes_Equal (a : List UInt8) (b : List UInt8) : Option Bool :=
 some (decide (a = b))

theorem c62_bytes_Equal {w : World} {O : List Nat} {a : List UInt8} {b : List UInt8} {a_a : Option Addr} {c_a : Nat} {a_b : Option Addr} {c_b : Nat} (hO : ∀ k ∈ O, k < w.heap.size) (f_a : SlR rU8 w O a_a c_a a) (f_b : SlR rU8 w O a_b c_b b) {x : Bool} (hm : m62_bytes_Equal a b = some x) :
  Ok Try.prog 62 [(Value.slice a_a a.length c_a), (Value.slice a_b b.length c_b)] w O vB x := by
 unfold m62_bytes_Equal at hm
 refine Fn_of_Wp (n := 10) (xs := [.tmp 4]) Try.func62 rfl Try.ntmps62 Try.results62 rfl ?_
 have hs := St.start hO
 refine Wp_seq ?_
 refine Wp_region ?_
 refine Rg_op rfl (op_assign (v := (Value.bool false)) rfl ?_)
 refine Rg_nil ?_
 refine Wp_seq ?_
 refine Wp_region ?_
 refine Rg_op rfl (op_move (v := (Value.slice a_a a.length c_a)) rfl ?_)
 refine Rg_op rfl (op_bytesToString ty41 Try.underlying5 Try.underlying9 rfl f_a ?_)
 refine Rg_op rfl (op_move (v := (Value.slice a_b b.length c_b)) rfl ?_)
 refine Rg_op rfl (op_bytesToString ty41 Try.underlying5 Try.underlying9 rfl f_b ?_)
 refine Rg_op rfl (op_eqs (a := a) (b := b) rfl rfl ?_)
 refine Rg_op rfl (op_assign (v := (Value.bool (decide (a = b)))) rfl ?_)
 refine Rg_nil ?_
 refine Wp_ret ?_
 have hz := step_all hs
 replace f_a := f_a.step hz; replace f_b := f_b.step hz
 refine ⟨_, (show Closes [] _ _ from rfl), [(Value.bool (decide (a = b)))], ⟨rfl, trivial⟩, hs.ext, ?_⟩
 exact Vr.eq (a := vB) (x := (decide (a = b))) rfl (Option.some.inj hm)

end Go.Fx



set_option linter.unusedVariables false
set_option linter.unusedSimpArgs false
set_option maxRecDepth 100000
set_option maxHeartbeats 0
namespace Go.Fx
open Go Go.RowKit Go.Proofs
def m71_journal_put_B0 (b : List UInt8) (n : Int) (sf4 : Int → (List UInt8) → Option (List UInt8)) (v_1 : Int) (win_1 : List UInt8) : Option (List UInt8) :=
 bif (decide (v_1 < (b.length : Int))) then
  ck ((0 : Int) ≤ (IntKind.wrap .i64 (8 * v_1))) <|
  ck ((0 : Int) ≤ (IntKind.wrap .i64 ((IntKind.wrap .i64 ((b.length : Int) - 1)) - v_1)) ∧ (IntKind.wrap .i64 ((IntKind.wrap .i64 ((b.length : Int) - 1)) - v_1)) < (b.length : Int) ∧ (IntKind.wrap .i64 ((IntKind.wrap .i64 ((b.length : Int) - 1)) - v_1)) < (win_1.length : Int)) <|
  sf4 (IntKind.wrap .i64 (v_1 + 1)) (win_1.set (IntKind.wrap .i64 ((IntKind.wrap .i64 ((b.length : Int) - 1)) - v_1)).toNat (UInt8.ofNat (IntKind.wrap .u8 (n / 2 ^ min (IntKind.wrap .i64 (8 * v_1)).toNat (IntKind.bits .u64))).toNat))
 else
  some win_1

def m71_journal_put (b : List UInt8) (n : Int) : Option (List UInt8) :=
 loop2 (m71_journal_put_B0 b n) (((b.length : Int) - 0).toNat + 1) 0 b

theorem c71_journal_put {w : World} {O : List Nat} {b : List UInt8} {n : Int} {pre_b post_b : List UInt8} {bl_b cc_b cb_b : Nat} {o_b : Obj} {e_b : TypeId} (hO : ∀ k ∈ O, k < w.heap.size) (hbl : bl_b ∉ O) (hob : w.heap[bl_b]? = some o_b) (f_b : Gs rU8 e_b w (bl_b :: O) (some ⟨bl_b, 0, none⟩) cb_b (pre_b ++ b ++ post_b) (some bl_b) o_b) (r_n : InK .u64 n) {x : List UInt8} (hm : m71_journal_put b n = some x) :
  OkW Try.prog 71 [(Value.slice (some ⟨bl_b, pre_b.length, none⟩) b.length cc_b), (Value.int .u64 n)] w O bl_b rU8 e_b cb_b (pre_b ++ x ++ post_b) := by
 unfold m71_journal_put at hm
 refine Fn_of_Wp (n := 23) (xs := []) Try.func71 rfl Try.ntmps71 Try.results71 rfl ?_
 have hs := St.startW hO hbl hob
 replace f_b : Gs rU8 e_b w (ks [(some bl_b, o_b)] O) (some ⟨bl_b, 0, none⟩) cb_b (pre_b ++ b ++ post_b) (some bl_b) o_b := f_b
 have hlw := inK_lenW f_b
 refine Wp_seq ?_
 refine Wp_region ?_
 refine Rg_op rfl (op_move (v := (Value.slice (some ⟨bl_b, pre_b.length, none⟩) b.length cc_b)) rfl ?_)
 refine Rg_op rfl (op_len Try.underlying41 rfl ?_)
 refine Rg_op rfl (op_move (v := (Value.int .i64 0)) rfl ?_)
 refine Rg_nil ?_
 refine Wp_block ?_
 refine Wp_reset [] [(0, (Value.slice (some ⟨bl_b, pre_b.length, none⟩) b.length cc_b)), (1, (Value.int .u64 n)), (6, (Value.int .i64 (b.length : Int))), (7, (Value.int .i64 0))] rfl ⟨rfl, rfl, rfl, rfl, trivial⟩ fun ξ3 => ?_
 refine Wp_loopM [4, 7, 8, 9, 10, 11, 12, 13, 14, 15, 16, 17, 18, 19, 20, 21, 22] (fun m fr w' => ∃ (v_1 : Int) (win_1 : List UInt8) (o_g2 : Obj) (Ebs : Ents), Ebs = [(some bl_b, o_g2)] ∧ fr [] [(7, (Value.int .i64 v_1))] ∧ Step (ks [(some bl_b, o_b)] O) w (ks Ebs O) w' ∧ St ⟨w, [bl_b], []⟩ O w' Ebs ∧ InK .i64 v_1 ∧ Gs rU8 e_b w' (ks Ebs O) (some ⟨bl_b, 0, none⟩) cb_b (pre_b ++ win_1 ++ post_b) (some bl_b) o_g2 ∧ loop2 (m71_journal_put_B0 b n) m v_1 win_1 = some x) (((b.length : Int) - 0).toNat + 1) ⟨0, b, o_b, _, rfl, ⟨Out.refl _ _, rfl, rfl, trivial⟩, Step.refl _ _, hs, (show InK .i64 0 from by decide), f_b, hm⟩ ?_ ?_
 · rintro _ _ ⟨_, _, _, _, _, _, _, _, _, _, hm⟩; exact loop2_z hm
 ·
  rintro m7 K6 hK6 ρ12 w8 ⟨v_1, win_1, o_g2, Ebs, hEbs, hfr11, hst10, hs9, r_y1, f_g2, hm⟩
  obtain ⟨sf4, hsf5, hm⟩ := loop2_s hm; unfold m71_journal_put_B0 at hm
  subst hEbs; rw [hfr11.eq]; clear hfr11
  replace f_b := f_b.step hst10
  have ch13 := hst10
  refine Wp_seq ?_
  clear f_b
  refine Wp_region ?_
  refine Rg_op rfl (op_lss rfl rfl ?_)
  refine Rg_nil ?_
  refine Wp_seq ?_
  refine Wp_cond rfl (fun hc14 => ?_) (fun hc14 => ?_)
  ·
   replace hm := bif_t hm hc14
   refine Wp_skip ?_
   refine Wp_seq ?_
   refine Wp_block ?_
   refine Wp_seq ?_
   refine Wp_region ?_
   refine Rg_op rfl (op_move (v := (Value.int .i64 v_1)) rfl ?_)
   refine Rg_op rfl (op_assign (v := (Value.int .i64 v_1)) rfl ?_)
   refine Rg_nil ?_
   refine Wp_region ?_
   refine Rg_op rfl (op_move (v := (Value.slice (some ⟨bl_b, pre_b.length, none⟩) b.length cc_b)) rfl ?_)
   refine Rg_op rfl (op_move (v := (Value.slice (some ⟨bl_b, pre_b.length, none⟩) b.length cc_b)) rfl ?_)
   refine Rg_op rfl (op_len Try.underlying41 rfl ?_)
   refine Rg_op rfl (op_subw rfl rfl ?_)
   refine Rg_op rfl (op_move (v := (Value.int .i64 v_1)) rfl ?_)
   refine Rg_op rfl (op_subw rfl rfl ?_)
   refine Rg_op rfl (op_move (v := (Value.int .u64 n)) rfl ?_)
   refine Rg_op rfl (op_move (v := (Value.int .i64 v_1)) rfl ?_)
   refine Rg_op rfl (op_mulw rfl rfl ?_)
   replace hm := ck_some hm; obtain ⟨hc15, hm⟩ := hm
   refine Rg_op rfl (op_shr rfl rfl hc15 ?_)
   refine Rg_op rfl (run1_u8 (e := (IntKind.wrap .u8 (n / 2 ^ min (IntKind.wrap .i64 (8 * v_1)).toNat (IntKind.bits .u64)))) (inK_wrap .u8 _) (fun _ hk => op_conv Try.underlying93 Try.underlying5 rfl hk) ?_)
   replace hm := ck_some hm; obtain ⟨hc16, hm⟩ := hm
   refine Rg_op rfl (op_indexAddrO ty41 ty5 rfl rfl hc16.1 hc16.2.1 ?_)
   refine Rg_op_ (op_storeW (vs := [(Value.int .u8 ((UInt8.ofNat (IntKind.wrap .u8 (n / 2 ^ min (IntKind.wrap .i64 (8 * v_1)).toNat (IntKind.bits .u64))).toNat).toNat : Int))]) (i := 0) (pre := pre_b) (post := post_b) (xs := win_1) (m := (IntKind.wrap .i64 ((IntKind.wrap .i64 ((b.length : Int) - 1)) - v_1))) ty5 rfl hs9 rfl rfl rfl rfl f_g2 ⟨hc16.1, hc16.2.2⟩ mkU8 ?_)
   intro w17 o20 p18 hs19 f21
   replace ch13 := ch13.trans p18; clear p18 hs9
   refine Rg_nil ?_
   refine Wp_region ?_
   refine Rg_op rfl (op_addw rfl rfl ?_)
   refine Rg_op rfl (op_move (v := (Value.int .i64 (IntKind.wrap .i64 (v_1 + 1)))) rfl ?_)
   refine Rg_nil ?_
   exact hK6 _ _ ⟨(IntKind.wrap .i64 (v_1 + 1)), (win_1.set (IntKind.wrap .i64 ((IntKind.wrap .i64 ((b.length : Int) - 1)) - v_1)).toNat (UInt8.ofNat (IntKind.wrap .u8 (n / 2 ^ min (IntKind.wrap .i64 (8 * v_1)).toNat (IntKind.bits .u64))).toNat)), o20, _, rfl, ⟨(by repeat (first | with_reducible exact Out.refl _ _ | refine Out.upd ?_ rfl | refine Out.updL ?_ rfl | refine Out.mix' ?_ rfl | exact Out.refl _ _)), rfl, rfl, trivial⟩, ch13, hs19, (inK_wrap .i64 _), f21, jnE2 hsf5 hm⟩
  ·
   replace hm := bif_f hm hc14
   refine Wp_exit ?_
   exact ⟨_, (show Closes [] _ _ from rfl), [], trivial, hs9.endW.1, _, hs9.endW.2, (Option.some.inj hm) ▸ f_g2⟩

end Go.Fx



set_option linter.unusedVariables false
set_option linter.unusedSimpArgs false
set_option maxRecDepth 100000
set_option maxHeartbeats 0
namespace Go.Fx
open Go Go.RowKit Go.Proofs
def m72_journal_sum_B1 (v_1 : Int) (sf5 : Int → Int → Option Int) (sf25 : Int → Int → Option Int) (n_2 : Int) (v_2 : Int) : Option Int :=
 bif (decide (v_2 < 8)) then
  sf25 (Go.bits .xor .u32 (n_2 / 2 ^ min 1 (IntKind.bits .u32)) (IntKind.wrap .u32 (3988292384 * (Go.bits .and .u32 n_2 1)))) (IntKind.wrap .i64 (v_2 + 1))
 else
  sf5 n_2 (IntKind.wrap .i64 (v_1 + 1))

def m72_journal_sum_B0 (b : List UInt8) (sf5 : Int → Int → Option Int) (n_1 : Int) (v_1 : Int) : Option Int :=
 bif (decide (v_1 < (b.length : Int))) then
  ck ((0 : Int) ≤ v_1 ∧ v_1 < (b.length : Int)) <|
  loop2 (m72_journal_sum_B1 v_1 sf5) (((8 : Int) - 0).toNat + 1) (Go.bits .xor .u32 n_1 ((b.getD v_1.toNat default).toNat : Int)) 0
 else
  some (Go.bits .xor .u32 (if IntKind.signed .u32 then -1 else IntKind.max .u32) n_1)

def m72_journal_sum (b : List UInt8) : Option Int :=
 loop2 (m72_journal_sum_B0 b) (((b.length : Int) - 0).toNat + 1) 4294967295 0

theorem c72_journal_sum {w : World} {O : List Nat} {b : List UInt8} {a_b : Option Addr} {c_b : Nat} (hO : ∀ k ∈ O, k < w.heap.size) (f_b : SlR rU8 w O a_b c_b b) {x : Int} (hm : m72_journal_sum b = some x) :
  Ok Try.prog 72 [(Value.slice a_b b.length c_b)] w O (vI .u32) x := by
 unfold m72_journal_sum at hm
 refine Fn_of_Wp (n := 28) (xs := [.tmp 2]) Try.func72 rfl Try.ntmps72 Try.results72 rfl ?_
 have hs := St.start hO
 refine Wp_seq ?_
 refine Wp_region ?_
 refine Rg_op rfl (op_assign (v := (Value.int .u32 0)) rfl ?_)
 refine Rg_nil ?_
 refine Wp_seq ?_
 refine Wp_region ?_
 refine Rg_op rfl (op_assign (v := (Value.int .u32 4294967295)) rfl ?_)
 refine Rg_nil ?_
 refine Wp_seq ?_
 refine Wp_seq ?_
 refine Wp_region ?_
 refine Rg_op rfl (op_move (v := (Value.slice a_b b.length c_b)) rfl ?_)
 refine Rg_op rfl (op_len Try.underlying41 rfl ?_)
 have rl1 := inK_len f_b
 refine Rg_op rfl (op_move (v := (Value.int .i64 0)) rfl ?_)
 refine Rg_nil ?_
 refine Wp_block ?_
 refine Wp_reset [] [(3, (Value.int .u32 4294967295)), (6, (Value.slice a_b b.length c_b)), (7, (Value.int .i64 (b.length : Int))), (8, (Value.int .i64 0))] rfl ⟨rfl, rfl, rfl, rfl, trivial⟩ fun ξ4 => ?_
 refine Wp_loopM [3, 5, 8, 9, 10, 11, 12, 13, 14, 15, 16, 17, 18, 19, 20, 21, 22, 23, 24, 25] (fun m fr w' => ∃ (n_1 : Int) (v_1 : Int) (Ebs : Ents), Ebs = [] ∧ fr [] [(3, (Value.int .u32 n_1)), (8, (Value.int .i64 v_1))] ∧ Step (ks [] O) w (ks Ebs O) w' ∧ St ⟨w, [], []⟩ O w' Ebs ∧ InK .u32 n_1 ∧ InK .i64 v_1 ∧ loop2 (m72_journal_sum_B0 b) m n_1 v_1 = some x) (((b.length : Int) - 0).toNat + 1) ⟨4294967295, 0, _, rfl, ⟨Out.refl _ _, rfl, rfl, rfl, trivial⟩, Step.refl _ _, hs, (show InK .u32 4294967295 from by decide), (show InK .i64 0 from by decide), hm⟩ ?_ ?_
 · rintro _ _ ⟨_, _, _, _, _, _, _, _, _, hm⟩; exact loop2_z hm
 ·
  rintro m8 K7 hK7 ρ13 w9 ⟨n_1, v_1, Ebs, hEbs, hfr12, hst11, hs10, r_y2, r_y3, hm⟩
  obtain ⟨sf5, hsf6, hm⟩ := loop2_s hm; unfold m72_journal_sum_B0 at hm
  subst hEbs; rw [hfr12.eq]; clear hfr12
  replace f_b := f_b.step hst11
  have ch14 := hst11
  refine Wp_seq ?_
  refine Wp_region ?_
  refine Rg_op rfl (op_lss rfl rfl ?_)
  refine Rg_nil ?_
  refine Wp_seq ?_
  refine Wp_cond rfl (fun hc15 => ?_) (fun hc15 => ?_)
  ·
   replace hm := bif_t hm hc15
   refine Wp_skip ?_
   refine Wp_seq ?_
   refine Wp_block ?_
   refine Wp_seq ?_
   refine Wp_region ?_
   replace hm := ck_some hm; obtain ⟨hc16, hm⟩ := hm
   refine Rg_op rfl (op_indexAddr (q := rU8) ty41 ty5 rfl rfl f_b rfl hc16.1 hc16.2 ?_)
   intro p17 f18
   refine Rg_op rfl (op_loadP ty5 rfl f18 rfl ?_)
   intro v19 h20
   obtain rfl := un_u8 h20
   refine Rg_op rfl (op_assign (v := (Value.int .u8 ((b.getD v_1.toNat default).toNat : Int))) rfl ?_)
   refine Rg_nil ?_
   refine Wp_seq ?_
   clear f18
   refine Wp_region ?_
   refine Rg_op rfl (op_move (v := (Value.int .u32 n_1)) rfl ?_)
   refine Rg_op rfl (op_move (v := (Value.int .u8 ((b.getD v_1.toNat default).toNat : Int))) rfl ?_)
   refine Rg_op rfl (op_conv_u8 Try.underlying5 Try.underlying107 rfl (by decide) ?_)
   refine Rg_op rfl (op_xor rfl rfl ?_)
   refine Rg_op rfl (op_assign (v := (Value.int .u32 (Go.bits .xor .u32 n_1 ((b.getD v_1.toNat default).toNat : Int)))) rfl ?_)
   refine Rg_nil ?_
   refine Wp_seq ?_
   refine Wp_region ?_
   refine Rg_op rfl (op_move (v := (Value.int .i64 0)) rfl ?_)
   refine Rg_nil ?_
   refine Wp_block ?_
   refine Wp_reset2 [3, 5, 8, 9, 10, 11, 12, 13, 14, 15, 16, 17, 18, 19, 20, 21, 22, 23, 24, 25] [] (updL ⟨ξ4, []⟩ [(3, (Value.int .u32 4294967295)), (6, (Value.slice a_b b.length c_b)), (7, (Value.int .i64 (b.length : Int))), (8, (Value.int .i64 0))]) [(3, (Value.int .u32 (Go.bits .xor .u32 n_1 ((b.getD v_1.toNat default).toNat : Int)))), (8, (Value.int .i64 v_1)), (16, (Value.int .i64 0))] (by repeat (first | with_reducible exact Out.refl _ _ | refine Out.upd ?_ rfl | refine Out.updL ?_ rfl | refine Out.mix' ?_ rfl | exact Out.refl _ _)) rfl ⟨rfl, rfl, rfl, trivial⟩ fun ξ24 => ?_
   refine Wp_loopM [3, 16, 17, 18, 19, 20, 21, 22, 23, 24] (fun m fr w' => ∃ (n_2 : Int) (v_2 : Int) (Ebs : Ents), Ebs = [] ∧ fr [] [(3, (Value.int .u32 n_2)), (16, (Value.int .i64 v_2))] ∧ Step (ks [] O) w9 (ks Ebs O) w' ∧ St ⟨w, [], []⟩ O w' Ebs ∧ InK .u32 n_2 ∧ InK .i64 v_2 ∧ loop2 (m72_journal_sum_B1 v_1 sf5) m n_2 v_2 = some x) (((8 : Int) - 0).toNat + 1) ⟨(Go.bits .xor .u32 n_1 ((b.getD v_1.toNat default).toNat : Int)), 0, _, rfl, ⟨Out.refl _ _, rfl, rfl, rfl, trivial⟩, Step.refl _ _, hs10, (inK_bits .xor .u32 _ _), (show InK .i64 0 from by decide), hm⟩ ?_ ?_
   · rintro _ _ ⟨_, _, _, _, _, _, _, _, _, hm⟩; exact loop2_z hm
   ·
    rintro m28 K27 hK27 ρ33 w29 ⟨n_2, v_2, Ebs, hEbs, hfr32, hst31, hs30, r_y22, r_y23, hm⟩
    obtain ⟨sf25, hsf26, hm⟩ := loop2_s hm; unfold m72_journal_sum_B1 at hm
    subst hEbs; rw [hfr32.eq]; clear hfr32
    replace f_b := f_b.step hst31; replace ch14 := ch14.trans hst31
    have ch34 := hst31
    refine Wp_seq ?_
    refine Wp_region ?_
    refine Rg_op rfl (op_lss rfl rfl ?_)
    refine Rg_nil ?_
    refine Wp_seq ?_
    refine Wp_cond rfl (fun hc35 => ?_) (fun hc35 => ?_)
    ·
     replace hm := bif_t hm hc35
     refine Wp_skip ?_
     refine Wp_seq ?_
     refine Wp_block ?_
     refine Wp_region ?_
     refine Rg_op rfl (op_move (v := (Value.int .u32 n_2)) rfl ?_)
     refine Rg_op rfl (op_shr rfl rfl (by decide) ?_)
     refine Rg_op rfl (op_move (v := (Value.int .u32 n_2)) rfl ?_)
     refine Rg_op rfl (op_and rfl rfl ?_)
     refine Rg_op rfl (op_mulw rfl rfl ?_)
     refine Rg_op rfl (op_xor rfl rfl ?_)
     refine Rg_op rfl (op_assign (v := (Value.int .u32 (Go.bits .xor .u32 (n_2 / 2 ^ min 1 (IntKind.bits .u32)) (IntKind.wrap .u32 (3988292384 * (Go.bits .and .u32 n_2 1)))))) rfl ?_)
     refine Rg_nil ?_
     refine Wp_region ?_
     refine Rg_op rfl (op_addw rfl rfl ?_)
     refine Rg_op rfl (op_move (v := (Value.int .i64 (IntKind.wrap .i64 (v_2 + 1)))) rfl ?_)
     refine Rg_nil ?_
     exact hK27 _ _ ⟨(Go.bits .xor .u32 (n_2 / 2 ^ min 1 (IntKind.bits .u32)) (IntKind.wrap .u32 (3988292384 * (Go.bits .and .u32 n_2 1)))), (IntKind.wrap .i64 (v_2 + 1)), _, rfl, ⟨(by repeat (first | with_reducible exact Out.refl _ _ | refine Out.upd ?_ rfl | refine Out.updL ?_ rfl | refine Out.mix' ?_ rfl | exact Out.refl _ _)), rfl, rfl, rfl, trivial⟩, ch34, hs30, (inK_bits .xor .u32 _ _), (inK_wrap .i64 _), jnE2 hsf26 hm⟩
    ·
     replace hm := bif_f hm hc35
     refine Wp_exit ?_
     refine Wp_region ?_
     refine Rg_op rfl (op_addw rfl rfl ?_)
     refine Rg_op rfl (op_move (v := (Value.int .i64 (IntKind.wrap .i64 (v_1 + 1)))) rfl ?_)
     refine Rg_nil ?_
     exact hK7 _ _ ⟨n_2, (IntKind.wrap .i64 (v_1 + 1)), _, rfl, ⟨(by repeat (first | with_reducible exact Out.refl _ _ | refine Out.upd ?_ rfl | refine Out.updL ?_ rfl | refine Out.mix' ?_ rfl | exact Out.refl _ _)), rfl, rfl, rfl, trivial⟩, ch14, hs30, r_y22, (inK_wrap .i64 _), jnE2 hsf6 hm⟩
  ·
   replace hm := bif_f hm hc15
   refine Wp_exit ?_
   refine Wp_seq ?_
   clear f_b
   refine Wp_region ?_
   refine Rg_op rfl (op_move (v := (Value.int .u32 n_1)) rfl ?_)
   refine Rg_op rfl (op_com rfl ?_)
   refine Rg_op rfl (op_assign (v := (Value.int .u32 (Go.bits .xor .u32 (if IntKind.signed .u32 then -1 else IntKind.max .u32) n_1))) rfl ?_)
   refine Rg_nil ?_
   refine Wp_ret ?_
   have hz := step_all hs10
   refine ⟨_, (show Closes [] _ _ from rfl), [(Value.int .u32 (Go.bits .xor .u32 (if IntKind.signed .u32 then -1 else IntKind.max .u32) n_1))], ⟨rfl, trivial⟩, hs10.ext, ?_⟩
   exact Vr.eq (a := (vI .u32)) (x := (Go.bits .xor .u32 (if IntKind.signed .u32 then -1 else IntKind.max .u32) n_1)) ⟨rfl, (inK_bits .xor .u32 _ _)⟩ (Option.some.inj hm)

end Go.Fx


