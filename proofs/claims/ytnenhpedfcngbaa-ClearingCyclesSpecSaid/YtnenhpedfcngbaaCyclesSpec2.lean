/- Part 2 of the proof: value and Cycles answer as the specification does, for every assignment of a small round. -/
import Derived.Test.YtnenhpedfcngbaaCyclesSpec1
import Derived.Shelf.SlSortCmp.NoneTotal
import Derived.Shelf.SlGeneric
import Derived.Ground.SlsfProg
import Derived.Test.YtnenhpedfcngbaaChecked
import Derived.Test.YtnenhpedfcngbaaRows
import Derived.WalkKit
import Derived.ShutString
/- Maps of one's own that function values write into; slices that may be nil; functions that call themselves. No program in sight. -/
set_option linter.unusedSimpArgs false
set_option linter.unusedVariables false
namespace Go.Fx
open Go Go.RowKit

/-! slices that may be nil -/
theorem SlR.nonnil {α : Type} {r : Rp α} {w : World} {O : List Nat} {a : Option Addr} {c : Nat} {xs : List α} (h : SlR r w O a c xs) (hx : 0 < xs.length) : a.isNone = false := by
  cases a with
  | none => have := (h.nil rfl).1; subst this; simp at hx
  | some _ => rfl
section
variable {P : Program} {r : Option Nat} {ρ : Env} {w : World} {d : Option Nat} {ty : TypeId} {pos : String} {aft : Array Edge} {g : Option (Nat × Bool)} {V : Value → World → Prop} {t : TypeId} {x y : Operand} {u : TypeId}
theorem op_eqnilB {e : TypeId} {a : Option Addr} {m c m' c' : Nat} {b : Bool} (hu : P.underlying t = some (.slice e)) (hx : ev ρ x = .slice a m c) (hy : ev ρ y = .slice none m' c') (hn : a.isNone = b) (h : V (.bool b) w) : Run1 P r ρ w ⟨d, .binOp .eql t x y u, ty, pos, aft, g⟩ V := by
  subst hn; exact op_eqnil hu hx hy h
theorem run_neq_nil {e : TypeId} {a : Option Addr} {m c m' c' : Nat} (hu : P.underlying t = some (.slice e)) : (binOp .neq t (.slice a m c) (.slice none m' c')).run P w = .ok (.bool (!a.isNone)) w := by
  simp only [binOp]
  simp [Op.equal, Op.maxDepth, Lib.run_equalIn_slice_nil w 9999 t e a m c m' c' hu]
theorem op_neqnilB {e : TypeId} {a : Option Addr} {m c m' c' : Nat} {b : Bool} (hu : P.underlying t = some (.slice e)) (hx : ev ρ x = .slice a m c) (hy : ev ρ y = .slice none m' c') (hn : a.isNone = b) (h : V (.bool (!b)) w) : Run1 P r ρ w ⟨d, .binOp .neq t x y u, ty, pos, aft, g⟩ V := by
  subst hn
  exact run1_value (v := .bool (!a.isNone)) (by simp) (by simp [execOp, hx, hy, eqGuard, run_neq_nil hu]) h
end
/-! maps lent to a call -/
section
variable {V β : Type} {q : IntKind} {m : Mv V} {w w' : World} {O O0 : List Nat} {bl i : Nat} {o o' : Obj} {bs : Ents} {z : Zx} {mp mp' : List (Int × V)}
/-- what a function that writes into a map comes to -/
def OkM (P : Program) (f : FuncId) (args : List Value) (w : World) (O : List Nat) (bm : Nat) (q : IntKind) (m : Mv V) (R : Vr β) (y : β) (mp' : List (Int × V)) : Prop :=
  Fn P f args w fun v w' => Loc [bm] w w' ∧ ∃ o', w'.heap[bm]? = some o' ∧ Mo q m o' mp' ∧ R.vd w' (bm :: O) v y
theorem ks_erase (hi : bs[i]? = some (some bl, o)) {k : Nat} : k ∈ bl :: ks (bs.eraseIdx i) O0 ↔ k ∈ ks bs O0 := by
  have hp := ents_perm hi
  constructor
  · intro h
    rcases List.mem_cons.1 h with rfl | h
    · exact mem_ks.2 (.inl (hp.mem_iff.1 List.mem_cons_self))
    · exact (mem_ks.1 h).elim (fun h => mem_ks.2 (.inl (hp.mem_iff.1 (List.mem_cons_of_mem _ h)))) fun h => mem_ks.2 (.inr h)
  · intro h
    rcases mem_ks.1 h with h | h
    · rcases List.mem_cons.1 (hp.mem_iff.2 h) with rfl | h
      · exact List.mem_cons_self
      · exact List.mem_cons_of_mem _ (mem_ks.2 (.inl h))
    · exact List.mem_cons_of_mem _ (mem_ks.2 (.inr h))
theorem St.lendM (hs : St z O0 w bs) (hi : bs[i]? = some (some bl, o)) :
    (∀ k ∈ ks (bs.eraseIdx i) O0, k < w.heap.size) ∧ bl ∉ ks (bs.eraseIdx i) O0 ∧ w.heap[bl]? = some o ∧ Step (ks bs O0) w (bl :: ks (bs.eraseIdx i) O0) w := by
  refine ⟨(hs.drop i).ltw, fun hm => ?_, hs.get hi, Step.sub fun k hk => (ks_erase hi).1 hk⟩
  have hnd := (ents_perm hi).nodup_iff.2 hs.nd
  rcases List.mem_append.1 hm with hm | hm
  · exact (List.nodup_cons.1 hnd).1 hm
  · exact (hs.dj bl hm).2 (mem_keys.2 ⟨_, List.mem_of_getElem? hi, rfl⟩)
theorem set_get (hi : bs[i]? = some (some bl, o)) : (bs.set i (some bl, o'))[i]? = some (some bl, o') := by
  have := (List.getElem?_eq_some_iff.1 hi).1
  simp [this]
theorem St.backM (hs : St z O0 w bs) (hi : bs[i]? = some (some bl, o)) (hl : Loc [bl] w w') (ho : w'.heap[bl]? = some o') :
    Step (ks bs O0) w (ks (bs.set i (some bl, o')) O0) w' ∧ St z O0 w' (bs.set i (some bl, o')) ∧ Step (bl :: ks (bs.eraseIdx i) O0) w' (ks (bs.set i (some bl, o')) O0) w' := by
  have hown := (hs.own _ (List.mem_of_getElem? hi) bl rfl).1
  have hb : ∀ j, j < w.heap.size → some bl ≠ some j → w'.heap[j]? = w.heap[j]? := fun j hj hne => hl.block j hj (by simp; exact fun e => hne (by rw [e]))
  have he : (bs.set i (some bl, o')).eraseIdx i = bs.eraseIdx i := by rw [List.eraseIdx_set_eq]
  refine ⟨Step.put hi hl.size (fun b hb => by cases hb; exact .inl rfl) hb, hs.put hi (hs.below.trans' hl fun k hk => by simp at hk; subst hk; exact hown) hl.size (fun b hb => by cases hb; exact ⟨.inl rfl, ho⟩) hb, Step.sub fun k hk => ?_⟩
  have := (ks_erase (O0 := O0) (set_get (o' := o') hi) (k := k)).2 hk
  rwa [he] at this
theorem op_callM {P : Program} {r : Option Nat} {ρ : Env} {d : Option Nat} {ty : TypeId} {pos : String} {aft : Array Edge} {g : Option (Nat × Bool)} {Vv : Value → World → Prop} {x : Operand} {args : Array Operand} {us : Array TypeId} {fv : Value} {vs : List Value} {R : Vr β} {y : β}
    (hx : ev ρ x = fv) (hs : St z O0 w bs) (hi : bs[i]? = some (some bl, o)) (h : FvTo P fv vs w fun v w' => Loc [bl] w w' ∧ ∃ o', w'.heap[bl]? = some o' ∧ Mo q m o' mp' ∧ R.vd w' (bl :: ks (bs.eraseIdx i) O0) v y) (ha : args.toList.map (ev ρ) = vs)
    (k : ∀ v w' o', Step (ks bs O0) w (ks (bs.set i (some bl, o')) O0) w' → St z O0 w' (bs.set i (some bl, o')) → Mo q m o' mp' → R.vd w' (ks (bs.set i (some bl, o')) O0) v y → Vv v w') : Run1 P r ρ w ⟨d, .call ⟨.value x, args, us⟩, ty, pos, aft, g⟩ Vv := by
  refine op_callF hx h ha ?_
  rintro v w' ⟨hl, o', ho, hM, hR⟩
  obtain ⟨h1, h2, h3⟩ := hs.backM hi hl ho
  exact k v w' o' h1 h2 hM (R.step h3 hR)
end
/-! functions within an iterator that write into a map of it -/
/-- a function value of one argument that hands out what f says, and turns the map -/
def SubItM {α γ V : Type} (P : Program) (enc : γ → World → List Nat → List Value → Prop) (l : Nat) (q : IntKind) (m : Mv V) (bm : Nat) (w : World) (O : List Nat) (fv : Value) (A : Vr α) (f : α × List (Int × V) → Option (List γ × List (Int × V))) : Prop :=
  (∃ k caps, fv = .func k #[] caps) ∧ ∀ w1 O1 o1 mp, Step O w (bm :: O1) w1 → bm ∉ O1 → w1.heap[bm]? = some o1 → Mo q m o1 mp → (∀ k ∈ O1, k < w1.heap.size) → ∀ (J Jx : JP γ), Abides J → Abides Jx → ∀ v x Lx mz, A.vd w1 (bm :: O1) v x → f (x, mp) = some (Lx, mz) → YieldsTo P enc Lx l J Jx → J [] w1 O1 [bm] →
    FvTo P fv [v] w1 fun u w2 => ∃ O2 o2 m2, bm ∉ O2 ∧ w2.heap[bm]? = some o2 ∧ Mo q m o2 m2 ∧ ((u = .bool true ∧ m2 = mz ∧ J Lx w2 O2 [bm]) ∨ (u = .bool false ∧ ∃ pre, Jx pre w2 O2 [bm]))
section sub
variable {α γ V : Type} {P : Program} {enc : γ → World → List Nat → List Value → Prop} {l : Nat} {q : IntKind} {m : Mv V} {bm : Nat} {w w' : World} {O O' : List Nat} {A : Vr α} {f : α × List (Int × V) → Option (List γ × List (Int × V))}
theorem SubItM.step {fv : Value} (h : SubItM P enc l q m bm w O fv A f) (s : Step O w O' w') : SubItM P enc l q m bm w' O' fv A f :=
  ⟨h.1, fun w1 O1 o1 mp s1 => h.2 w1 O1 o1 mp (s.trans s1)⟩
def rSbM (P : Program) (enc : γ → World → List Nat → List Value → Prop) (l : Nat) (q : IntKind) (m : Mv V) (bm : Nat) (A : Vr α) : Rp (α × List (Int × V) → Option (List γ × List (Int × V))) where
  n := 1
  rd w O cs f := ∃ v, cs = [v] ∧ SubItM P enc l q m bm w O v A f
  len := fun ⟨_, h, _⟩ => by rw [h]; rfl
  one := fun ⟨v, h, ⟨k, caps, h2⟩, _⟩ => by subst h; subst h2; simp [Value.oneCell']
  step := fun s ⟨v, h, h2⟩ => ⟨v, h, h2.step s⟩
def vSbM (P : Program) (enc : γ → World → List Nat → List Value → Prop) (l : Nat) (q : IntKind) (m : Mv V) (bm : Nat) (A : Vr α) : Vr (α × List (Int × V) → Option (List γ × List (Int × V))) := ⟨fun w O v f => SubItM P enc l q m bm w O v A f, fun s h => h.step s⟩
theorem un_sbM {v : Value} (h : (rSbM P enc l q m bm A).rd w O [v] f) : SubItM P enc l q m bm w O v A f := by
  obtain ⟨v', h1, h2⟩ := h; cases h1; exact h2
theorem PtR.sbM {v : Value} {h1 : v.oneCell' = true} {p : Addr} (h : PtR (rVal v h1) w O p ()) (hf : SubItM P enc l q m bm w O v A f) : PtR (rSbM P enc l q m bm A) w O p f := by
  refine ⟨h.spot, h.sh, ?_⟩
  obtain ⟨cs, e, fz, k1, k2, k3⟩ := h.cells
  exact ⟨cs, e, fz, k1, k2, v, k3, hf⟩
theorem SubItM.fix {k : Go.Fn} {caps : Array Value} {Φ : (α × List (Int × V) → Option (List γ × List (Int × V))) → α × List (Int × V) → Option (List γ × List (Int × V))}
    (h : ∀ f, SubItM P enc l q m bm w O (.func k #[] caps) A f → SubItM P enc l q m bm w O (.func k #[] caps) A (Φ f)) : ∀ n, SubItM P enc l q m bm w O (.func k #[] caps) A (fixO Φ n)
  | 0 => ⟨⟨k, caps, rfl⟩, fun _ _ _ _ _ _ _ _ _ _ _ _ _ _ _ _ _ _ hf => by cases hf⟩
  | n + 1 => h _ (SubItM.fix h n)
/-- what is handed out by a call that turns a map, and what comes behind -/
def aplM {M : Type} (a : Option (List γ × M)) (k : M → Option (List γ × M)) : Option (List γ × M) := a.bind fun p => (k p.2).map fun r => (p.1 ++ r.1, r.2)
theorem aplM_elim {M : Type} {a : Option (List γ × M)} {k : M → Option (List γ × M)} {L : List γ} {mz : M} (h : aplM a k = some (L, mz)) : ∃ A m1 B, a = some (A, m1) ∧ k m1 = some (B, mz) ∧ L = A ++ B := by
  cases a with
  | none => cases h
  | some p =>
    obtain ⟨A, m1⟩ := p
    cases hk : k m1 with
    | none => simp [aplM, hk] at h
    | some r =>
      obtain ⟨B, m2⟩ := r
      simp [aplM, hk] at h
      obtain ⟨h1, h2⟩ := h
      subst h1; subst h2
      exact ⟨A, m1, B, rfl, hk, rfl⟩
def aplI {M : Type} (a : Option (List γ × M)) (k : M → Option (List γ)) : Option (List γ) := a.bind fun p => (k p.2).map (p.1 ++ ·)
theorem aplI_elim {M : Type} {a : Option (List γ × M)} {k : M → Option (List γ)} {L : List γ} (h : aplI a k = some L) : ∃ A m1 B, a = some (A, m1) ∧ k m1 = some B ∧ L = A ++ B := by
  cases a with
  | none => cases h
  | some p =>
    obtain ⟨A, m1⟩ := p
    cases hk : k m1 with
    | none => simp [aplI, hk] at h
    | some B => simp [aplI, hk] at h; exact ⟨A, m1, B, rfl, hk, h.symm⟩
def ylM {M : Type} (x : γ) (m : Option (List γ × M)) : Option (List γ × M) := m.map fun r => (x :: r.1, r.2)
theorem ylM_elim {M : Type} {x : γ} {m : Option (List γ × M)} {L : List γ} {mz : M} (h : ylM x m = some (L, mz)) : ∃ L', m = some (L', mz) ∧ L = x :: L' := by
  cases m with
  | none => cases h
  | some r =>
    obtain ⟨L', m2⟩ := r
    simp [ylM] at h
    obtain ⟨h1, h2⟩ := h
    subst h1; subst h2; exact ⟨L', rfl, rfl⟩
end sub
section call
variable {P : Program} {ρ : Env} {w : World} {z : Zx} {O : List Nat} {bs : Ents} {α γ V : Type} {J Jx : JP γ} {L pre Lx : List γ} {l : Nat} {enc : γ → World → List Nat → List Value → Prop} {q : IntKind} {m : Mv V} {bm : Nat}
/-- what a call within sees of the loop: the caller's own blocks are others', but the map -/
def JinM (J : JP γ) (pre : List γ) (w : World) (O : List Nat) (bs : Ents) (bm : Nat) : JP γ := fun pre' w' O' K' =>
  ∃ Oc, O' = ks bs Oc ∧ J (pre ++ pre') w' Oc (K' ++ bs.filterMap Prod.fst) ∧ (∀ p ∈ bs, ∀ b, p.1 = some b → w'.heap[b]? = some p.2) ∧ (∀ k ∈ Oc, k ∉ bs.filterMap Prod.fst ∧ k < w'.heap.size) ∧ Step (bm :: ks bs O) w (bm :: O') w' ∧ ∀ k ∈ K', k = bm ∨ w.heap.size ≤ k
theorem JinM.lt {pre' : List γ} {w' : World} {O' K' : List Nat} (hb : ∀ k ∈ bs.filterMap Prod.fst, k < w.heap.size) (h : JinM J pre w O bs bm pre' w' O' K') : ∀ k ∈ bs.filterMap Prod.fst, k < w'.heap.size := fun k hk => by
  obtain ⟨Oc, _, _, _, _, h5, _⟩ := h
  exact Nat.lt_of_lt_of_le (hb k hk) h5.size
theorem JinM.abides (hJ : Abides J) (hb : ∀ k ∈ bs.filterMap Prod.fst, k < w.heap.size) : Abides (JinM J pre w O bs bm) := by
  refine ⟨fun {pre' w1 w2 O' K' K''} h hd hl hg => ?_⟩
  have hlt := h.lt hb
  obtain ⟨Oc, rfl, h2, h3, h4, h5, h6⟩ := h
  have hkO : ∀ k ∈ K', k ∉ bs.filterMap Prod.fst ∧ k ∉ Oc := fun k hk => ⟨fun hm => hd k hk (mem_ks.2 (.inl hm)), fun hm => hd k hk (mem_ks.2 (.inr hm))⟩
  refine ⟨Oc, rfl, hJ.loc h2 ?_ ?_ ?_, fun p hp b hb => ?_, fun k hk => ⟨(h4 k hk).1, Nat.lt_of_lt_of_le (h4 k hk).2 hl.size⟩, ⟨Nat.le_trans h5.size hl.size, fun k hk hn => ?_⟩, fun k hk => ?_⟩
  · intro k hk
    rcases List.mem_append.1 hk with hk | hk
    · exact (hkO k hk).2
    · exact fun hm => (h4 k hm).1 hk
  · exact hl.sub fun k hk => .inl (List.mem_append_left _ hk)
  · refine ⟨fun k hk => ?_, fun k hk => ?_⟩
    · rcases List.mem_append.1 hk with hk | hk
      · exact (hg.new k hk).imp (List.mem_append_left _) id
      · exact .inl (List.mem_append_right _ hk)
    · rcases List.mem_append.1 hk with hk | hk
      · exact hg.lt k hk
      · exact Nat.lt_of_lt_of_le (hlt k hk) hl.size
  · rw [hl.block b (hlt b (mem_keys.2 ⟨p, hp, hb⟩)) fun hm => (hkO b hm).1 (mem_keys.2 ⟨p, hp, hb⟩)]; exact h3 p hp b hb
  · obtain ⟨k1, k2⟩ := h5.keep k hk hn
    exact ⟨k1, by rw [hl.block k (Nat.lt_of_lt_of_le hk h5.size) fun hm => (h6 k hm).elim (fun e => hn (by rw [e]; exact List.mem_cons_self)) fun h => by omega]; exact k2⟩
  · rcases hg.new k hk with h | h
    · exact h6 k h
    · exact .inr (Nat.le_trans h5.size h)
theorem JinM.yields (hb : ∀ k ∈ bs.filterMap Prod.fst, k < w.heap.size) (hL : pre ++ Lx <+: L) (hY : YieldsTo P enc L l J Jx) : YieldsTo P enc Lx l (JinM J pre w O bs bm) (JinM Jx pre w O bs bm) := by
  intro pre' a w' O' K' vs hp h hK hO hen
  have hlt := h.lt hb
  obtain ⟨Oc, rfl, h2, h3, h4, h5, h6⟩ := h
  have hkO : ∀ k ∈ K', k ∉ bs.filterMap Prod.fst ∧ k ∉ Oc := fun k hk => ⟨fun hm => (hK k hk).2 (mem_ks.2 (.inl hm)), fun hm => (hK k hk).2 (mem_ks.2 (.inr hm))⟩
  have hp' : pre ++ pre' ++ [a] <+: L := by
    rw [List.append_assoc]
    exact List.IsPrefix.trans ((List.prefix_append_right_inj pre).2 hp) hL
  obtain ⟨fn, tmps, assign, body, hy, hR⟩ := hY (pre ++ pre') a w' Oc (K' ++ bs.filterMap Prod.fst) vs hp' h2 (fun k hk => by
    rcases List.mem_append.1 hk with hk | hk
    · exact ⟨(hK k hk).1, (hkO k hk).2⟩
    · exact ⟨hlt k hk, fun hm => (h4 k hm).1 hk⟩) (fun k hk => (h4 k hk).2) (by rw [List.append_assoc]; exact hen)
  refine ⟨fn, tmps, assign, body, hy, hR.mono ?_⟩
  · rintro e w'' ⟨O'', hl, hg, hor⟩
    have hkeep : ∀ b ∈ bs.filterMap Prod.fst, w''.heap[b]? = w'.heap[b]? := fun b hb => hl.block b (hlt b hb) fun hm => (h4 b hm).1 hb
    have hnew : ∀ k ∈ O'', k ∉ bs.filterMap Prod.fst ∧ k < w''.heap.size := fun k hk => ⟨fun hm => by
      rcases hg.new k hk with h | h
      · exact (h4 k h).1 hm
      · have := hlt k hm; omega, hg.lt k hk⟩
    have hst : Step (bm :: ks bs Oc) w' (bm :: ks bs O'') w'' := Step.of_loc hl (fun k hk => List.mem_cons_of_mem _ (mem_ks.2 (.inr hk))) fun k hk => by
      rcases List.mem_cons.1 hk with rfl | hk
      · exact .inl List.mem_cons_self
      · rcases mem_ks.1 hk with hk | hk
        · exact .inl (List.mem_cons_of_mem _ (mem_ks.2 (.inl hk)))
        · exact (hg.new k hk).imp (fun h => List.mem_cons_of_mem _ (mem_ks.2 (.inr h))) id
    have mk : ∀ J' : JP γ, J' (pre ++ pre' ++ [a]) w'' O'' (K' ++ bs.filterMap Prod.fst) → JinM J' pre w O bs bm (pre' ++ [a]) w'' (ks bs O'') K' := fun J' hj =>
      ⟨O'', rfl, by rw [← List.append_assoc]; exact hj, fun p hp b hb => by rw [hkeep b (mem_keys.2 ⟨p, hp, hb⟩)]; exact h3 p hp b hb, hnew, h5.trans hst, h6⟩
    refine ⟨ks bs O'', hl.sub fun k hk => .inl (mem_ks.2 (.inr hk)), ⟨fun k hk => ?_, fun k hk => ?_⟩, ?_⟩
    · rcases mem_ks.1 hk with hk | hk
      · exact .inl (mem_ks.2 (.inl hk))
      · exact (hg.new k hk).imp (fun h => mem_ks.2 (.inr h)) id
    · rcases mem_ks.1 hk with hk | hk
      · exact Nat.lt_of_lt_of_le (hlt k hk) hl.size
      · exact hg.lt k hk
    · rcases hor with ⟨he, h⟩ | ⟨he, h⟩
      · exact .inl ⟨he, mk J h⟩
      · exact .inr ⟨he, mk Jx h⟩
/-- a call of such a function within the iterator -/
theorem op_subcallM {r : Option Nat} {d : Option Nat} {ty : TypeId} {pos : String} {aft : Array Edge} {g : Option (Nat × Bool)} {Vv : Value → World → Prop} {x : Operand} {args : Array Operand} {us : Array TypeId} {fv v : Value} {A : Vr α} {f : α × List (Int × V) → Option (List γ × List (Int × V))} {a : α} {i : Nat} {o : Obj} {mp mz : List (Int × V)}
    (hx : ev ρ x = fv) (hf : SubItM P enc l q m bm w (ks bs O) fv A f) (ha : args.toList.map (ev ρ) = [v]) (hv : A.vd w (ks bs O) v a) (hfa : f (a, mp) = some (Lx, mz)) (hY : YieldsTo P enc L l J Jx) (hJ : Abides J) (hJx : Abides Jx) (hI : Itr J pre z O) (hs : St z O w bs) (hi : bs[i]? = some (some bm, o)) (hM : Mo q m o mp) (hL : pre ++ Lx <+: L)
    (kt : ∀ w' O' o', St ⟨w', (bs.set i (some bm, o')).filterMap Prod.fst, []⟩ O' w' (bs.set i (some bm, o')) → Step (ks bs O) w (ks (bs.set i (some bm, o')) O') w' → Itr J (pre ++ Lx) ⟨w', (bs.set i (some bm, o')).filterMap Prod.fst, []⟩ O' → Mo q m o' mz → Vv (.bool true) w')
    (kf : ∀ w' O' o' m2 pre', St ⟨w', (bs.set i (some bm, o')).filterMap Prod.fst, []⟩ O' w' (bs.set i (some bm, o')) → Step (ks bs O) w (ks (bs.set i (some bm, o')) O') w' → Itr Jx pre' ⟨w', (bs.set i (some bm, o')).filterMap Prod.fst, []⟩ O' → Mo q m o' m2 → Vv (.bool false) w') :
    Run1 P r ρ w ⟨d, .call ⟨.value x, args, us⟩, ty, pos, aft, g⟩ Vv := by
  obtain ⟨e1, e2, e3, e4⟩ := hs.lendM hi
  have hp := ents_perm hi
  have hlt : ∀ k ∈ (bs.eraseIdx i).filterMap Prod.fst, k < w.heap.size := fun k hk => e1 k (mem_ks.2 (.inl hk))
  have hdj : ∀ k ∈ O, k ∉ (bs.eraseIdx i).filterMap Prod.fst := fun k hk hm => (hs.dj k hk).2 (hp.mem_iff.1 (List.mem_cons_of_mem _ hm))
  have hnow := hI.now hJ hs
  have hbmlt : bm < w.heap.size := hs.lt (List.mem_of_getElem? hi) rfl
  have h0 : JinM J pre w O (bs.eraseIdx i) bm [] w (ks (bs.eraseIdx i) O) [bm] :=
    ⟨O, rfl, by
      rw [List.append_nil]
      exact hJ.loc hnow (fun k hk hm => (hs.dj k hm).2 hk) (Loc.refl _ _) ⟨fun k hk => .inl (hp.mem_iff.1 (by simpa using hk)), fun k hk => by
        rcases List.mem_append.1 hk with hk | hk
        · simp at hk; subst hk; exact hbmlt
        · exact hlt k hk⟩, fun p hp' b hb => (hs.own p (List.mem_of_mem_eraseIdx hp') b hb).2, fun k hk => ⟨hdj k hk, (hs.dj k hk).1⟩, Step.refl _ _, fun k hk => by simp at hk; exact .inl hk⟩
  have hc := hf.2 w (ks (bs.eraseIdx i) O) o mp e4 e2 e3 hM e1 (JinM J pre w O (bs.eraseIdx i) bm) (JinM Jx pre w O (bs.eraseIdx i) bm) (JinM.abides hJ hlt) (JinM.abides hJx hlt) v a Lx mz (A.step e4 hv) hfa (JinM.yields hlt hL hY) h0
  refine op_callF hx hc ha ?_
  rintro u w2 ⟨O2, o2, m2, k1, k2, k3, h⟩
  have done : ∀ (J' : JP γ) (pre' : List γ), Abides J' → JinM J' pre w O (bs.eraseIdx i) bm pre' w2 O2 [bm] → ∃ Oc, St ⟨w2, (bs.set i (some bm, o2)).filterMap Prod.fst, []⟩ Oc w2 (bs.set i (some bm, o2)) ∧ Step (ks bs O) w (ks (bs.set i (some bm, o2)) Oc) w2 ∧ Itr J' (pre ++ pre') ⟨w2, (bs.set i (some bm, o2)).filterMap Prod.fst, []⟩ Oc := by
    rintro J' pre' hJ' ⟨Oc, rfl, h2, h3, h4, h5, _⟩
    have hi' := set_get (o' := o2) hi
    have he : (bs.set i (some bm, o2)).eraseIdx i = bs.eraseIdx i := by rw [List.eraseIdx_set_eq]
    have hp' := ents_perm hi'
    rw [he] at hp'
    have hbO : bm ∉ Oc := fun hm => k1 (mem_ks.2 (.inr hm))
    have hnd : ((bs.set i (some bm, o2)).filterMap Prod.fst).Nodup := hp'.nodup_iff.1 (hp.nodup_iff.2 hs.nd)
    have hsz : bm < w2.heap.size := (Array.getElem?_eq_some_iff.1 k2).1
    have hkeys : ∀ k, k ∈ (bs.set i (some bm, o2)).filterMap Prod.fst → k < w2.heap.size ∧ k ∉ Oc := fun k hk => by
      rcases List.mem_cons.1 (hp'.mem_iff.2 hk) with rfl | hk
      · exact ⟨hsz, hbO⟩
      · exact ⟨Nat.lt_of_lt_of_le (hlt k hk) h5.size, fun hm => (h4 k hm).1 hk⟩
    refine ⟨Oc, ⟨Loc.refl _ _, fun p hp1 b hb => ⟨.inl (mem_keys.2 ⟨p, hp1, hb⟩), ?_⟩, hnd, fun k hk => ⟨(h4 k hk).2, fun hm => (hkeys k hm).2 hk⟩, List.nodup_nil, fun _ h => by cases h⟩, ?_, ?_, fun k hk => (hkeys k hk).2⟩
    · obtain ⟨j, hj⟩ := List.mem_iff_getElem?.1 hp1
      rw [List.getElem?_set] at hj
      split at hj
      · split at hj
        · cases hj; cases hb; exact k2
        · cases hj
      · rename_i hne
        refine h3 p ?_ b hb
        rw [List.eraseIdx_eq_take_drop_succ]
        by_cases hlt' : j < i
        · exact List.mem_append_left _ (List.mem_of_getElem? (i := j) (by rw [List.getElem?_take, if_pos hlt']; exact hj))
        · exact List.mem_append_right _ (List.mem_of_getElem? (i := j - (i + 1)) (by rw [List.getElem?_drop, show i + 1 + (j - (i + 1)) = j by omega]; exact hj))
    · refine e4.trans (h5.trans (Step.sub fun k hk => ?_))
      have := (ks_erase (O0 := Oc) hi' (k := k)).2 hk
      rwa [he] at this
    · refine hJ'.loc h2 (fun k hk => ?_) (Loc.refl _ _) ⟨fun k hk => .inl ?_, fun k hk => (hkeys k hk).1⟩
      · rcases List.mem_append.1 hk with hk | hk
        · simp at hk; subst hk; exact hbO
        · exact fun hm => (h4 k hm).1 hk
      · rcases List.mem_cons.1 (hp'.mem_iff.2 hk) with rfl | hk
        · simp
        · exact List.mem_append_right _ hk
  rcases h with ⟨rfl, rfl, h⟩ | ⟨rfl, pre', h⟩
  · obtain ⟨Oc, g1, g2, g3⟩ := done J Lx hJ h
    exact kt w2 Oc o2 g1 g2 g3 k3
  · obtain ⟨Oc, g1, g2, g3⟩ := done Jx pre' hJx h
    exact kf w2 Oc o2 m2 _ g1 g2 g3 k3
theorem op_yieldS {d : Option Nat} {ty : TypeId} {pos : String} {aft : Array Edge} {g : Option (Nat × Bool)} {Vv : Value → World → Prop} {x : Operand} {args : List Operand} {us : Array TypeId} {vs : List Value} {a : γ}
    (hx : ev ρ x = .func (.yield l) #[] #[]) (ha : args.map (ev ρ) = vs) (hY : YieldsTo P enc L l J Jx) (hJ : Abides J) (hI : Itr J pre z O) (hs : St z O w bs) (hL : pre ++ [a] <+: L) (hen : enc a w (ks bs O) vs)
    (kt : ∀ w' O', St ⟨w', bs.filterMap Prod.fst, []⟩ O' w' bs → Step (ks bs O) w (ks bs O') w' → Itr J (pre ++ [a]) ⟨w', bs.filterMap Prod.fst, []⟩ O' → Vv (.bool true) w')
    (kf : ∀ w' O', St ⟨w', bs.filterMap Prod.fst, []⟩ O' w' bs → Step (ks bs O) w (ks bs O') w' → Itr Jx (pre ++ [a]) ⟨w', bs.filterMap Prod.fst, []⟩ O' → Vv (.bool false) w') :
    Run1 P none ρ w ⟨d, .call ⟨.value x, args.toArray, us⟩, ty, pos, aft, g⟩ Vv := by
  obtain ⟨fn, tmps, assign, body, hy, hR⟩ := hY pre a w O (bs.filterMap Prod.fst) vs hL (hI.now hJ hs) (fun k hk => ⟨hs.ltw k (mem_ks.2 (.inl hk)), fun hm => (hs.dj k hm).2 hk⟩) hs.lt0 hen
  unfold Run1
  rw [Oper.semAt_eq _ _ _ (by simp)]
  have hrun : (execOp (ev ρ) ⟨d, .call ⟨.value x, args.toArray, us⟩, ty, pos, aft, g⟩).run P w = .ok (.round l fn tmps assign body) w := by
    simp only [execOp, resolve, hx]
    subst ha
    simpa [go_sem, invoke] using hy
  rw [hrun]
  simp only
  refine RoundIn.mono hR ?_
  rintro e w' ⟨O', hl, hg, h⟩
  have hS : St ⟨w', bs.filterMap Prod.fst, []⟩ O' w' bs := by
    refine ⟨Loc.refl _ _, fun p hp b hb => ⟨.inl (mem_keys.2 ⟨p, hp, hb⟩), ?_⟩, hs.nd, fun k hk => ⟨hg.lt k hk, fun hm => ?_⟩, List.nodup_nil, fun _ h => by cases h⟩
    · rw [hl.block b (hs.lt hp hb) fun hm => (hs.dj b hm).2 (mem_keys.2 ⟨p, hp, hb⟩)]; exact (hs.own p hp b hb).2
    · rcases hg.new k hk with h1 | h1
      · exact (hs.dj k h1).2 hm
      · obtain ⟨p, hp, e⟩ := mem_keys.1 hm
        have := hs.lt hp e; omega
  have hP : Step (ks bs O) w (ks bs O') w' := Step.of_loc hl (fun k hk => mem_ks.2 (.inr hk)) fun k hk => by
    rcases mem_ks.1 hk with hk | hk
    · exact .inl (mem_ks.2 (.inl hk))
    · exact (hg.new k hk).imp (fun h => mem_ks.2 (.inr h)) id
  have hdj : ∀ k ∈ bs.filterMap Prod.fst, k ∉ O' := fun k hk hm => (hS.dj k hm).2 hk
  rcases h with ⟨rfl, h⟩ | ⟨rfl, h⟩
  · exact ⟨_, rfl, kt w' O' hS hP ⟨h, hdj⟩⟩
  · exact ⟨_, rfl, kf w' O' hS hP ⟨h, hdj⟩⟩
/-- within: the map is one's own for the time being -/
theorem Itr.startM {w : World} {bm : Nat} (h : J [] w O [bm]) (hb : bm ∉ O) : Itr J [] ⟨w, [bm], []⟩ O := ⟨h, fun k hk => by simp at hk; subst hk; exact hb⟩
theorem Itr.finM {o : Obj} (h : Itr J pre z O) (hJ : Abides J) (hs : St z O w [(some bm, o)]) : J pre w O [bm] ∧ bm ∉ O ∧ w.heap[bm]? = some o :=
  ⟨h.now hJ hs, fun hm => (hs.dj bm hm).2 (by simp), hs.get (i := 0) rfl⟩
end call
end Go.Fx
/- Sorting a slice of one's own by a function value (the kit's contract of slices.SortFunc, over my facts). No program in sight. -/
set_option linter.unusedSimpArgs false
set_option linter.unusedVariables false
namespace Go.Fx
open Go Go.RowKit Go.Shelf Go.Proofs
section sortm
variable {α : Type}
/-- less, as a comparison says -/
def ltM (cmp : α → α → Option Int) (x y : α) : Bool := match cmp x y with | some n => decide (n < 0) | none => false
/-- the comparison is a total order of these -/
def okSort [DecidableEq α] (cmp : α → α → Option Int) (xs : List α) : Bool :=
  xs.all fun x => !ltM cmp x x && xs.all fun y => (cmp x y).isSome && (ltM cmp x y || ltM cmp y x || decide (x = y)) && xs.all fun z => !(ltM cmp x y && ltM cmp y z) || ltM cmp x z
def insM (lt : α → α → Bool) (x : α) : List α → List α
  | [] => [x]
  | y :: t => bif lt x y then x :: y :: t else y :: insM lt x t
def isortM (lt : α → α → Bool) (xs : List α) : List α := xs.foldr (insM lt) []
/-- the list, sorted: nothing is said where the comparison is no total order of its elements -/
def sortM [DecidableEq α] (cmp : α → α → Option Int) (xs : List α) : Option (List α) := bif okSort cmp xs then some (isortM (ltM cmp) xs) else none
theorem insM_perm (lt : α → α → Bool) (x : α) : ∀ l, (insM lt x l).Perm (x :: l)
  | [] => List.Perm.refl _
  | y :: t => by
    unfold insM
    cases lt x y
    · exact ((insM_perm lt x t).cons y).trans (List.Perm.swap x y t)
    · exact List.Perm.refl _
theorem isortM_perm (lt : α → α → Bool) : ∀ l : List α, (isortM lt l).Perm l
  | [] => List.Perm.refl _
  | x :: t => (insM_perm lt x _).trans ((isortM_perm lt t).cons x)
structure TotalOn (lt : α → α → Bool) (xs : List α) : Prop where
  irr : ∀ x ∈ xs, lt x x = false
  tot : ∀ x ∈ xs, ∀ y ∈ xs, lt x y = false → lt y x = false → x = y
  tr : ∀ x ∈ xs, ∀ y ∈ xs, ∀ z ∈ xs, lt x y = true → lt y z = true → lt x z = true
theorem okSort_iff [DecidableEq α] {cmp : α → α → Option Int} {xs : List α} : okSort cmp xs = true ↔ TotalOn (ltM cmp) xs ∧ ∀ x ∈ xs, ∀ y ∈ xs, ∃ n, cmp x y = some n := by
  unfold okSort
  simp only [List.all_eq_true, Bool.and_eq_true, Bool.or_eq_true, Bool.not_eq_true', decide_eq_true_eq, Option.isSome_iff_exists]
  constructor
  · intro h
    refine ⟨⟨fun x hx => (h x hx).1, fun x hx y hy h1 h2 => ?_, fun x hx y hy z hz h1 h2 => ?_⟩, fun x hx y hy => ((h x hx).2 y hy).1.1⟩
    · rcases ((h x hx).2 y hy).1.2 with (h3 | h3) | h3
      · rw [h1] at h3; cases h3
      · rw [h2] at h3; cases h3
      · exact h3
    · rcases ((h x hx).2 y hy).2 z hz with h3 | h3
      · rw [h1, h2] at h3; cases h3
      · exact h3
  · rintro ⟨⟨h1, h2, h3⟩, h4⟩ x hx
    refine ⟨h1 x hx, fun y hy => ⟨⟨h4 x hx y hy, ?_⟩, fun z hz => ?_⟩⟩
    · cases h5 : ltM cmp x y
      · cases h6 : ltM cmp y x
        · exact .inr (h2 x hx y hy h5 h6)
        · exact .inl (.inr rfl)
      · exact .inl (.inl rfl)
    · cases h5 : ltM cmp x y
      · exact .inl rfl
      · cases h6 : ltM cmp y z
        · exact .inl rfl
        · exact .inr (h3 x hx y hy z hz h5 h6)
theorem TotalOn.ntrans {lt : α → α → Bool} {xs : List α} (T : TotalOn lt xs) {x y z : α} (hx : x ∈ xs) (hy : y ∈ xs) (hz : z ∈ xs) (h1 : lt x y = false) (h2 : lt y z = false) : lt x z = false := by
  cases h3 : lt x z
  · rfl
  · cases h4 : lt y x
    · have := T.tot x hx y hy h1 h4; subst this; rw [h3] at h2; cases h2
    · have := T.tr y hy x hx z hz h4 h3; rw [this] at h2; cases h2
theorem insM_sorted {lt : α → α → Bool} {xs : List α} (T : TotalOn lt xs) {x : α} (hx : x ∈ xs) : ∀ l : List α, (∀ y ∈ l, y ∈ xs) → l.Pairwise (fun a b => lt b a = false) → (insM lt x l).Pairwise (fun a b => lt b a = false)
  | [], _, _ => by simp [insM]
  | y :: t, hl, hp => by
    unfold insM
    have hy := hl y (by simp)
    cases h : lt x y
    · rw [cond_false, List.pairwise_cons]
      have hp' := List.pairwise_cons.1 hp
      refine ⟨fun z hz => ?_, insM_sorted T hx t (fun z hz => hl z (by simp [hz])) hp'.2⟩
      rcases List.mem_cons.1 ((insM_perm lt x t).mem_iff.1 hz) with e | hz
      · subst e; exact h
      · exact hp'.1 z hz
    · rw [cond_true, List.pairwise_cons]
      refine ⟨fun z hz => ?_, hp⟩
      have hyx : lt y x = false := by
        cases h' : lt y x
        · rfl
        · have := T.tr x hx y hy x hx h h'; rw [T.irr x hx] at this; cases this
      rcases List.mem_cons.1 hz with e | hz'
      · subst e; exact hyx
      · exact T.ntrans (hl z (by simp [hz'])) hy hx ((List.pairwise_cons.1 hp).1 z hz') hyx
theorem isortM_sorted {lt : α → α → Bool} {xs : List α} (T : TotalOn lt xs) : ∀ l : List α, (∀ y ∈ l, y ∈ xs) → (isortM lt l).Pairwise (fun a b => lt b a = false)
  | [], _ => by simp [isortM]
  | x :: t, hl => insM_sorted T (hl x (by simp)) _ (fun y hy => hl y (by simp [(isortM_perm lt t).mem_iff.1 hy])) (isortM_sorted T t fun y hy => hl y (by simp [hy]))
/-- there is one sorted permutation -/
theorem isortM_unique {lt : α → α → Bool} {xs ys : List α} (T : TotalOn lt xs) (hp : ys.Perm xs) (hs : ys.Pairwise (fun a b => lt b a = false)) : ys = isortM lt xs := by
  refine List.Perm.eq_of_pairwise (le := fun x y => (!lt y x) = true) ?_ ?_ ?_ (hp.trans (isortM_perm lt xs).symm)
  · intro a b ha hb h1 h2
    simp only [Bool.not_eq_true'] at h1 h2
    exact T.tot a (hp.mem_iff.1 ha) b (by simpa [(isortM_perm lt xs).mem_iff] using hb) h2 h1
  · exact hs.imp (by simp)
  · exact (isortM_sorted T xs fun _ h => h).imp (by simp)
theorem sortM_len [DecidableEq α] {cmp : α → α → Option Int} {xs ys : List α} (h : sortM cmp xs = some ys) : ys.length = xs.length := by
  unfold sortM at h
  cases he : okSort cmp xs
  · rw [he] at h; cases h
  · rw [he] at h; rw [← Option.some.inj h]; exact (isortM_perm _ _).length_eq
end sortm

theorem Ext.grow {w w' : World} (h : Ext w w') : ∃ q os, w' = Go.Sort.grow (w.drewN q) os := by
  refine ⟨w'.drawn - w.drawn, w'.heap.extract w.heap.size w'.heap.size, ?_⟩
  obtain ⟨h1, h2, h3, h4, h5, h6⟩ := h
  cases w with | mk heap tape drawn os output => cases w' with | mk heap' tape' drawn' os' output' =>
  simp only at h1 h2 h3 h4 h5 h6
  subst h1; subst h2; subst h3
  simp only [Go.Sort.grow, World.drewN, World.mk.injEq, true_and, and_true]
  refine ⟨?_, by omega⟩
  apply Array.ext_getElem?
  intro k
  by_cases hk : k < heap.size
  · rw [Array.getElem?_append_left hk, h5 k hk]
  · rw [Array.getElem?_append_right (by omega), Array.getElem?_extract]
    by_cases hk' : k < heap'.size
    · rw [if_pos (by omega)]; congr 1; omega
    · rw [if_neg (by omega), Array.getElem?_eq_none (by omega)]

section
variable {α : Type} {q : Rp α} {w w' : World} {O : List Nat}
theorem Els.one1 (hq : q.n = 1) : ∀ {cs : List Value} {xs : List α}, Els q w O cs xs → cs.length = xs.length ∧ ∀ j (h1 : j < cs.length) (h2 : j < xs.length), q.rd w O [cs[j]] xs[j] := by
  intro cs xs h
  have hl : cs.length = xs.length := by rw [h.len, hq, Nat.mul_one]
  refine ⟨hl, fun j h1 h2 => ?_⟩
  have := h.get j h2
  rw [hq, Nat.mul_one] at this
  rw [show [cs[j]] = (cs.drop j).take 1 from by rw [List.drop_eq_getElem_cons h1]; rfl]
  exact this
theorem Els.of_one (hq : q.n = 1) : ∀ {cs : List Value} {xs : List α}, cs.length = xs.length → (∀ j (h1 : j < cs.length) (h2 : j < xs.length), q.rd w O [cs[j]] xs[j]) → Els q w O cs xs
  | [], [], _, _ => rfl
  | c :: cs, x :: xs, hl, h => ⟨[c], cs, rfl, h 0 (by simp) (by simp), Els.of_one hq (by simpa using hl) fun j h1 h2 => h (j + 1) (by simp [h1]) (by simp [h2])⟩
end

theorem Fn.of_calls {P : Program} {f : FuncId} {args : List Value} {w : World} {R : Value → World → Prop} (h : Calls P f args.toArray w fun e w' => ∃ v, e = .returned v ∧ R v w') : Fn P f args w R := by
  unfold Fn; rw [FW_none]; exact callsIn_wide.2 h
section op
variable {P : Program} {r : Option Nat} {ρ : Env} {w : World} {z : Zx} {O0 : List Nat} {bs : Ents} {V : Value → World → Prop} {d : Option Nat} {ty : TypeId} {pos : String} {aft : Array Edge} {g : Option (Nat × Bool)}
variable {α : Type} [DecidableEq α] {q : Rp α}
/-- what the sort hands its comparison: a value, and what it reads as -/
abbrev Sd (q : Rp α) (w : World) (O : List Nat) (xs : List α) := { p : Value × α // q.rd w O [p.1] p.2 ∧ p.2 ∈ xs }
theorem sort_fn {ρs : Ren} (L : SlLaysF.n6 P ρs) (hq : q.n = 1) {e : TypeId} {f : Nat} {caps : Array Value}
    (hf : ∀ (args : Array Value) (w : World), (callFunc f args).run P w = .ok (.enter f args) w) (hs : St z O0 w bs) {i c : Nat} {kk : Option Nat} {o : Obj} {a : Option Addr} {xs ys : List α} (hi : bs[i]? = some (kk, o)) (gs : Gs q e w (ks bs O0) a c xs kk o)
    {cmp : α → α → Option Int} (hF : CallsTo2 P w (ks bs O0) (.func (.func f) #[] caps) (vC q) (vC q) (vI .i64) cmp) (hm : sortM cmp xs = some ys) (hsz : xs.length < 4611686018427387904) :
    Fn P (ρs.f 6) [.slice a xs.length c, .func (.func f) #[] caps] w fun v w' => v = .tuple #[] ∧ ∃ o', St z O0 w' (bs.set i (kk, o')) ∧ Step (ks bs O0) w (ks (bs.set i (kk, o')) O0) w' ∧ Gs q e w' (ks (bs.set i (kk, o')) O0) a c ys kk o' := by
  have hok : okSort cmp xs = true := by
    unfold sortM at hm; cases h : okSort cmp xs
    · rw [h] at hm; cases hm
    · rfl
  have hys : ys = isortM (ltM cmp) xs := by unfold sortM at hm; rw [hok] at hm; exact (Option.some.inj hm).symm
  obtain ⟨T, htot⟩ := okSort_iff.1 hok
  have hset : bs.set i (kk, o) = bs := by
    obtain ⟨h, e⟩ := List.getElem?_eq_some_iff.1 hi
    rw [← e, List.set_getElem_self]
  cases xs with
  | nil =>
    have he : ys = [] := hys
    subst he
    have := AnyF.slices_SortFunc_none (P := P) (ρ := ρs) { L with } a c (.func (.func f) #[] caps) w
    refine Fn.mono (R := fun v w' => v = .tuple #[] ∧ w' = w) (Fn.of_calls (Calls.mono this ?_)) ?_
    · rintro e w' ⟨rfl, rfl⟩; exact ⟨_, rfl, rfl, rfl⟩
    · rintro v w' ⟨rfl, rfl⟩
      exact ⟨rfl, o, by rw [hset]; exact ⟨hs, Step.refl _ _, gs⟩⟩
  | cons x0 xt =>
    obtain ⟨xs, hxs⟩ : ∃ xs, xs = x0 :: xt := ⟨_, rfl⟩
    rw [← hxs] at hm hok hys T htot hsz gs ⊢
    rcases gs with ⟨_, _, h, _⟩ | ⟨bl, cur, rfl, rfl, rfl, g4, g5, g6, g7⟩
    · rw [hxs] at h; cases h
    rw [hq, Nat.mul_one] at g4 g7
    obtain ⟨hl, hrd⟩ := g7.one1 hq
    have hcl : xs.length ≤ cur.size := by omega
    have hrd' : ∀ j (h : j < xs.length), q.rd w (ks bs O0) [cur[j]'(by omega)] xs[j] := fun j h => by
      have := hrd j (by rw [hl]; exact h) h
      simpa using this
    have x0in : 0 < xs.length := by rw [hxs]; simp
    letI : Inhabited (Sd q w (ks bs O0) xs) := ⟨⟨(cur[0]'(by omega), xs[0]), hrd' 0 x0in, List.getElem_mem _⟩⟩
    obtain ⟨D, hD⟩ : ∃ D : Array (Sd q w (ks bs O0) xs), D = Array.ofFn (n := xs.length) fun j => ⟨(cur[j.val]'(by omega), xs[j.val]), hrd' j.val j.isLt, List.getElem_mem _⟩ := ⟨_, rfl⟩
    have hDs : D.size = xs.length := by rw [hD]; simp
    obtain ⟨enc, henc⟩ : ∃ enc : Sd q w (ks bs O0) xs → Value, enc = fun p => p.1.1 := ⟨_, rfl⟩
    obtain ⟨cf, hcf⟩ : ∃ cf : Sd q w (ks bs O0) xs → Sd q w (ks bs O0) xs → Int, cf = fun p p' => (cmp p.1.2 p'.1.2).getD 0 := ⟨_, rfl⟩
    have hlt : ∀ p p', ltOf cf p p' = ltM cmp p.1.2 p'.1.2 := fun p p' => by
      unfold ltOf ltM; rw [hcf]
      obtain ⟨n, hn⟩ := htot p.1.2 p.2.2 p'.1.2 p'.2.2
      simp [hn]
    have hO : Go.Sort.SWO (ltOf cf) := ⟨fun p => by rw [hlt]; exact T.irr _ p.2.2, fun p p' p'' k1 k2 => by rw [hlt] at *; exact T.tr _ p.2.2 _ p'.2.2 _ p''.2.2 k1 k2, fun p p' p'' k1 k2 => by rw [hlt] at *; exact T.ntrans p.2.2 p'.2.2 p''.2.2 k1 k2⟩
    have hbl := hs.get hi
    have hblk : bl < w.heap.size := hs.lt (List.mem_of_getElem? hi) rfl
    have hH : Go.Sort.Holds enc w bl 0 D := by
      intro j hj
      rw [hDs] at hj
      have e1 : D[j]! = ⟨(cur[j]'(by omega), xs[j]), hrd' j hj, List.getElem_mem _⟩ := by rw [getElem!_pos D j (by omega)]; subst hD; simp
      rw [e1, henc]
      constructor
      · simp only [World.cell?, hbl, Nat.zero_add]; simp [show j < cur.size by omega]
      · simp only [World.frozen?, hbl]; simp
    have hrow : ∀ (m : Nat) (os : Array Obj) (dk : Array (Sd q w (ks bs O0) xs)), dk.size = D.size →
        Loc [bl] w (sortWorld enc w bl 0 m dk os) ∧ (sortWorld enc w bl 0 m dk os).heap[bl]? = some (.cells (Go.Sort.putCells enc 0 dk cur) e (0, 0)) := by
      intro m os dk hdk
      have hsz' : (Go.Sort.mapBlock (Go.Sort.ahead w m) bl (Go.Sort.putCells enc 0 dk)).heap.size = w.heap.size := by simp [Go.Sort.mapBlock, Go.Sort.ahead]
      constructor
      · refine ⟨rfl, rfl, rfl, ?_, fun k hk hn => ?_, ?_⟩
        · simp only [sortWorld, Go.Sort.grow, Go.Sort.putRow, Array.size_append, hsz']; omega
        · simp only [sortWorld, Go.Sort.grow, Go.Sort.putRow]
          rw [Array.getElem?_append_left (by rw [hsz']; exact hk)]
          simp only [Go.Sort.mapBlock, Go.Sort.ahead, Array.getElem?_modify]
          have : ¬ bl = k := fun e => hn (by simp [e])
          simp [this]
        · simp only [sortWorld, Go.Sort.grow, Go.Sort.putRow, Go.Sort.mapBlock, Go.Sort.ahead]; omega
      · simp only [sortWorld, Go.Sort.grow, Go.Sort.putRow]
        rw [Array.getElem?_append_left (by rw [hsz']; exact hblk)]
        simp only [Go.Sort.mapBlock, Go.Sort.ahead, Array.getElem?_modify, if_true, hbl, Option.map_some, Go.Sort.onCells]
    have hkey : bl ∈ ks bs O0 := mem_ks.2 (.inl (mem_keys.2 ⟨_, List.mem_of_getElem? hi, rfl⟩))
    have hcmp : CmpLays1 P f caps enc cf bl 0 D.size w := by
      intro m os dk hdk p p'
      obtain ⟨hl1, hl2⟩ := hrow m os dk hdk
      have hst : Step (ks bs O0) w (ks bs O0) (sortWorld enc w bl 0 m dk os) := Step.of_loc hl1 (by rintro k hk; simp at hk; subst hk; exact hkey) fun k hk => .inl hk
      obtain ⟨n, hn⟩ := htot p.1.2 p.2.2 p'.1.2 p'.2.2
      have := hF _ _ hst (fun k hk => Nat.lt_of_lt_of_le (hs.ltw k hk) hl1.size) p.1.1 p'.1.1 p.1.2 p'.1.2 n ((vC q).step hst p.2.1) ((vC q).step hst p'.2.1) hn
      obtain ⟨f', first, cap, hv, _, hfn⟩ := this
      cases hv
      have hc := hfn.calls
      refine Calls.mono ?_ ?_ (R := fun e w' => ∃ v, e = .returned v ∧ Ext (sortWorld enc w bl 0 m dk os) w' ∧ (vI .i64).vd w' (ks bs O0) v n)
      · have e1 : ((#[] : Array Value).toList ++ [p.1.1, p'.1.1] ++ caps.toList).toArray = #[enc p, enc p'] ++ caps := by rw [henc]; apply Array.ext'; simp
        rw [e1] at hc; exact hc
      · rintro e w' ⟨v, rfl, hx, hv⟩
        refine ⟨?_, hx.grow⟩
        have hv' : v = .int .i64 n := hv.1
        rw [hv', hcf]; simp [hn]
    have := Any.slices_SortFunc (P := P) (ρ := ρs) L enc (fun p => by rw [henc]; exact q.one p.2.1 p.1.1 (by simp)) cf hO f caps bl 0 c D w hf hcmp hH hblk (by rw [hDs]; exact hsz)
    rw [hDs] at this
    refine Fn.of_calls (Calls.mono this ?_)
    rintro e' w' ⟨rfl, d', n, os, hp, hso, rfl⟩
    refine ⟨_, rfl, rfl, .cells (Go.Sort.putCells enc 0 d' cur) e (0, 0), ?_⟩
    obtain ⟨hd1, _, hd3⟩ := hp
    rw [hDs] at hd1
    obtain ⟨hl1, hl2⟩ := hrow n os d' (by rw [hDs]; exact hd1)
    have ho : ∀ j, j < w.heap.size → some bl ≠ some j → (sortWorld enc w bl 0 n d' os).heap[j]? = w.heap[j]? := fun j hj hn => hl1.block j hj (by simp; rintro rfl; exact hn rfl)
    have hb := (hs.own _ (List.mem_of_getElem? hi) bl rfl).1
    have hst : Step (ks bs O0) w (ks (bs.set i (some bl, .cells (Go.Sort.putCells enc 0 d' cur) e (0, 0))) O0) (sortWorld enc w bl 0 n d' os) := Step.put hi hl1.size (fun j hj => .inl hj) ho
    refine ⟨hs.put hi (hs.below.trans' hl1 (by rintro k hk; simp at hk; subst hk; exact hb)) hl1.size (fun j hj => by cases hj; exact ⟨.inl rfl, hl2⟩) ho, hst, ?_⟩
    -- what the row holds
    have hex : d'.extract 0 xs.length = d' := by rw [← hd1]; exact Array.extract_size
    have hexD : D.extract 0 xs.length = D := by rw [← hDs]; exact Array.extract_size
    rw [hex, hexD] at hd3
    have hDl : D.toList.map (fun p => p.1.2) = xs := by
      apply List.ext_getElem
      · simp [hDs]
      · intro j h1 h2; subst hD; simp
    have hyl : d'.toList.map (fun p => p.1.2) = ys := by
      rw [hys]
      refine isortM_unique T ?_ ?_
      · have := hd3.map (fun p : Sd q w (ks bs O0) xs => p.1.2); rwa [hDl] at this
      · rw [List.pairwise_map, List.pairwise_iff_getElem]
        intro j k hj hk hjk
        have hj' : j < d'.size := by simpa using hj
        have hk' : k < d'.size := by simpa using hk
        have := hso j k (Nat.zero_le _) hjk (by omega)
        rw [hlt, getElem!_pos d' k hk', getElem!_pos d' j hj'] at this
        simpa using this
    have hylen : ys.length = xs.length := by rw [← hyl]; simp [hd1]
    refine .inr ⟨bl, Go.Sort.putCells enc 0 d' cur, rfl, rfl, rfl, by rw [hq, Nat.mul_one]; simp [Go.Sort.putCells, g4], by omega, g6, ?_⟩
    rw [hq, Nat.mul_one]
    refine Els.of_one hq (by simp [Go.Sort.putCells]; omega) fun j k1 k2 => ?_
    have hjx : j < d'.size := by omega
    have e1 : ((Go.Sort.putCells enc 0 d' cur).toList.take ys.length)[j] = (d'[j]'hjx).1.1 := by
      simp only [List.getElem_take, Array.getElem_toList, Go.Sort.putCells, Array.getElem_mapIdx, Nat.zero_le, Nat.zero_add, true_and, Nat.sub_zero]
      rw [if_pos hjx, getElem!_pos d' j hjx, henc]
    have e2 : ys[j] = (d'[j]'hjx).1.2 := by
      have : ∀ (l : List α) (h : l = ys) (hj : j < l.length), ys[j] = l[j] := by rintro l rfl hj; rfl
      rw [this _ hyl (by simpa using hjx)]; simp
    rw [e1, e2]
    exact q.step hst (d'[j]'hjx).2.1
/-- slices.SortFunc over a slice of one's own -/
theorem op_sortG {ρs : Ren} {k : FuncId} (L : SlLaysF.n6 P ρs) (hk : ρs.f 6 = k) (hcall : ∀ (args : Array Value) (w : World), (callFunc k args).run P w = .ok (.enter k args) w) (hq : q.n = 1) {e : TypeId} {f : Nat} {caps : Array Value}
    (hf : ∀ (args : Array Value) (w : World), (callFunc f args).run P w = .ok (.enter f args) w) (hs : St z O0 w bs) {i c : Nat} {kk : Option Nat} {o : Obj} {a : Option Addr} {xs ys : List α} (hi : bs[i]? = some (kk, o)) (gs : Gs q e w (ks bs O0) a c xs kk o)
    {cmp : α → α → Option Int} (hF : CallsTo2 P w (ks bs O0) (.func (.func f) #[] caps) (vC q) (vC q) (vI .i64) cmp) (hm : sortM cmp xs = some ys) (hsz : xs.length < 4611686018427387904)
    {args : Array Operand} {us : Array TypeId} (ha : args.toList.map (ev ρ) = [.slice a xs.length c, .func (.func f) #[] caps])
    (kont : ∀ w' o', St z O0 w' (bs.set i (kk, o')) → Step (ks bs O0) w (ks (bs.set i (kk, o')) O0) w' → Gs q e w' (ks (bs.set i (kk, o')) O0) a c ys kk o' → V (.tuple #[]) w') :
    Run1 P r ρ w ⟨d, .call ⟨.value (.func k), args, us⟩, ty, pos, aft, g⟩ V := by
  refine op_call hcall (by rw [← hk]; exact sort_fn L hq hf hs hi gs hF hm hsz) ha ?_
  rintro v w' ⟨rfl, o', h2, h3, h4⟩
  exact kont w' o' h2 h3 h4
end op
end Go.Fx
/-
  DERIVED: THE SHELF's CONTRACTS AT THIS DUMP, IN PLAIN WORDS (tools/lay-plain.mjs out of 'FxYtnenhpedfcngbaaSort.lean', which tools/lay-shelf.mjs wrote): THE SAME DECLARATIONS UNDER THE SAME NAMES: 'import', 'namespace', 'open', 'def', 'theorem' AND NOTHING ELSE: no command of the shelf's: FOR A HAND-IN. Each laying: the table of numbers ('.._ren') and one theorem, a field a fact of the dump's own or the kernel's comparison; each contract: ONE APPLICATION.
-/
namespace Go.Proofs
open Go.Shelf
def sortL33_ren : Go.Shelf.Ren := ⟨fun | 6 => 33 | 15 => 58 | 14 => 57 | 28 => 79 | 29 => 80 | 20 => 71 | 21 => 72 | 22 => 73 | 23 => 74 | 24 => 75 | 25 => 76 | 26 => 77 | 27 => 78 | 46 => 90 | 47 => 91 | 48 => 92 | 49 => 93 | 50 => 94 | 57 => 96 | n => n, fun | 22 => 23 | 24 => 22 | 25 => 53 | 3 => 3 | 39 => 69 | 0 => 0 | 53 => 84 | 55 => 86 | 4 => 4 | 46 => 78 | 45 => 77 | 50 => 49 | 5 => 5 | 9 => 9 | 66 => 88 | 70 => 92 | 76 => 95 | 77 => 96 | n => n, fun | n => n⟩
theorem sortL33 : Go.Proofs.SlLaysF.n6 Try.prog sortL33_ren := {
  mixed := by kernel_rfl
  f6 := ⟨Try.f33.name, by decide, Try.func33.trans (congrArg some (by kernel_rfl))⟩
  f14 := ⟨Try.f57.name, by decide, Try.func57.trans (congrArg some (by kernel_rfl))⟩
  f15 := Try.func58.trans (congrArg some (by kernel_rfl))
  f20 := ⟨Try.f71.name, by decide, Try.func71.trans (congrArg some (by kernel_rfl))⟩
  f21 := ⟨Try.f72.name, by decide, Try.func72.trans (congrArg some (by kernel_rfl))⟩
  f22 := ⟨Try.f73.name, by decide, Try.func73.trans (congrArg some (by kernel_rfl))⟩
  f23 := ⟨Try.f74.name, by decide, Try.func74.trans (congrArg some (by kernel_rfl))⟩
  f24 := ⟨Try.f75.name, by decide, Try.func75.trans (congrArg some (by kernel_rfl))⟩
  f25 := ⟨Try.f76.name, by decide, Try.func76.trans (congrArg some (by kernel_rfl))⟩
  f26 := ⟨Try.f77.name, by decide, Try.func77.trans (congrArg some (by kernel_rfl))⟩
  f27 := ⟨Try.f78.name, by decide, Try.func78.trans (congrArg some (by kernel_rfl))⟩
  f28 := Try.func79.trans (congrArg some (by kernel_rfl))
  f29 := Try.func80.trans (congrArg some (by kernel_rfl))
  f46 := ⟨Try.f90.name, by decide, Try.func90.trans (congrArg some (by kernel_rfl))⟩
  f47 := Try.func91.trans (congrArg some (by kernel_rfl))
  f48 := Try.func92.trans (congrArg some (by kernel_rfl))
  f49 := ⟨Try.f93.name, by decide, Try.func93.trans (congrArg some (by kernel_rfl))⟩
  f50 := ⟨Try.f94.name, by decide, Try.func94.trans (congrArg some (by kernel_rfl))⟩
  f57 := ⟨Try.f96.name, by decide, Try.func96.trans (congrArg some (by kernel_rfl))⟩
  t0 := Try.underlying0
  a0 := Try.isAgg0
  z0 := Try.sizeOf0
  v0 := Try.zeroValue0
  t3 := Try.underlying3
  a3 := Try.isAgg3
  z3 := Try.sizeOf3
  v3 := Try.zeroValue3
  t4 := Try.underlying4
  a4 := Try.isAgg4
  z4 := Try.sizeOf4
  v4 := Try.zeroValue4
  t5 := Try.underlying5
  a5 := Try.isAgg5
  z5 := Try.sizeOf5
  v5 := Try.zeroValue5
  t9 := Try.underlying9
  a9 := Try.isAgg9
  z9 := Try.sizeOf9
  v9 := Try.zeroValue9
  t22 := Try.underlying23
  a22 := Try.isAgg23
  z22 := Try.sizeOf23
  v22 := Try.zeroValue23
  a24 := Try.isAgg22
  z24 := Try.sizeOf22
  t25 := Try.underlying53
  a25 := Try.isAgg53
  z25 := Try.sizeOf53
  v25 := Try.zeroValue53
  t39 := Try.underlying69
  a39 := Try.isAgg69
  z39 := Try.sizeOf69
  v39 := Try.zeroValue69
  t45 := Try.underlying77
  a45 := Try.isAgg77
  z45 := Try.sizeOf77
  v45 := Try.zeroValue77
  t46 := Try.underlying78
  a46 := Try.isAgg78
  z46 := Try.sizeOf78
  v46 := Try.zeroValue78
  t50 := Try.underlying49
  a50 := Try.isAgg49
  z50 := Try.sizeOf49
  v50 := Try.zeroValue49
  t53 := Try.underlying84
  a53 := Try.isAgg84
  z53 := Try.sizeOf84
  v53 := Try.zeroValue84
  t55 := Try.underlying86
  a55 := Try.isAgg86
  z55 := Try.sizeOf86
  v55 := Try.zeroValue86
  t66 := Try.underlying88
  a66 := Try.isAgg88
  z66 := Try.sizeOf88
  v66 := Try.zeroValue88
  t70 := Try.underlying92
  a70 := Try.isAgg92
  z70 := Try.sizeOf92
  v70 := Try.zeroValue92
  t76 := Try.underlying95
  a76 := Try.isAgg95
  z76 := Try.sizeOf95
  v76 := Try.zeroValue95
  t77 := Try.underlying96
  a77 := Try.isAgg96
  z77 := Try.sizeOf96
  v77 := Try.zeroValue96 }
end Go.Proofs
set_option linter.unusedVariables false
set_option linter.unusedSimpArgs false
set_option maxRecDepth 100000
set_option maxHeartbeats 0
namespace Go.Fx
open Go Go.RowKit Go.Proofs
structure XRound where
  slots : Int
  owners : List Int
  costs : List (List Int)
  deriving Inhabited, DecidableEq
def rXRound : Rp XRound := rVia (fun d => (d.slots, d.owners, d.costs)) (rPair (rInt .i64) (rPair (rSl (rInt .i64)) (rSl (rSl (rInt .i64)))))
theorem ty64 : Ty Try.prog 64 (.func #[3, 3] #[4] false) 1 8 [.nilFunc] false :=
  ⟨Try.underlying64, ⟨Try.t64, info_of Try.type64, rfl, rfl, _, rfl, rfl⟩, Try.isAgg64, rfl⟩
theorem ty22 : Ty Try.prog 22 (.slice 3) 1 24 [(.slice none 0 0)] false :=
  ⟨Try.underlying22, ⟨Try.t22, info_of Try.type22, rfl, rfl, _, rfl, rfl⟩, Try.isAgg22, rfl⟩
theorem ty3 : Ty Try.prog 3 (.int .i64) 1 8 [(.int .i64 0)] false :=
  ⟨Try.underlying3, ⟨Try.t3, info_of Try.type3, rfl, rfl, _, rfl, rfl⟩, Try.isAgg3, rfl⟩
theorem ty25 : Ty Try.prog 25 (.struct #[{ name := "Slots", type := 3, offset := 0, embedded := false, tag := "", pkgPath := "", byteOffset := 0 }, { name := "Owners", type := 22, offset := 1, embedded := false, tag := "", pkgPath := "", byteOffset := 8 }, { name := "Costs", type := 23, offset := 2, embedded := false, tag := "", pkgPath := "", byteOffset := 32 }]) 3 56 [(.int .i64 0), (.slice none 0 0), (.slice none 0 0)] true :=
  ⟨Try.underlying25, ⟨Try.t25, info_of Try.type25, rfl, rfl, _, rfl, rfl⟩, Try.isAgg25, rfl⟩
theorem ty23 : Ty Try.prog 23 (.slice 22) 1 24 [(.slice none 0 0)] false :=
  ⟨Try.underlying23, ⟨Try.t23, info_of Try.type23, rfl, rfl, _, rfl, rfl⟩, Try.isAgg23, rfl⟩
theorem ty71 : Ty Try.prog 71 (.func #[22] #[4] false) 1 8 [.nilFunc] false :=
  ⟨Try.underlying71, ⟨Try.t71, info_of Try.type71, rfl, rfl, _, rfl, rfl⟩, Try.isAgg71, rfl⟩
theorem ty39 : Ty Try.prog 39 (.map 3 4) 1 8 [(.map none)] false :=
  ⟨Try.underlying39, ⟨Try.t39, info_of Try.type39, rfl, rfl, _, rfl, rfl⟩, Try.isAgg39, rfl⟩
theorem ty4 : Ty Try.prog 4 .bool 1 1 [(.bool false)] false :=
  ⟨Try.underlying4, ⟨Try.t4, info_of Try.type4, rfl, rfl, _, rfl, rfl⟩, Try.isAgg4, rfl⟩
theorem ty48 : Ty Try.prog 48 (.map 3 3) 1 8 [(.map none)] false :=
  ⟨Try.underlying48, ⟨Try.t48, info_of Try.type48, rfl, rfl, _, rfl, rfl⟩, Try.isAgg48, rfl⟩
theorem pl25 : Places Try.prog #[{ name := "Slots", type := 3, offset := 0, embedded := false, tag := "", pkgPath := "", byteOffset := 0 }, { name := "Owners", type := 22, offset := 1, embedded := false, tag := "", pkgPath := "", byteOffset := 8 }, { name := "Costs", type := 23, offset := 2, embedded := false, tag := "", pkgPath := "", byteOffset := 32 }] [(0, 1), (1, 1), (2, 1)] := fun w => by simp [ty3.runSize, ty22.runSize, ty23.runSize]

end Go.Fx
/- What the arguments read as. -/
namespace Go.Fx
open Go Go.Proofs Go.ChangeShapes Go.WideShapes Go.ChangeAt Go.RowKit Go.Fx
open Go.ChangeMaps (open_string shut_string)
set_option linter.unusedVariables false
set_option maxRecDepth 100000
theorem rd3 {H : Type} {enc : TypeId × Value → H} {w : World} {base : Nat} {spare : Nat → Bool} {held : Bool} : Rd enc Try.prog w base spare held 3 (rInt .i64) (InK .i64) := Rd_int Try.underlying3 (by kernel_rfl)
theorem rd22 {H : Type} {enc : TypeId × Value → H} {w : World} {base : Nat} {spare : Nat → Bool} {held : Bool} : Rd enc Try.prog w base spare held 22 (rSl (rInt .i64)) (SmL (InK .i64)) := Rd_slice Try.underlying22 (by kernel_rfl) (by decide) (of_decide_eq_true (by kernel_rfl)) rd3
theorem rd23 {H : Type} {enc : TypeId × Value → H} {w : World} {base : Nat} {spare : Nat → Bool} {held : Bool} : Rd enc Try.prog w base spare held 23 (rSl (rSl (rInt .i64))) (SmL (SmL (InK .i64))) := Rd_slice Try.underlying23 (by kernel_rfl) (by decide) (of_decide_eq_true (by kernel_rfl)) rd22
def smXRound (d : XRound) : Prop := (InK .i64) d.slots ∧ (SmL (InK .i64)) d.owners ∧ (SmL (SmL (InK .i64))) d.costs
theorem rd25 {H : Type} {enc : TypeId × Value → H} {w : World} {base : Nat} {spare : Nat → Bool} {held : Bool} : Rd enc Try.prog w base spare held 25 rXRound smXRound := by
  refine ⟨by kernel_rfl, fun fuel cs y h => ?_⟩
  obtain ⟨xs, n, _, hy, hl, hlen, hf⟩ := DataW.trod_struct Try.underlying25 h
  obtain ⟨x0, h0, s0⟩ := fld Try.underlying25 hf hlen hy (i := 0) rfl rd3
  obtain ⟨x1, h1, s1⟩ := fld Try.underlying25 hf hlen hy (i := 1) rfl rd22
  obtain ⟨x2, h2, s2⟩ := fld Try.underlying25 hf hlen hy (i := 2) rfl rd23
  have hc : Try.prog.cellsOf 25 = 3 := by kernel_rfl
  refine ⟨⟨x0, x1, x2⟩, ?_, fun hw => ⟨s0 hw, s1 hw, s2 hw⟩⟩
  exact rd_all (q := (rPair (rInt .i64) (rPair (rSl (rInt .i64)) (rSl (rSl (rInt .i64)))))) (rd_pair h0 (rd_pair h1 h2)) (hl.trans hc)
end Go.Fx
set_option linter.unusedVariables false
set_option linter.unusedSimpArgs false
set_option maxRecDepth 100000
set_option maxHeartbeats 0
namespace Go.Fx
open Go Go.RowKit Go.Proofs
def m50_coalition_Check_1 (n : Int) (most : Int) : Option Bool :=
 bif (decide (n < 0)) then
  some true
 else
  some (decide (most < n))

theorem c50_coalition_Check_1 {w : World} {O : List Nat} {n : Int} {most : Int} (hO : ∀ k ∈ O, k < w.heap.size) (Ra : InK .i64 n) (Rb : InK .i64 most) {x : Bool} (hm : m50_coalition_Check_1 n most = some x) :
 Ok Try.prog 50 [(Value.int .i64 n), (Value.int .i64 most)] w O vB x := by
 unfold m50_coalition_Check_1 at hm
 refine Fn_of_Wp (n := 12) (xs := [.tmp 4]) Try.func50 rfl Try.ntmps50 Try.results50 rfl ?_
 have hs := St.start hO
 refine Wp_seq (Wp_region ?_)
 refine Rg_op rfl (op_assign (v := (Value.bool false)) rfl ?_)
 refine Rg_nil (Wp_seq (Wp_region ?_))
 refine Rg_op rfl (op_move (v := (Value.int .i64 n)) rfl ?_)
 refine Rg_op rfl (op_lss rfl rfl ?_)
 refine Rg_op rfl (op_move (v := (Value.bool (decide (n < 0)))) rfl ?_)
 refine Rg_case (fun hg1 => ?_) (fun hg1 => ?_)
 replace hm := bif_t hm hg1
 iterate 3 refine Rg_opx rfl (asB_ne rfl rfl) rfl ?_
 refine Rg_op rfl (op_pick_t (v := (Value.bool true)) rfl rfl ?_)
 refine Rg_op rfl (op_assign (v := (Value.bool true)) rfl ?_)
 refine Rg_nil ?_
 refine Wp_ret ?_
 have hz := step_all hs
 refine ⟨_, (show Closes [] _ _ from rfl), [(Value.bool true)], ⟨rfl, trivial⟩, hs.ext, ?_⟩
 exact Vr.eq (a := vB) (x := true) rfl (Option.some.inj hm)
 replace hm := bif_f hm hg1
 refine Rg_opg rfl rfl rfl (op_move (v := (Value.int .i64 n)) rfl ?_)
 refine Rg_opg rfl rfl rfl (op_move (v := (Value.int .i64 most)) rfl ?_)
 refine Rg_opg rfl rfl rfl (op_gtr rfl rfl ?_)
 refine Rg_op rfl (op_pick_f (v := (Value.bool (decide (most < n)))) rfl rfl ?_)
 refine Rg_op rfl (op_assign (v := (Value.bool (decide (most < n)))) rfl ?_)
 refine Rg_nil ?_
 refine Wp_ret ?_
 have hz := step_all hs
 refine ⟨_, (show Closes [] _ _ from rfl), [(Value.bool (decide (most < n)))], ⟨rfl, trivial⟩, hs.ext, ?_⟩
 exact Vr.eq (a := vB) (x := (decide (most < n))) rfl (Option.some.inj hm)

def m70_slices_IndexFuncint_int__B0 (s : List Int) (f : Int → Option Bool) (sf4 : Int → Option Int) (v_1 : Int) : Option Int :=
 bif (decide (v_1 < (s.length : Int))) then
  ck ((0 : Int) ≤ v_1 ∧ v_1 < (s.length : Int)) <|
  (f (s.getD v_1.toNat default)).bind fun r_1 =>
  bif r_1 then
   some v_1
  else
   sf4 (IntKind.wrap .i64 (v_1 + 1))
 else
  some (-1)

def m70_slices_IndexFuncint_int_ (s : List Int) (f : Int → Option Bool) : Option Int :=
 loop1 (m70_slices_IndexFuncint_int__B0 s f) (((s.length : Int) - 0).toNat + 1) 0

theorem c70_slices_IndexFuncint_int_ {w : World} {O : List Nat} {s : List Int} {f : Int → Option Bool} {Aa : Option Addr} {Ca : Nat} {v_f : Value} (hO : ∀ k ∈ O, k < w.heap.size) (Fa : SlR (rInt .i64) w O Aa Ca s) (F_f : CallsTo1 Try.prog w O v_f (vI .i64) vB f) {x : Int} (hm : m70_slices_IndexFuncint_int_ s f = some x) :
 Ok Try.prog 70 [(Value.slice Aa s.length Ca), v_f] w O (vI .i64) x := by
 unfold m70_slices_IndexFuncint_int_ at hm
 refine Fn_of_Wp (n := 19) (xs := [.tmp 4]) Try.func70 rfl Try.ntmps70 Try.results70 rfl ?_
 have hs := St.start hO
 refine Wp_seq (Wp_region ?_)
 refine Rg_op rfl (op_assign (v := (Value.int .i64 0)) rfl ?_)
 refine Rg_nil (Wp_seq (Wp_seq (Wp_region ?_)))
 refine Rg_op rfl (op_move (v := (Value.slice Aa s.length Ca)) rfl ?_)
 refine Rg_op rfl (op_len Try.underlying22 rfl ?_)
 have rl1 := inK_len Fa
 refine Rg_op rfl (op_move (v := (Value.int .i64 0)) rfl ?_)
 refine Rg_nil (Wp_block ?_)
 refine Wp_reset [] [(0, (Value.slice Aa s.length Ca)), (1, v_f), (7, (Value.int .i64 (s.length : Int))), (8, (Value.int .i64 0))] rfl ⟨rfl, rfl, rfl, rfl, trivial⟩ fun ξ3 => ?_
 refine Wp_loopM [4, 5, 8, 9, 10, 11, 12, 13, 14, 15, 16, 17, 18] (fun m fr w' => ∃ (v_1 : Int) (Ebs : Ents), Ebs = [] ∧ fr [] [(8, (Value.int .i64 v_1))] ∧ Step (ks [] O) w (ks Ebs O) w' ∧ St ⟨w, [], []⟩ O w' Ebs ∧ InK .i64 v_1 ∧ loop1 (m70_slices_IndexFuncint_int__B0 s f) m v_1 = some x) (((s.length : Int) - 0).toNat + 1) ⟨0, _, rfl, ⟨Out.refl _ _, rfl, rfl, trivial⟩, Step.refl _ _, hs, (show InK .i64 0 from by decide), hm⟩ ?_ ?_
 rintro _ _ ⟨_, _, _, _, _, _, _, hm⟩; exact loop1_z hm
 rintro m7 K6 hK6 ρ12 w8 ⟨v_1, Ebs, hEbs, hfr11, hst10, hs9, Ra, hm⟩
 obtain ⟨sf4, hsf5, hm⟩ := loop1_s hm; unfold m70_slices_IndexFuncint_int__B0 at hm
 subst hEbs; rw [hfr11.eq]; clear hfr11
 replace Fa := Fa.step hst10; replace F_f := F_f.step hst10
 have ch13 := hst10
 refine Wp_seq (Wp_region ?_)
 refine Rg_op rfl (op_lss rfl rfl ?_)
 refine Rg_nil (Wp_seq ?_)
 refine Wp_cond rfl (fun hc14 => ?_) (fun hc14 => ?_)
 replace hm := bif_t hm hc14
 refine Wp_skip (Wp_seq (Wp_block (Wp_seq (Wp_region ?_))))
 refine Rg_op rfl (op_move (v := (Value.int .i64 v_1)) rfl ?_)
 refine Rg_op rfl (op_assign (v := (Value.int .i64 v_1)) rfl ?_)
 refine Rg_nil (Wp_seq (Wp_region ?_))
 refine Rg_op rfl (op_move (v := v_f) rfl ?_)
 refine Rg_op rfl (op_move (v := (Value.slice Aa s.length Ca)) rfl ?_)
 refine Rg_op rfl (op_move (v := (Value.int .i64 v_1)) rfl ?_)
 replace hm := ck_some hm; obtain ⟨hc15, hm⟩ := hm
 refine Rg_op rfl (op_indexAddr (q := (rInt .i64)) ty22 ty3 rfl rfl Fa rfl hc15.1 hc15.2 ?_)
 intro p16 f17
 refine Rg_op rfl (op_loadP ty3 rfl f17 rfl ?_)
 intro v18 h19
 obtain ⟨rfl, Rb⟩ := un_int h19
 replace hm := bd hm; obtain ⟨r_1, hv21, hm⟩ := hm
 refine Rg_op rfl (op_callF rfl (F_f.call hs9.ltw ⟨rfl, Rb⟩ hv21) rfl ?_)
 rintro v22 w23 ⟨hx24, h25⟩
 have hs26 := hs9.call hx24
 have p27 := Step.ext (O := ks [] O) hx24
 clear hx24
 replace Fa := Fa.step p27; replace F_f := F_f.step p27; replace f17 := f17.step p27; replace ch13 := ch13.trans p27; clear p27 hs9
 obtain rfl := h25
 refine Rg_nil ?_
 refine Wp_cond rfl (fun hc29 => ?_) (fun hc29 => ?_)
 replace hm := bif_t hm hc29
 refine Wp_seq ?_
 clear Fa F_f f17
 refine Wp_region ?_
 refine Rg_op rfl (op_move (v := (Value.int .i64 v_1)) rfl ?_)
 refine Rg_op rfl (op_assign (v := (Value.int .i64 v_1)) rfl ?_)
 refine Rg_nil ?_
 refine Wp_ret ?_
 have hz := step_all hs26
 refine ⟨_, (show Closes [] _ _ from rfl), [(Value.int .i64 v_1)], ⟨rfl, trivial⟩, hs26.ext, ?_⟩
 exact Vr.eq (a := (vI .i64)) (x := v_1) ⟨rfl, Ra⟩ (Option.some.inj hm)
 replace hm := bif_f hm hc29
 refine Wp_skip ?_
 clear f17
 refine Wp_region ?_
 refine Rg_op rfl (op_addw rfl rfl ?_)
 refine Rg_op rfl (op_move (v := (Value.int .i64 (IntKind.wrap .i64 (v_1 + 1)))) rfl ?_)
 refine Rg_nil ?_
 exact hK6 _ _ ⟨(IntKind.wrap .i64 (v_1 + 1)), _, rfl, ⟨(by repeat (first | with_reducible exact Out.refl _ _ | refine Out.upd ?_ rfl | refine Out.updL ?_ rfl | refine Out.mix' ?_ rfl | exact Out.refl _ _)), rfl, rfl, trivial⟩, ch13, hs26, (inK_wrap .i64 _), jnE1 hsf5 hm⟩
 replace hm := bif_f hm hc14
 refine Wp_exit (Wp_seq ?_)
 clear Fa F_f
 refine Wp_region ?_
 refine Rg_op rfl (op_assign (v := (Value.int .i64 (-1))) rfl ?_)
 refine Rg_nil ?_
 refine Wp_ret ?_
 have hz := step_all hs9
 refine ⟨_, (show Closes [] _ _ from rfl), [(Value.int .i64 (-1))], ⟨rfl, trivial⟩, hs9.ext, ?_⟩
 exact Vr.eq (a := (vI .i64)) (x := (-1)) ⟨rfl, (show InK .i64 (-1) from by decide)⟩ (Option.some.inj hm)

def m51_slices_ContainsFuncint_int_ (s : List Int) (f : Int → Option Bool) : Option Bool :=
 (m70_slices_IndexFuncint_int_ s f).bind fun indexfunc_1 =>
 some (decide (0 ≤ indexfunc_1))

theorem c51_slices_ContainsFuncint_int_ {w : World} {O : List Nat} {s : List Int} {f : Int → Option Bool} {Aa : Option Addr} {Ca : Nat} {v_f : Value} (hO : ∀ k ∈ O, k < w.heap.size) (Fa : SlR (rInt .i64) w O Aa Ca s) (F_f : CallsTo1 Try.prog w O v_f (vI .i64) vB f) {x : Bool} (hm : m51_slices_ContainsFuncint_int_ s f = some x) :
 Ok Try.prog 51 [(Value.slice Aa s.length Ca), v_f] w O vB x := by
 unfold m51_slices_ContainsFuncint_int_ at hm
 refine Fn_of_Wp (n := 9) (xs := [.tmp 4]) Try.func51 rfl Try.ntmps51 Try.results51 rfl ?_
 have hs := St.start hO
 refine Wp_seq (Wp_region ?_)
 refine Rg_op rfl (op_assign (v := (Value.bool false)) rfl ?_)
 refine Rg_nil (Wp_seq (Wp_region ?_))
 refine Rg_op rfl (op_move (v := (Value.slice Aa s.length Ca)) rfl ?_)
 refine Rg_op rfl (op_move (v := v_f) rfl ?_)
 replace hm := bd hm; obtain ⟨indexfunc_1, hv1, hm⟩ := hm
 refine Rg_op rfl (op_call Try.call70 (c70_slices_IndexFuncint_int_ (s := s) (f := f) hs.ltw Fa F_f hv1) rfl ?_)
 rintro v2 w3 ⟨hx4, h5⟩
 have hs6 := hs.call hx4
 have p7 := Step.ext (O := ks [] O) hx4
 clear hx4
 replace Fa := Fa.step p7; replace F_f := F_f.step p7; clear p7
 obtain ⟨rfl, Ra⟩ := h5
 refine Rg_op rfl (op_geq rfl rfl ?_)
 refine Rg_op rfl (op_assign (v := (Value.bool (decide (0 ≤ indexfunc_1)))) rfl ?_)
 refine Rg_nil ?_
 refine Wp_ret ?_
 have hz := step_all hs6
 replace Fa := Fa.step hz; replace F_f := F_f.step hz
 refine ⟨_, (show Closes [] _ _ from rfl), [(Value.bool (decide (0 ≤ indexfunc_1)))], ⟨rfl, trivial⟩, hs6.ext, ?_⟩
 exact Vr.eq (a := vB) (x := (decide (0 ≤ indexfunc_1))) rfl (Option.some.inj hm)

def m52_coalition_Check_2 (c : Int) (fv0_ : Int → Int → Option Bool) : Option Bool :=
 (fv0_ (IntKind.wrap .i64 (c + 1)) 1048577).bind fun r_1 =>
 some r_1

theorem c52_coalition_Check_2 {w : World} {O : List Nat} {c : Int} {fv0_ : Int → Int → Option Bool} {p_fv0_ : Addr} (hO : ∀ k ∈ O, k < w.heap.size) (Ra : InK .i64 c) (Fa : PtR (rFv2 Try.prog (vI .i64) (vI .i64) vB) w O p_fv0_ fv0_) {x : Bool} (hm : m52_coalition_Check_2 c fv0_ = some x) :
 Ok Try.prog 52 [(Value.int .i64 c), (Value.pointer (some p_fv0_))] w O vB x := by
 unfold m52_coalition_Check_2 at hm
 refine Fn_of_Wp (n := 8) (xs := [.tmp 3]) Try.func52 rfl Try.ntmps52 Try.results52 rfl ?_
 have hs := St.start hO
 refine Wp_seq (Wp_region ?_)
 refine Rg_op rfl (op_assign (v := (Value.bool false)) rfl ?_)
 refine Rg_nil (Wp_seq (Wp_region ?_))
 refine Rg_op rfl (op_loadP ty64 rfl Fa rfl ?_)
 intro v1 h2
 have F3 := (un_fv2 h2).2; clear h2
 refine Rg_op rfl (op_move (v := (Value.int .i64 c)) rfl ?_)
 refine Rg_op rfl (op_addw rfl rfl ?_)
 replace hm := bd hm; obtain ⟨r_1, hv4, hm⟩ := hm
 refine Rg_op rfl (op_callF rfl (F3.call hs.ltw ⟨rfl, (inK_wrap .i64 _)⟩ ⟨rfl, (show InK .i64 1048577 from by decide)⟩ hv4) rfl ?_)
 rintro v5 w6 ⟨hx7, h8⟩
 have hs9 := hs.call hx7
 have p10 := Step.ext (O := ks [] O) hx7
 clear hx7
 replace Fa := Fa.step p10; replace F3 := F3.step p10; clear p10
 obtain rfl := h8
 refine Rg_op rfl (op_assign (v := (Value.bool r_1)) rfl ?_)
 refine Rg_nil ?_
 refine Wp_ret ?_
 have hz := step_all hs9
 replace Fa := Fa.step hz; replace F3 := F3.step hz
 refine ⟨_, (show Closes [] _ _ from rfl), [(Value.bool r_1)], ⟨rfl, trivial⟩, hs9.ext, ?_⟩
 exact Vr.eq (a := vB) (x := r_1) rfl (Option.some.inj hm)

def m25_coalition_Check_B0 (r_ : XRound) (sf48 : Int → Option Int) (v_2 : Int) : Option Int :=
 bif (decide (v_2 < (r_.costs.length : Int))) then
  ck ((0 : Int) ≤ v_2 ∧ v_2 < (r_.costs.length : Int)) <|
  jn (fun (v_3 : Bool) =>
   bif v_3 then
    some 370
   else
    sf48 (IntKind.wrap .i64 (v_2 + 1)))
  (fun k67 =>
   ck ((0 : Int) ≤ v_2 ∧ v_2 < (r_.owners.length : Int)) <|
   ((fun x24 x25 => m50_coalition_Check_1 x24 x25) (r_.owners.getD v_2.toNat default) 7).bind fun r_1 =>
   bif r_1 then
    k67 true
   else
    bif (decide (((r_.costs.getD v_2.toNat default).length : Int) ≠ r_.slots)) then
     k67 true
    else
     ck ((0 : Int) ≤ v_2 ∧ v_2 < ((r_.costs.getD v_2.toNat default).length : Int)) <|
     bif (decide (((r_.costs.getD v_2.toNat default).getD v_2.toNat default) < 0)) then
      k67 true
     else
      (m51_slices_ContainsFuncint_int_ (r_.costs.getD v_2.toNat default) (fun x287 => m52_coalition_Check_2 x287 (fun x24 x25 => m50_coalition_Check_1 x24 x25))).bind fun containsfunc_1 =>
      k67 containsfunc_1)
 else
  some 0

def m25_coalition_Check (r_ : XRound) : Option Int :=
 jn (fun (v_1 : Bool) =>
  bif v_1 then
   some 370
  else
   loop1 (m25_coalition_Check_B0 r_) (((r_.costs.length : Int) - 0).toNat + 1) 0)
 (fun k8 =>
  bif (decide (r_.slots < 1)) then
   k8 true
  else
   bif (decide (8 < r_.slots)) then
    k8 true
   else
    bif (decide (r_.slots < (r_.owners.length : Int))) then
     k8 true
    else
     k8 (decide ((r_.costs.length : Int) ≠ (r_.owners.length : Int))))

theorem c25_coalition_Check {w : World} {O : List Nat} {r_ : XRound} {Aa : Option Addr} {Ca : Nat} {Ab : Option Addr} {Cb : Nat} (hO : ∀ k ∈ O, k < w.heap.size) (Ra : InK .i64 r_.slots) (Fa : SlR (rInt .i64) w O Aa Ca r_.owners) (Fb : SlR (rSl (rInt .i64)) w O Ab Cb r_.costs) {x : Int} (hm : m25_coalition_Check r_ = some x) :
 Ok Try.prog 25 [(Value.agg [(Value.int .i64 r_.slots), (Value.slice Aa r_.owners.length Ca), (Value.slice Ab r_.costs.length Cb)].toArray)] w O (vI .i64) x := by
 unfold m25_coalition_Check at hm
 refine Fn_of_Wp (n := 66) (xs := [.tmp 2]) Try.func25 rfl Try.ntmps25 Try.results25 rfl ?_
 have hs := St.start hO
 refine Wp_seq (Wp_region ?_)
 refine Rg_op rfl (op_box (cs := [(Value.int .i64 r_.slots), (Value.slice Aa r_.owners.length Ca), (Value.slice Ab r_.costs.length Cb)]) hs rfl rfl ?_)
 intro b1 w2 _ p3 hs4
 replace Fa := Fa.step p3; replace Fb := Fb.step p3; clear p3
 refine Rg_op rfl (op_assign (v := (Value.int .i64 0)) rfl ?_)
 refine Rg_nil (Wp_seq ?_)
 refine Wp_reset [] [(1, (Value.pointer (some ⟨b1, 0, none⟩)))] rfl ⟨rfl, trivial⟩ fun ξ6 => ?_
 replace hm := jn_elim hm; obtain ⟨k8, hk9, hm⟩ := hm
 refine Wp_seqJ [6, 7, 8, 9, 10, 11, 12, 13, 14, 15, 16, 17, 18, 19, 20, 21, 22, 23, 24, 25, 26, 27, 28, 29, 30] (fun fr w' => ∃ (v_1 : Bool) (Ebs : Ents), Ebs = [(some b1, Obj.cells [(Value.int .i64 r_.slots), (Value.slice Aa r_.owners.length Ca), (Value.slice Ab r_.costs.length Cb)].toArray 25)] ∧ fr [] [(30, (Value.bool v_1))] ∧ Step (ks [(some b1, Obj.cells [(Value.int .i64 r_.slots), (Value.slice Aa r_.owners.length Ca), (Value.slice Ab r_.costs.length Cb)].toArray 25)] O) w2 (ks Ebs O) w' ∧ St ⟨w, [], []⟩ O w' Ebs ∧ k8 v_1 = some x) ?_ ?_
 rintro ρ15 w11 ⟨v_1, Ebs, hEbs, hfr14, hst13, hs12, hm⟩
 replace hm := jnE1 hk9 hm
 subst hEbs; rw [hfr14.eq]; clear hfr14
 replace Fa := Fa.step hst13; replace Fb := Fb.step hst13; clear hst13 hs4
 refine Wp_cond rfl (fun hc16 => ?_) (fun hc16 => ?_)
 replace hm := bif_t hm hc16
 refine Wp_seq ?_
 obtain ⟨hs17, p18⟩ := hs12.sub (bs' := []) (.cons _ List.Sublist.slnil)
 clear Fa Fb
 clear p18 hs12
 refine Wp_region ?_
 refine Rg_op rfl (op_assign (v := (Value.int .i64 370)) rfl ?_)
 refine Rg_nil ?_
 refine Wp_ret ?_
 have hz := step_all hs17
 refine ⟨_, (show Closes [] _ _ from rfl), [(Value.int .i64 370)], ⟨rfl, trivial⟩, hs17.ext, ?_⟩
 exact Vr.eq (a := (vI .i64)) (x := 370) ⟨rfl, (show InK .i64 370 from by decide)⟩ (Option.some.inj hm)
 replace hm := bif_f hm hc16
 refine Wp_skip (Wp_seq (Wp_region ?_))
 refine Rg_op rfl (op_alloc ty64 hs12 ?_)
 intro b19 w20 _ p21 hs22
 replace Fa := Fa.step p21; replace Fb := Fb.step p21; clear p21 hs12
 have F26 : CallsTo2 Try.prog w20 (ks [(some b19, Obj.cells [Value.nilFunc].toArray 64), (some b1, Obj.cells [(Value.int .i64 r_.slots), (Value.slice Aa r_.owners.length Ca), (Value.slice Ab r_.costs.length Cb)].toArray 25)] O) (Value.func (.func 50) #[] #[]) (vI .i64) (vI .i64) vB (fun x24 x25 => m50_coalition_Check_1 x24 x25) := by
  intro w27 O28 st29 hO30 v33 v34 x24 x25 y31 h35 h36 hy32
  obtain ⟨rfl, Rb⟩ := h35
  obtain ⟨rfl, Rc⟩ := h36
  exact ⟨50, #[], #[], rfl, Try.call50, c50_coalition_Check_1 (n := x24) (most := x25) hO30 Rb Rc hy32⟩
 refine Rg_op_ (op_store (cs := [Value.nilFunc]) (vs := [(Value.func (.func 50) #[] #[])]) (cs' := [(Value.func (.func 50) #[] #[])]) (bs' := [(some b19, Obj.cells [(Value.func (.func 50) #[] #[])].toArray 64), (some b1, Obj.cells [(Value.int .i64 r_.slots), (Value.slice Aa r_.owners.length Ca), (Value.slice Ab r_.costs.length Cb)].toArray 25)]) (i := 0) ty64 hs22 rfl rfl rfl rfl rfl (le_lit rfl) rfl rfl rfl ?_)
 intro w39 p40 hs41
 replace Fa := Fa.step p40; replace Fb := Fb.step p40; replace F26 := F26.step p40; clear p40 hs22
 obtain ⟨hs43, p44, f42⟩ := St.publishP (p := (rFv2 Try.prog (vI .i64) (vI .i64) vB)) (i := 0) (x := (fun x24 x25 => m50_coalition_Check_1 x24 x25)) hs41 rfl (mk_fv2 F26)
 replace Fa := Fa.step p44; replace Fb := Fb.step p44; replace F26 := F26.step p44; clear p44 hs41
 refine Rg_nil (Wp_seq (Wp_seq ?_))
 clear F26
 refine Wp_region ?_
 refine Rg_op rfl (op_fieldAddr ty25 rfl ty23 (by decide) rfl (rfl : _ = (⟨_, 2, none⟩ : Addr)) ?_)
 refine Rg_op rfl (op_load (cs := [(Value.int .i64 r_.slots), (Value.slice Aa r_.owners.length Ca), (Value.slice Ab r_.costs.length Cb)]) (i := 0) ty23 hs43 rfl rfl rfl ?_)
 refine Rg_op rfl (op_len Try.underlying23 rfl ?_)
 have rl45 := inK_len Fb
 refine Rg_op rfl (op_move (v := (Value.int .i64 0)) rfl ?_)
 refine Rg_nil (Wp_block ?_)
 refine Wp_reset [] [(1, (Value.pointer (some ⟨b1, 0, none⟩))), (3, (Value.pointer (some (⟨b19, 0, none⟩ : Addr)))), (32, (Value.slice Ab r_.costs.length Cb)), (33, (Value.int .i64 (r_.costs.length : Int))), (34, (Value.int .i64 0))] rfl ⟨rfl, rfl, rfl, rfl, rfl, trivial⟩ fun ξ47 => ?_
 refine Wp_loopM [2, 4, 5, 34, 35, 36, 37, 38, 39, 40, 41, 42, 43, 44, 45, 46, 47, 48, 49, 50, 51, 52, 53, 54, 55, 56, 57, 58, 59, 60, 61, 62, 63, 64, 65] (fun m fr w' => ∃ (v_2 : Int) (Ebs : Ents), Ebs = [(some b1, Obj.cells [(Value.int .i64 r_.slots), (Value.slice Aa r_.owners.length Ca), (Value.slice Ab r_.costs.length Cb)].toArray 25)] ∧ fr [] [(34, (Value.int .i64 v_2))] ∧ Step (ks [(some b1, Obj.cells [(Value.int .i64 r_.slots), (Value.slice Aa r_.owners.length Ca), (Value.slice Ab r_.costs.length Cb)].toArray 25)] O) w39 (ks Ebs O) w' ∧ St ⟨w, [], []⟩ O w' Ebs ∧ InK .i64 v_2 ∧ loop1 (m25_coalition_Check_B0 r_) m v_2 = some x) (((r_.costs.length : Int) - 0).toNat + 1) ⟨0, _, rfl, ⟨Out.refl _ _, rfl, rfl, trivial⟩, Step.refl _ _, hs43, (show InK .i64 0 from by decide), hm⟩ ?_ ?_
 rintro _ _ ⟨_, _, _, _, _, _, _, hm⟩; exact loop1_z hm
 rintro m51 K50 hK50 ρ56 w52 ⟨v_2, Ebs, hEbs, hfr55, hst54, hs53, Rd, hm⟩
 obtain ⟨sf48, hsf49, hm⟩ := loop1_s hm; unfold m25_coalition_Check_B0 at hm
 subst hEbs; rw [hfr55.eq]; clear hfr55
 replace Fa := Fa.step hst54; replace Fb := Fb.step hst54; replace f42 := f42.step hst54
 have ch57 := hst54
 refine Wp_seq (Wp_region ?_)
 refine Rg_op rfl (op_lss rfl rfl ?_)
 refine Rg_nil (Wp_seq ?_)
 refine Wp_cond rfl (fun hc58 => ?_) (fun hc58 => ?_)
 replace hm := bif_t hm hc58
 refine Wp_skip (Wp_seq (Wp_block (Wp_seq (Wp_region ?_))))
 refine Rg_op rfl (op_move (v := (Value.int .i64 v_2)) rfl ?_)
 replace hm := ck_some hm; obtain ⟨hc59, hm⟩ := hm
 refine Rg_op rfl (op_indexAddr (q := (rSl (rInt .i64))) ty23 ty22 rfl rfl Fb rfl hc59.1 hc59.2 ?_)
 intro p60 f61
 refine Rg_op rfl (op_loadP ty22 rfl f61 rfl ?_)
 intro v62 h63
 obtain ⟨Ac, Cc, rfl, Fc⟩ := un_sl h63
 refine Rg_op rfl (op_assign (v := (Value.int .i64 v_2)) rfl ?_)
 refine Rg_op rfl (op_assign (v := (Value.slice Ac (r_.costs.getD v_2.toNat default).length Cc)) rfl ?_)
 refine Rg_nil ?_
 refine Wp_reset2 [2, 4, 5, 34, 35, 36, 37, 38, 39, 40, 41, 42, 43, 44, 45, 46, 47, 48, 49, 50, 51, 52, 53, 54, 55, 56, 57, 58, 59, 60, 61, 62, 63, 64, 65] [] (updL ⟨ξ47, []⟩ [(1, (Value.pointer (some ⟨b1, 0, none⟩))), (3, (Value.pointer (some (⟨b19, 0, none⟩ : Addr)))), (32, (Value.slice Ab r_.costs.length Cb)), (33, (Value.int .i64 (r_.costs.length : Int))), (34, (Value.int .i64 0))]) [(4, (Value.int .i64 v_2)), (5, (Value.slice Ac (r_.costs.getD v_2.toNat default).length Cc)), (34, (Value.int .i64 v_2))] (by repeat (first | with_reducible exact Out.refl _ _ | refine Out.upd ?_ rfl | refine Out.updL ?_ rfl | refine Out.mix' ?_ rfl | exact Out.refl _ _)) rfl ⟨rfl, rfl, rfl, trivial⟩ fun ξ65 => ?_
 replace hm := jn_elim hm; obtain ⟨k67, hk68, hm⟩ := hm
 refine Wp_seqJ [39, 40, 41, 42, 43, 44, 45, 46, 47, 48, 49, 50, 51, 52, 53, 54, 55, 56, 57, 58, 59, 60, 61, 62, 63, 64] (fun fr w' => ∃ (v_3 : Bool) (Ebs : Ents), Ebs = [(some b1, Obj.cells [(Value.int .i64 r_.slots), (Value.slice Aa r_.owners.length Ca), (Value.slice Ab r_.costs.length Cb)].toArray 25)] ∧ fr [] [(64, (Value.bool v_3))] ∧ Step (ks [(some b1, Obj.cells [(Value.int .i64 r_.slots), (Value.slice Aa r_.owners.length Ca), (Value.slice Ab r_.costs.length Cb)].toArray 25)] O) w52 (ks Ebs O) w' ∧ St ⟨w, [], []⟩ O w' Ebs ∧ k67 v_3 = some x) ?_ ?_
 rintro ρ74 w70 ⟨v_3, Ebs, hEbs, hfr73, hst72, hs71, hm⟩
 replace hm := jnE1 hk68 hm
 subst hEbs; rw [hfr73.eq]; clear hfr73
 replace Fa := Fa.step hst72; replace Fb := Fb.step hst72; replace f42 := f42.step hst72; replace f61 := f61.step hst72; replace Fc := Fc.step hst72; replace ch57 := ch57.trans hst72; clear hst72 hs53
 refine Wp_cond rfl (fun hc75 => ?_) (fun hc75 => ?_)
 replace hm := bif_t hm hc75
 refine Wp_seq ?_
 clear f42 f61 Fc
 refine Wp_region ?_
 refine Rg_op rfl (op_assign (v := (Value.int .i64 370)) rfl ?_)
 refine Rg_nil ?_
 refine Wp_ret ?_
 have hz := step_all hs71
 replace Fa := Fa.step hz; replace Fb := Fb.step hz
 refine ⟨_, (show Closes [] _ _ from rfl), [(Value.int .i64 370)], ⟨rfl, trivial⟩, hs71.ext, ?_⟩
 exact Vr.eq (a := (vI .i64)) (x := 370) ⟨rfl, (show InK .i64 370 from by decide)⟩ (Option.some.inj hm)
 replace hm := bif_f hm hc75
 refine Wp_skip ?_
 clear f61 Fc
 refine Wp_region ?_
 refine Rg_op rfl (op_addw rfl rfl ?_)
 refine Rg_op rfl (op_move (v := (Value.int .i64 (IntKind.wrap .i64 (v_2 + 1)))) rfl ?_)
 refine Rg_nil ?_
 exact hK50 _ _ ⟨(IntKind.wrap .i64 (v_2 + 1)), _, rfl, ⟨(by repeat (first | with_reducible exact Out.refl _ _ | refine Out.upd ?_ rfl | refine Out.updL ?_ rfl | refine Out.mix' ?_ rfl | exact Out.refl _ _)), rfl, rfl, trivial⟩, ch57, hs71, (inK_wrap .i64 _), jnE1 hsf49 hm⟩
 intro K69 hK69
 have ch76 := Step.refl (ks [(some b1, Obj.cells [(Value.int .i64 r_.slots), (Value.slice Aa r_.owners.length Ca), (Value.slice Ab r_.costs.length Cb)].toArray 25)] O) w52
 clear f61
 refine Wp_drawR (g0 := []) (m := 24) (fl := []) (TS_inv hs53) rfl (.inl rfl) rfl (by decide +kernel) ?_  -- 7
 refine Dw_op (VD O [(some b1, Obj.cells [(Value.int .i64 r_.slots), (Value.slice Aa r_.owners.length Ca), (Value.slice Ab r_.costs.length Cb)].toArray 25)] (vFv2 Try.prog (vI .i64) (vI .i64) vB) (fun x24 x25 => m50_coalition_Check_1 x24 x25)) (VD.stab _ _) (fun ρ77 w78 g hle hi ht => ?_) ?_
 obtain ⟨-, hst, -⟩ := hle
 replace f42 := f42.step hst
 refine StepOp_plain (op_loadP ty64 (ht 3 rfl) f42 rfl ?_)
 intro v80 h81
 have F82 := (un_fv2 h81).2; clear h81
 exact Goes.same hi (show Vr.vd (vFv2 Try.prog (vI .i64) (vI .i64) vB) _ _ _ _ from F82)
 refine Dw_eq (Value.pointer (some ⟨b1, 1, none⟩)) (fun ρ83 w84 g hle hi ht => ?_) ?_
 obtain ⟨-, hst, -⟩ := hle
 refine StepOp_plain (op_fieldAddr ty25 rfl ty22 (by decide) (ht 1 rfl) (rfl : _ = (⟨_, 1, none⟩ : Addr)) ?_)
 exact Goes.same hi rfl
 refine Dw_eq (Value.slice Aa r_.owners.length Ca) (fun ρ86 w87 g hle hi ht => ?_) ?_
 obtain ⟨-, hst, -⟩ := hle
 have hsn := (Step.nx hi).1
 refine StepOp_plain (op_load (cs := [(Value.int .i64 r_.slots), (Value.slice Aa r_.owners.length Ca), (Value.slice Ab r_.costs.length Cb)]) (i := 0) ty22 hsn (ht 40 rfl) rfl rfl ?_)
 exact Goes.same hi rfl
 refine Dw_eq (Value.int .i64 v_2) (fun ρ89 w90 g hle hi ht => ?_) ?_
 obtain ⟨-, hst, -⟩ := hle
 refine StepOp_plain (op_move (v := (Value.int .i64 v_2)) (ht 4 rfl) ?_)
 exact Goes.same hi rfl
 replace hm := ck_some hm; obtain ⟨hc95, hm⟩ := hm
 refine Dw_op (VP O [(some b1, Obj.cells [(Value.int .i64 r_.slots), (Value.slice Aa r_.owners.length Ca), (Value.slice Ab r_.costs.length Cb)].toArray 25)] (rInt .i64) (r_.owners.getD v_2.toNat default)) (VP.stab _ _) (fun ρ92 w93 g hle hi ht => ?_) ?_
 obtain ⟨-, hst, -⟩ := hle
 replace Fa := Fa.step hst
 refine StepOp_plain (op_indexAddr (q := (rInt .i64)) ty22 ty3 (ht 41 rfl) (ht 42 rfl) Fa rfl hc95.1 hc95.2 ?_)
 intro p96 f97
 exact Goes.same hi ⟨_, rfl, f97⟩
 refine Dw_op (VD O [(some b1, Obj.cells [(Value.int .i64 r_.slots), (Value.slice Aa r_.owners.length Ca), (Value.slice Ab r_.costs.length Cb)].toArray 25)] (vI .i64) (r_.owners.getD v_2.toNat default)) (VD.stab _ _) (fun ρ98 w99 g hle hi ht => ?_) ?_
 obtain ⟨-, hst, -⟩ := hle
 obtain ⟨p101, q102, f103⟩ := ht 43 rfl
 refine StepOp_plain (op_loadP ty3 q102 f103 rfl ?_)
 intro v104 h105
 obtain ⟨rfl, Re⟩ := un_int h105
 exact Goes.same hi (show Vr.vd (vI .i64) _ _ _ _ from ⟨rfl, Re⟩)
 replace hm := bd hm; obtain ⟨r_1, hv117, hm⟩ := hm
 refine Dw_op (VD O [(some b1, Obj.cells [(Value.int .i64 r_.slots), (Value.slice Aa r_.owners.length Ca), (Value.slice Ab r_.costs.length Cb)].toArray 25)] vB r_1) (VD.stab _ _) (fun ρ107 w108 g hle hi ht => ?_) ?_
 obtain ⟨-, hst, -⟩ := hle
 have h110 : Vr.vd (vI .i64) _ _ _ _ := ht 44 rfl
 obtain ⟨q111, Rf⟩ := h110
 have h113 : Vr.vd (vFv2 Try.prog (vI .i64) (vI .i64) vB) _ _ _ _ := ht 39 rfl
 obtain ⟨v116, q114, F_y115⟩ : ∃ v, _ = v ∧ Vr.vd (vFv2 Try.prog (vI .i64) (vI .i64) vB) _ _ v (fun x24 x25 => m50_coalition_Check_1 x24 x25) := ⟨_, rfl, h113⟩
 replace F_y115 : CallsTo2 Try.prog _ _ v116 (vI .i64) (vI .i64) vB (fun x24 x25 => m50_coalition_Check_1 x24 x25) := F_y115
 refine StepOp_plain (op_callF q114 (F_y115.call hi.ltw ⟨rfl, Rf⟩ ⟨rfl, (show InK .i64 7 from by decide)⟩ hv117) (by simp only [List.map, Array.toList, (show ev _ (.tmp 44) = _ from q111), (show ev _ (.const (.int .i64 7)) = .int .i64 7 from rfl)] <;> rfl) ?_)
 rintro v118 w119 ⟨hx120, h121⟩
 exact Goes.call hi hx120 h121
 refine Dw_opB r_1 (fun ρ123 w124 g hle hi ht => ?_) (fun hg129 => ?_) (fun hg129 => ?_)
 obtain ⟨-, hst, -⟩ := hle
 have h126 : Vr.vd vB _ _ _ _ := ht 45 rfl
 have q127 : _ = (Value.bool r_1) := h126
 refine StepOp_plain (op_move (v := (Value.bool r_1)) q127 ?_)
 exact Goes.same hi rfl
 replace hm := bif_t hm hg129
 refine Dw_skip (fun _ _ _ ht => wanted_x rfl (ht 46 rfl) rfl) ?_
 refine Dw_skip (fun _ _ _ ht => wanted_x rfl (ht 46 rfl) rfl) ?_
 refine Dw_skip (fun _ _ _ ht => wanted_x rfl (ht 46 rfl) rfl) ?_
 refine Dw_skip (fun _ _ _ ht => wanted_x rfl (ht 46 rfl) rfl) ?_
 refine Dw_skip (fun _ _ _ ht => wanted_x rfl (ht 46 rfl) rfl) ?_
 refine Dw_eq (Value.bool true) (fun ρ130 w131 g hle hi ht => ?_) ?_
 obtain ⟨-, hst, -⟩ := hle
 refine StepOp_plain (op_pick_t (v := (Value.bool true)) (ht 46 rfl) rfl ?_)
 exact Goes.same hi rfl
 refine Dw_eq (Value.bool true) (fun ρ133 w134 g hle hi ht => ?_) ?_
 obtain ⟨-, hst, -⟩ := hle
 refine StepOp_plain (op_move (v := (Value.bool true)) (ht 52 rfl) ?_)
 exact Goes.same hi rfl
 refine Dw_skip (fun _ _ _ ht => wanted_x rfl (ht 53 rfl) rfl) ?_
 refine Dw_skip (fun _ _ _ ht => wanted_x rfl (ht 53 rfl) rfl) ?_
 refine Dw_skip (fun _ _ _ ht => wanted_x rfl (ht 53 rfl) rfl) ?_
 refine Dw_skip (fun _ _ _ ht => wanted_x rfl (ht 53 rfl) rfl) ?_
 refine Dw_skip (fun _ _ _ ht => wanted_x rfl (ht 53 rfl) rfl) ?_
 refine Dw_eq (Value.bool true) (fun ρ136 w137 g hle hi ht => ?_) ?_
 obtain ⟨-, hst, -⟩ := hle
 refine StepOp_plain (op_pick_t (v := (Value.bool true)) (ht 53 rfl) rfl ?_)
 exact Goes.same hi rfl
 refine Dw_eq (Value.bool true) (fun ρ139 w140 g hle hi ht => ?_) ?_
 obtain ⟨-, hst, -⟩ := hle
 refine StepOp_plain (op_move (v := (Value.bool true)) (ht 59 rfl) ?_)
 exact Goes.same hi rfl
 refine Dw_skip (fun _ _ _ ht => wanted_x rfl (ht 60 rfl) rfl) ?_
 refine Dw_skip (fun _ _ _ ht => wanted_x rfl (ht 60 rfl) rfl) ?_
 refine Dw_nil fun w146 g147 hl148 hi149 => ?_
 obtain ⟨-, hst150, -⟩ := hl148
 obtain ⟨hs152, p151⟩ := Step.nx hi149
 rintro _ rfl
 rintro _ rfl
 rintro _ rfl
 rintro _ rfl
 rintro _ rfl
 rintro _ rfl
 rintro _ rfl
 rintro _ rfl
 rintro _ rfl
 rintro _ rfl
 rintro _ rfl
 rintro _ rfl
 rintro _ rfl
 rintro _ rfl
 rintro _ rfl
 rintro _ rfl
 rintro _ rfl
 rintro v153 h154
 replace h154 : Vr.vd vB _ _ _ _ := h154
 obtain rfl := h154
 rintro v156 h157
 replace h157 : Vr.vd (vI .i64) _ _ _ _ := h157
 obtain ⟨rfl, Rg⟩ := h157
 rintro _ ⟨p159, rfl, f160⟩
 rintro _ rfl
 rintro _ rfl
 rintro _ rfl
 rintro v161 h162
 replace h162 : Vr.vd (vFv2 Try.prog (vI .i64) (vI .i64) vB) _ _ _ _ := h162
 have F_y163 := h162
 replace F_y163 : CallsTo2 Try.prog _ _ v161 (vI .i64) (vI .i64) vB (fun x24 x25 => m50_coalition_Check_1 x24 x25) := F_y163
 have p165 : Step (ks [(some b1, Obj.cells [(Value.int .i64 r_.slots), (Value.slice Aa r_.owners.length Ca), (Value.slice Ab r_.costs.length Cb)].toArray 25)] O) w52 (ks [(some b1, Obj.cells [(Value.int .i64 r_.slots), (Value.slice Aa r_.owners.length Ca), (Value.slice Ab r_.costs.length Cb)].toArray 25)] O) w146 := hst150.trans p151
 replace f160 := f160.step p151; replace F_y163 := F_y163.step p151; replace Fa := Fa.step p165; replace Fb := Fb.step p165; replace f42 := f42.step p165; replace Fc := Fc.step p165; replace ch57 := ch57.trans p165; replace ch76 := ch76.trans p165; clear p165 hs53
 refine Rg_opx rfl (asB_ne rfl rfl) rfl ?_
 refine Rg_op rfl (op_pick_t (v := (Value.bool true)) rfl rfl ?_)
 refine Rg_nil ?_
 exact hK69 _ _ ⟨true, _, rfl, ⟨(by repeat (first | with_reducible exact Out.refl _ _ | refine Out.upd ?_ rfl | refine Out.updL ?_ rfl | refine Out.mix' ?_ rfl | exact Out.refl _ _)), rfl, rfl, trivial⟩, ch76, hs152, hm⟩
 replace hm := bif_f hm hg129
 refine Dw_eq (Value.slice Ac (r_.costs.getD v_2.toNat default).length Cc) (fun ρ166 w167 g hle hi ht => ?_) ?_
 obtain ⟨-, hst, -⟩ := hle
 refine StepOp_g rfl (ht 46 rfl) (op_move (v := (Value.slice Ac (r_.costs.getD v_2.toNat default).length Cc)) (ht 5 rfl) ?_)
 exact Goes.same hi rfl
 refine Dw_eq (Value.int .i64 ((r_.costs.getD v_2.toNat default).length : Int)) (fun ρ169 w170 g hle hi ht => ?_) ?_
 obtain ⟨-, hst, -⟩ := hle
 refine StepOp_g rfl (ht 46 rfl) (op_len Try.underlying22 (ht 47 rfl) ?_)
 exact Goes.same hi rfl
 refine Dw_eq (Value.pointer (some ⟨b1, 0, none⟩)) (fun ρ172 w173 g hle hi ht => ?_) ?_
 obtain ⟨-, hst, -⟩ := hle
 refine StepOp_g rfl (ht 46 rfl) (op_fieldAddr ty25 rfl ty3 (by decide) (ht 1 rfl) (rfl : _ = (⟨_, 0, none⟩ : Addr)) ?_)
 exact Goes.same hi rfl
 refine Dw_eq (Value.int .i64 r_.slots) (fun ρ175 w176 g hle hi ht => ?_) ?_
 obtain ⟨-, hst, -⟩ := hle
 have hsn := (Step.nx hi).1
 refine StepOp_g rfl (ht 46 rfl) (op_load (cs := [(Value.int .i64 r_.slots), (Value.slice Aa r_.owners.length Ca), (Value.slice Ab r_.costs.length Cb)]) (i := 0) ty3 hsn (ht 49 rfl) rfl rfl ?_)
 exact Goes.same hi rfl
 refine Dw_eq (Value.bool (decide (((r_.costs.getD v_2.toNat default).length : Int) ≠ r_.slots))) (fun ρ178 w179 g hle hi ht => ?_) ?_
 obtain ⟨-, hst, -⟩ := hle
 refine StepOp_g rfl (ht 46 rfl) (op_neq (ht 48 rfl) (ht 50 rfl) ?_)
 exact Goes.same hi rfl
 refine Dw_eq (Value.bool (decide (((r_.costs.getD v_2.toNat default).length : Int) ≠ r_.slots))) (fun ρ181 w182 g hle hi ht => ?_) ?_
 obtain ⟨-, hst, -⟩ := hle
 refine StepOp_plain (op_pick_f (v := (Value.bool (decide (((r_.costs.getD v_2.toNat default).length : Int) ≠ r_.slots)))) (ht 46 rfl) (ht 51 rfl) ?_)
 exact Goes.same hi rfl
 refine Dw_opB (decide (((r_.costs.getD v_2.toNat default).length : Int) ≠ r_.slots)) (fun ρ184 w185 g hle hi ht => ?_) (fun hg187 => ?_) (fun hg187 => ?_)
 obtain ⟨-, hst, -⟩ := hle
 refine StepOp_plain (op_move (v := (Value.bool (decide (((r_.costs.getD v_2.toNat default).length : Int) ≠ r_.slots)))) (ht 52 rfl) ?_)
 exact Goes.same hi rfl
 replace hm := bif_t hm hg187
 refine Dw_skip (fun _ _ _ ht => wanted_x rfl (ht 53 rfl) rfl) ?_
 refine Dw_skip (fun _ _ _ ht => wanted_x rfl (ht 53 rfl) rfl) ?_
 refine Dw_skip (fun _ _ _ ht => wanted_x rfl (ht 53 rfl) rfl) ?_
 refine Dw_skip (fun _ _ _ ht => wanted_x rfl (ht 53 rfl) rfl) ?_
 refine Dw_skip (fun _ _ _ ht => wanted_x rfl (ht 53 rfl) rfl) ?_
 refine Dw_eq (Value.bool true) (fun ρ188 w189 g hle hi ht => ?_) ?_
 obtain ⟨-, hst, -⟩ := hle
 refine StepOp_plain (op_pick_t (v := (Value.bool true)) (ht 53 rfl) rfl ?_)
 exact Goes.same hi rfl
 refine Dw_eq (Value.bool true) (fun ρ191 w192 g hle hi ht => ?_) ?_
 obtain ⟨-, hst, -⟩ := hle
 refine StepOp_plain (op_move (v := (Value.bool true)) (ht 59 rfl) ?_)
 exact Goes.same hi rfl
 refine Dw_skip (fun _ _ _ ht => wanted_x rfl (ht 60 rfl) rfl) ?_
 refine Dw_skip (fun _ _ _ ht => wanted_x rfl (ht 60 rfl) rfl) ?_
 refine Dw_nil fun w198 g199 hl200 hi201 => ?_
 obtain ⟨-, hst202, -⟩ := hl200
 obtain ⟨hs204, p203⟩ := Step.nx hi201
 rintro _ rfl
 rintro _ rfl
 rintro _ rfl
 rintro _ rfl
 rintro _ rfl
 rintro _ rfl
 rintro _ rfl
 rintro _ rfl
 rintro _ rfl
 rintro _ rfl
 rintro _ rfl
 rintro _ rfl
 rintro _ rfl
 rintro _ rfl
 rintro _ rfl
 rintro _ rfl
 rintro _ rfl
 rintro v205 h206
 replace h206 : Vr.vd vB _ _ _ _ := h206
 obtain rfl := h206
 rintro v208 h209
 replace h209 : Vr.vd (vI .i64) _ _ _ _ := h209
 obtain ⟨rfl, Rh⟩ := h209
 rintro _ ⟨p211, rfl, f212⟩
 rintro _ rfl
 rintro _ rfl
 rintro _ rfl
 rintro v213 h214
 replace h214 : Vr.vd (vFv2 Try.prog (vI .i64) (vI .i64) vB) _ _ _ _ := h214
 have F_y215 := h214
 replace F_y215 : CallsTo2 Try.prog _ _ v213 (vI .i64) (vI .i64) vB (fun x24 x25 => m50_coalition_Check_1 x24 x25) := F_y215
 have p217 : Step (ks [(some b1, Obj.cells [(Value.int .i64 r_.slots), (Value.slice Aa r_.owners.length Ca), (Value.slice Ab r_.costs.length Cb)].toArray 25)] O) w52 (ks [(some b1, Obj.cells [(Value.int .i64 r_.slots), (Value.slice Aa r_.owners.length Ca), (Value.slice Ab r_.costs.length Cb)].toArray 25)] O) w198 := hst202.trans p203
 replace f212 := f212.step p203; replace F_y215 := F_y215.step p203; replace Fa := Fa.step p217; replace Fb := Fb.step p217; replace f42 := f42.step p217; replace Fc := Fc.step p217; replace ch57 := ch57.trans p217; replace ch76 := ch76.trans p217; clear p217 hs53
 refine Rg_opx rfl (asB_ne rfl rfl) rfl ?_
 refine Rg_op rfl (op_pick_t (v := (Value.bool true)) rfl rfl ?_)
 refine Rg_nil ?_
 exact hK69 _ _ ⟨true, _, rfl, ⟨(by repeat (first | with_reducible exact Out.refl _ _ | refine Out.upd ?_ rfl | refine Out.updL ?_ rfl | refine Out.mix' ?_ rfl | exact Out.refl _ _)), rfl, rfl, trivial⟩, ch76, hs204, hm⟩
 replace hm := bif_f hm hg187
 refine Dw_eq (Value.slice Ac (r_.costs.getD v_2.toNat default).length Cc) (fun ρ218 w219 g hle hi ht => ?_) ?_
 obtain ⟨-, hst, -⟩ := hle
 refine StepOp_g rfl (ht 53 rfl) (op_move (v := (Value.slice Ac (r_.costs.getD v_2.toNat default).length Cc)) (ht 5 rfl) ?_)
 exact Goes.same hi rfl
 refine Dw_eq (Value.int .i64 v_2) (fun ρ221 w222 g hle hi ht => ?_) ?_
 obtain ⟨-, hst, -⟩ := hle
 refine StepOp_g rfl (ht 53 rfl) (op_move (v := (Value.int .i64 v_2)) (ht 4 rfl) ?_)
 exact Goes.same hi rfl
 replace hm := ck_some hm; obtain ⟨hc227, hm⟩ := hm
 refine Dw_op (VP O [(some b1, Obj.cells [(Value.int .i64 r_.slots), (Value.slice Aa r_.owners.length Ca), (Value.slice Ab r_.costs.length Cb)].toArray 25)] (rInt .i64) ((r_.costs.getD v_2.toNat default).getD v_2.toNat default)) (VP.stab _ _) (fun ρ224 w225 g hle hi ht => ?_) ?_
 obtain ⟨-, hst, -⟩ := hle
 replace Fc := Fc.step hst
 refine StepOp_g rfl (ht 53 rfl) (op_indexAddr (q := (rInt .i64)) ty22 ty3 (ht 54 rfl) (ht 55 rfl) Fc rfl hc227.1 hc227.2 ?_)
 intro p228 f229
 exact Goes.same hi ⟨_, rfl, f229⟩
 refine Dw_op (VD O [(some b1, Obj.cells [(Value.int .i64 r_.slots), (Value.slice Aa r_.owners.length Ca), (Value.slice Ab r_.costs.length Cb)].toArray 25)] (vI .i64) ((r_.costs.getD v_2.toNat default).getD v_2.toNat default)) (VD.stab _ _) (fun ρ230 w231 g hle hi ht => ?_) ?_
 obtain ⟨-, hst, -⟩ := hle
 obtain ⟨p233, q234, f235⟩ := ht 56 rfl
 refine StepOp_g rfl (ht 53 rfl) (op_loadP ty3 q234 f235 rfl ?_)
 intro v236 h237
 obtain ⟨rfl, Ri⟩ := un_int h237
 exact Goes.same hi (show Vr.vd (vI .i64) _ _ _ _ from ⟨rfl, Ri⟩)
 refine Dw_eq (Value.bool (decide (((r_.costs.getD v_2.toNat default).getD v_2.toNat default) < 0))) (fun ρ239 w240 g hle hi ht => ?_) ?_
 obtain ⟨-, hst, -⟩ := hle
 have h242 : Vr.vd (vI .i64) _ _ _ _ := ht 57 rfl
 obtain ⟨q243, Rj⟩ := h242
 refine StepOp_g rfl (ht 53 rfl) (op_lss q243 rfl ?_)
 exact Goes.same hi rfl
 refine Dw_eq (Value.bool (decide (((r_.costs.getD v_2.toNat default).getD v_2.toNat default) < 0))) (fun ρ245 w246 g hle hi ht => ?_) ?_
 obtain ⟨-, hst, -⟩ := hle
 refine StepOp_plain (op_pick_f (v := (Value.bool (decide (((r_.costs.getD v_2.toNat default).getD v_2.toNat default) < 0)))) (ht 53 rfl) (ht 58 rfl) ?_)
 exact Goes.same hi rfl
 refine Dw_opB (decide (((r_.costs.getD v_2.toNat default).getD v_2.toNat default) < 0)) (fun ρ248 w249 g hle hi ht => ?_) (fun hg251 => ?_) (fun hg251 => ?_)
 obtain ⟨-, hst, -⟩ := hle
 refine StepOp_plain (op_move (v := (Value.bool (decide (((r_.costs.getD v_2.toNat default).getD v_2.toNat default) < 0)))) (ht 59 rfl) ?_)
 exact Goes.same hi rfl
 replace hm := bif_t hm hg251
 refine Dw_skip (fun _ _ _ ht => wanted_x rfl (ht 60 rfl) rfl) ?_
 refine Dw_skip (fun _ _ _ ht => wanted_x rfl (ht 60 rfl) rfl) ?_
 refine Dw_nil fun w256 g257 hl258 hi259 => ?_
 obtain ⟨-, hst260, -⟩ := hl258
 obtain ⟨hs262, p261⟩ := Step.nx hi259
 rintro _ rfl
 rintro _ rfl
 rintro _ rfl
 rintro _ rfl
 rintro _ rfl
 rintro v263 h264
 replace h264 : Vr.vd (vI .i64) _ _ _ _ := h264
 obtain ⟨rfl, Rk⟩ := h264
 rintro _ ⟨p266, rfl, f267⟩
 rintro _ rfl
 rintro _ rfl
 rintro _ rfl
 rintro _ rfl
 rintro _ rfl
 rintro _ rfl
 rintro _ rfl
 rintro _ rfl
 rintro _ rfl
 rintro _ rfl
 rintro v268 h269
 replace h269 : Vr.vd vB _ _ _ _ := h269
 obtain rfl := h269
 rintro v271 h272
 replace h272 : Vr.vd (vI .i64) _ _ _ _ := h272
 obtain ⟨rfl, Rl⟩ := h272
 rintro _ ⟨p274, rfl, f275⟩
 rintro _ rfl
 rintro _ rfl
 rintro _ rfl
 rintro v276 h277
 replace h277 : Vr.vd (vFv2 Try.prog (vI .i64) (vI .i64) vB) _ _ _ _ := h277
 have F_y278 := h277
 replace F_y278 : CallsTo2 Try.prog _ _ v276 (vI .i64) (vI .i64) vB (fun x24 x25 => m50_coalition_Check_1 x24 x25) := F_y278
 have p280 : Step (ks [(some b1, Obj.cells [(Value.int .i64 r_.slots), (Value.slice Aa r_.owners.length Ca), (Value.slice Ab r_.costs.length Cb)].toArray 25)] O) w52 (ks [(some b1, Obj.cells [(Value.int .i64 r_.slots), (Value.slice Aa r_.owners.length Ca), (Value.slice Ab r_.costs.length Cb)].toArray 25)] O) w256 := hst260.trans p261
 replace f267 := f267.step p261; replace f275 := f275.step p261; replace F_y278 := F_y278.step p261; replace Fa := Fa.step p280; replace Fb := Fb.step p280; replace f42 := f42.step p280; replace Fc := Fc.step p280; replace ch57 := ch57.trans p280; replace ch76 := ch76.trans p280; clear p280 hs53
 refine Rg_opx rfl (asB_ne rfl rfl) rfl ?_
 refine Rg_op rfl (op_pick_t (v := (Value.bool true)) rfl rfl ?_)
 refine Rg_nil ?_
 exact hK69 _ _ ⟨true, _, rfl, ⟨(by repeat (first | with_reducible exact Out.refl _ _ | refine Out.upd ?_ rfl | refine Out.updL ?_ rfl | refine Out.mix' ?_ rfl | exact Out.refl _ _)), rfl, rfl, trivial⟩, ch76, hs262, hm⟩
 replace hm := bif_f hm hg251
 refine Dw_eq (Value.slice Ac (r_.costs.getD v_2.toNat default).length Cc) (fun ρ281 w282 g hle hi ht => ?_) ?_
 obtain ⟨-, hst, -⟩ := hle
 refine StepOp_g rfl (ht 60 rfl) (op_move (v := (Value.slice Ac (r_.costs.getD v_2.toNat default).length Cc)) (ht 5 rfl) ?_)
 exact Goes.same hi rfl
 have F288 : CallsTo1 Try.prog w52 (ks [(some b1, Obj.cells [(Value.int .i64 r_.slots), (Value.slice Aa r_.owners.length Ca), (Value.slice Ab r_.costs.length Cb)].toArray 25)] O) (Value.func (.func 52) #[] #[(Value.pointer (some (⟨b19, 0, none⟩ : Addr)))]) (vI .i64) vB (fun x287 => m52_coalition_Check_2 x287 (fun x24 x25 => m50_coalition_Check_1 x24 x25)) := by
  intro w289 O290 st291 hO292 v295 x287 y293 h296 hy294
  obtain ⟨rfl, Rm⟩ := h296
  exact ⟨52, #[], #[(Value.pointer (some (⟨b19, 0, none⟩ : Addr)))], rfl, Try.call52, c52_coalition_Check_2 (c := x287) hO292 Rm (f42.step st291) hy294⟩
 refine Dw_eq (Value.func (.func 52) #[] #[(Value.pointer (some (⟨b19, 0, none⟩ : Addr)))]) (fun ρ284 w285 g hle hi ht => ?_) ?_
 obtain ⟨-, hst, -⟩ := hle
 refine StepOp_g rfl (ht 60 rfl) (op_makeFunc' (a' := []) (c' := [(Value.pointer (some (⟨b19, 0, none⟩ : Addr)))]) rfl (by simp only [List.map, Array.toList, (show ev _ (.tmp 3) = _ from (ht 3 rfl))] <;> rfl) ?_)
 exact Goes.same hi rfl
 refine Dw_nil fun w302 g303 hl304 hi305 => ?_
 obtain ⟨-, hst306, -⟩ := hl304
 obtain ⟨hs308, p307⟩ := Step.nx hi305
 rintro _ rfl
 rintro _ rfl
 rintro _ rfl
 rintro _ rfl
 rintro _ rfl
 rintro v309 h310
 replace h310 : Vr.vd (vI .i64) _ _ _ _ := h310
 obtain ⟨rfl, Rn⟩ := h310
 rintro _ ⟨p312, rfl, f313⟩
 rintro _ rfl
 rintro _ rfl
 rintro _ rfl
 rintro _ rfl
 rintro _ rfl
 rintro _ rfl
 rintro _ rfl
 rintro _ rfl
 rintro _ rfl
 rintro _ rfl
 rintro v314 h315
 replace h315 : Vr.vd vB _ _ _ _ := h315
 obtain rfl := h315
 rintro v317 h318
 replace h318 : Vr.vd (vI .i64) _ _ _ _ := h318
 obtain ⟨rfl, Ro⟩ := h318
 rintro _ ⟨p320, rfl, f321⟩
 rintro _ rfl
 rintro _ rfl
 rintro _ rfl
 rintro v322 h323
 replace h323 : Vr.vd (vFv2 Try.prog (vI .i64) (vI .i64) vB) _ _ _ _ := h323
 have F_y324 := h323
 replace F_y324 : CallsTo2 Try.prog _ _ v322 (vI .i64) (vI .i64) vB (fun x24 x25 => m50_coalition_Check_1 x24 x25) := F_y324
 have p326 : Step (ks [(some b1, Obj.cells [(Value.int .i64 r_.slots), (Value.slice Aa r_.owners.length Ca), (Value.slice Ab r_.costs.length Cb)].toArray 25)] O) w52 (ks [(some b1, Obj.cells [(Value.int .i64 r_.slots), (Value.slice Aa r_.owners.length Ca), (Value.slice Ab r_.costs.length Cb)].toArray 25)] O) w302 := hst306.trans p307
 replace f313 := f313.step p307; replace f321 := f321.step p307; replace F_y324 := F_y324.step p307; replace Fa := Fa.step p326; replace Fb := Fb.step p326; replace f42 := f42.step p326; replace Fc := Fc.step p326; replace F288 := F288.step p326; replace ch57 := ch57.trans p326; replace ch76 := ch76.trans p326; clear p326 hs53
 replace hm := bd hm; obtain ⟨containsfunc_1, hv327, hm⟩ := hm
 refine Rg_opg rfl rfl rfl (op_call Try.call51 (c51_slices_ContainsFuncint_int_ (s := (r_.costs.getD v_2.toNat default)) (f := (fun x287 => m52_coalition_Check_2 x287 (fun x24 x25 => m50_coalition_Check_1 x24 x25))) hs308.ltw Fc F288 hv327) rfl ?_)
 rintro v328 w329 ⟨hx330, h331⟩
 have hs332 := hs308.call hx330
 have p333 := Step.ext (O := ks [(some b1, Obj.cells [(Value.int .i64 r_.slots), (Value.slice Aa r_.owners.length Ca), (Value.slice Ab r_.costs.length Cb)].toArray 25)] O) hx330
 clear hx330
 replace Fa := Fa.step p333; replace Fb := Fb.step p333; replace f42 := f42.step p333; replace Fc := Fc.step p333; replace F288 := F288.step p333; replace f313 := f313.step p333; replace f321 := f321.step p333; replace F_y324 := F_y324.step p333; replace ch57 := ch57.trans p333; replace ch76 := ch76.trans p333; clear p333 hs308
 obtain rfl := h331
 refine Rg_op rfl (op_pick_f (v := (Value.bool containsfunc_1)) rfl rfl ?_)
 refine Rg_nil ?_
 exact hK69 _ _ ⟨containsfunc_1, _, rfl, ⟨(by repeat (first | with_reducible exact Out.refl _ _ | refine Out.upd ?_ rfl | refine Out.updL ?_ rfl | refine Out.mix' ?_ rfl | exact Out.refl _ _)), rfl, rfl, trivial⟩, ch76, hs332, hm⟩
 replace hm := bif_f hm hc58
 refine Wp_exit (Wp_seq ?_)
 obtain ⟨hs335, p336⟩ := hs53.sub (bs' := []) (.cons _ List.Sublist.slnil)
 clear Fa Fb f42
 replace ch57 := ch57.trans p336; clear p336 hs53
 refine Wp_region ?_
 refine Rg_op rfl (op_assign (v := (Value.int .i64 0)) rfl ?_)
 refine Rg_nil ?_
 refine Wp_ret ?_
 have hz := step_all hs335
 refine ⟨_, (show Closes [] _ _ from rfl), [(Value.int .i64 0)], ⟨rfl, trivial⟩, hs335.ext, ?_⟩
 exact Vr.eq (a := (vI .i64)) (x := 0) ⟨rfl, (show InK .i64 0 from by decide)⟩ (Option.some.inj hm)
 intro K10 hK10
 have ch337 := Step.refl (ks [(some b1, Obj.cells [(Value.int .i64 r_.slots), (Value.slice Aa r_.owners.length Ca), (Value.slice Ab r_.costs.length Cb)].toArray 25)] O) w2
 refine Wp_region ?_
 refine Rg_op rfl (op_fieldAddr ty25 rfl ty3 (by decide) rfl (rfl : _ = (⟨_, 0, none⟩ : Addr)) ?_)
 refine Rg_op rfl (op_load (cs := [(Value.int .i64 r_.slots), (Value.slice Aa r_.owners.length Ca), (Value.slice Ab r_.costs.length Cb)]) (i := 0) ty3 hs4 rfl rfl rfl ?_)
 refine Rg_op rfl (op_lss rfl rfl ?_)
 refine Rg_op rfl (op_move (v := (Value.bool (decide (r_.slots < 1)))) rfl ?_)
 refine Rg_case (fun hg338 => ?_) (fun hg338 => ?_)
 replace hm := bif_t hm hg338
 iterate 3 refine Rg_opx rfl (asB_ne rfl rfl) rfl ?_
 refine Rg_op rfl (op_pick_t (v := (Value.bool true)) rfl rfl ?_)
 refine Rg_op rfl (op_move (v := (Value.bool true)) rfl ?_)
 iterate 6 refine Rg_opx rfl (asB_ne rfl rfl) rfl ?_
 refine Rg_op rfl (op_pick_t (v := (Value.bool true)) rfl rfl ?_)
 refine Rg_op rfl (op_move (v := (Value.bool true)) rfl ?_)
 iterate 7 refine Rg_opx rfl (asB_ne rfl rfl) rfl ?_
 refine Rg_op rfl (op_pick_t (v := (Value.bool true)) rfl rfl ?_)
 refine Rg_nil ?_
 exact hK10 _ _ ⟨true, _, rfl, ⟨(by repeat (first | with_reducible exact Out.refl _ _ | refine Out.upd ?_ rfl | refine Out.updL ?_ rfl | refine Out.mix' ?_ rfl | exact Out.refl _ _)), rfl, rfl, trivial⟩, ch337, hs4, hm⟩
 replace hm := bif_f hm hg338
 refine Rg_opg rfl rfl rfl (op_fieldAddr ty25 rfl ty3 (by decide) rfl (rfl : _ = (⟨_, 0, none⟩ : Addr)) ?_)
 refine Rg_opg rfl rfl rfl (op_load (cs := [(Value.int .i64 r_.slots), (Value.slice Aa r_.owners.length Ca), (Value.slice Ab r_.costs.length Cb)]) (i := 0) ty3 hs4 rfl rfl rfl ?_)
 refine Rg_opg rfl rfl rfl (op_gtr rfl rfl ?_)
 refine Rg_op rfl (op_pick_f (v := (Value.bool (decide (8 < r_.slots)))) rfl rfl ?_)
 refine Rg_op rfl (op_move (v := (Value.bool (decide (8 < r_.slots)))) rfl ?_)
 refine Rg_case (fun hg339 => ?_) (fun hg339 => ?_)
 replace hm := bif_t hm hg339
 iterate 6 refine Rg_opx rfl (asB_ne rfl rfl) rfl ?_
 refine Rg_op rfl (op_pick_t (v := (Value.bool true)) rfl rfl ?_)
 refine Rg_op rfl (op_move (v := (Value.bool true)) rfl ?_)
 iterate 7 refine Rg_opx rfl (asB_ne rfl rfl) rfl ?_
 refine Rg_op rfl (op_pick_t (v := (Value.bool true)) rfl rfl ?_)
 refine Rg_nil ?_
 exact hK10 _ _ ⟨true, _, rfl, ⟨(by repeat (first | with_reducible exact Out.refl _ _ | refine Out.upd ?_ rfl | refine Out.updL ?_ rfl | refine Out.mix' ?_ rfl | exact Out.refl _ _)), rfl, rfl, trivial⟩, ch337, hs4, hm⟩
 replace hm := bif_f hm hg339
 refine Rg_opg rfl rfl rfl (op_fieldAddr ty25 rfl ty22 (by decide) rfl (rfl : _ = (⟨_, 1, none⟩ : Addr)) ?_)
 refine Rg_opg rfl rfl rfl (op_load (cs := [(Value.int .i64 r_.slots), (Value.slice Aa r_.owners.length Ca), (Value.slice Ab r_.costs.length Cb)]) (i := 0) ty22 hs4 rfl rfl rfl ?_)
 refine Rg_opg rfl rfl rfl (op_len Try.underlying22 rfl ?_)
 have rl340 := inK_len Fa
 refine Rg_opg rfl rfl rfl (op_fieldAddr ty25 rfl ty3 (by decide) rfl (rfl : _ = (⟨_, 0, none⟩ : Addr)) ?_)
 refine Rg_opg rfl rfl rfl (op_load (cs := [(Value.int .i64 r_.slots), (Value.slice Aa r_.owners.length Ca), (Value.slice Ab r_.costs.length Cb)]) (i := 0) ty3 hs4 rfl rfl rfl ?_)
 refine Rg_opg rfl rfl rfl (op_gtr rfl rfl ?_)
 refine Rg_op rfl (op_pick_f (v := (Value.bool (decide (r_.slots < (r_.owners.length : Int))))) rfl rfl ?_)
 refine Rg_op rfl (op_move (v := (Value.bool (decide (r_.slots < (r_.owners.length : Int))))) rfl ?_)
 refine Rg_case (fun hg341 => ?_) (fun hg341 => ?_)
 replace hm := bif_t hm hg341
 iterate 7 refine Rg_opx rfl (asB_ne rfl rfl) rfl ?_
 refine Rg_op rfl (op_pick_t (v := (Value.bool true)) rfl rfl ?_)
 refine Rg_nil ?_
 exact hK10 _ _ ⟨true, _, rfl, ⟨(by repeat (first | with_reducible exact Out.refl _ _ | refine Out.upd ?_ rfl | refine Out.updL ?_ rfl | refine Out.mix' ?_ rfl | exact Out.refl _ _)), rfl, rfl, trivial⟩, ch337, hs4, hm⟩
 replace hm := bif_f hm hg341
 refine Rg_opg rfl rfl rfl (op_fieldAddr ty25 rfl ty23 (by decide) rfl (rfl : _ = (⟨_, 2, none⟩ : Addr)) ?_)
 refine Rg_opg rfl rfl rfl (op_load (cs := [(Value.int .i64 r_.slots), (Value.slice Aa r_.owners.length Ca), (Value.slice Ab r_.costs.length Cb)]) (i := 0) ty23 hs4 rfl rfl rfl ?_)
 refine Rg_opg rfl rfl rfl (op_len Try.underlying23 rfl ?_)
 have rl342 := inK_len Fb
 refine Rg_opg rfl rfl rfl (op_fieldAddr ty25 rfl ty22 (by decide) rfl (rfl : _ = (⟨_, 1, none⟩ : Addr)) ?_)
 refine Rg_opg rfl rfl rfl (op_load (cs := [(Value.int .i64 r_.slots), (Value.slice Aa r_.owners.length Ca), (Value.slice Ab r_.costs.length Cb)]) (i := 0) ty22 hs4 rfl rfl rfl ?_)
 refine Rg_opg rfl rfl rfl (op_len Try.underlying22 rfl ?_)
 have rl343 := inK_len Fa
 refine Rg_opg rfl rfl rfl (op_neq rfl rfl ?_)
 refine Rg_op rfl (op_pick_f (v := (Value.bool (decide ((r_.costs.length : Int) ≠ (r_.owners.length : Int))))) rfl rfl ?_)
 refine Rg_nil ?_
 exact hK10 _ _ ⟨(decide ((r_.costs.length : Int) ≠ (r_.owners.length : Int))), _, rfl, ⟨(by repeat (first | with_reducible exact Out.refl _ _ | refine Out.upd ?_ rfl | refine Out.updL ?_ rfl | refine Out.mix' ?_ rfl | exact Out.refl _ _)), rfl, rfl, trivial⟩, ch337, hs4, hm⟩

def m68_slices_Indexint_int__B0 (s : List Int) (v : Int) (sf4 : Int → Option Int) (v_1 : Int) : Option Int :=
 bif (decide (v_1 < (s.length : Int))) then
  ck ((0 : Int) ≤ v_1 ∧ v_1 < (s.length : Int)) <|
  bif (decide (v = (s.getD v_1.toNat default))) then
   some v_1
  else
   sf4 (IntKind.wrap .i64 (v_1 + 1))
 else
  some (-1)

def m68_slices_Indexint_int_ (s : List Int) (v : Int) : Option Int :=
 loop1 (m68_slices_Indexint_int__B0 s v) (((s.length : Int) - 0).toNat + 1) 0

theorem c68_slices_Indexint_int_ {w : World} {O : List Nat} {s : List Int} {v : Int} {Aa : Option Addr} {Ca : Nat} (hO : ∀ k ∈ O, k < w.heap.size) (Fa : SlR (rInt .i64) w O Aa Ca s) (Ra : InK .i64 v) {x : Int} (hm : m68_slices_Indexint_int_ s v = some x) :
 Ok Try.prog 68 [(Value.slice Aa s.length Ca), (Value.int .i64 v)] w O (vI .i64) x := by
 unfold m68_slices_Indexint_int_ at hm
 refine Fn_of_Wp (n := 19) (xs := [.tmp 4]) Try.func68 rfl Try.ntmps68 Try.results68 rfl ?_
 have hs := St.start hO
 refine Wp_seq (Wp_region ?_)
 refine Rg_op rfl (op_assign (v := (Value.int .i64 0)) rfl ?_)
 refine Rg_nil (Wp_seq (Wp_seq (Wp_region ?_)))
 refine Rg_op rfl (op_move (v := (Value.slice Aa s.length Ca)) rfl ?_)
 refine Rg_op rfl (op_len Try.underlying22 rfl ?_)
 have rl1 := inK_len Fa
 refine Rg_op rfl (op_move (v := (Value.int .i64 0)) rfl ?_)
 refine Rg_nil (Wp_block ?_)
 refine Wp_reset [] [(0, (Value.slice Aa s.length Ca)), (1, (Value.int .i64 v)), (7, (Value.int .i64 (s.length : Int))), (8, (Value.int .i64 0))] rfl ⟨rfl, rfl, rfl, rfl, trivial⟩ fun ξ3 => ?_
 refine Wp_loopM [4, 5, 8, 9, 10, 11, 12, 13, 14, 15, 16, 17, 18] (fun m fr w' => ∃ (v_1 : Int) (Ebs : Ents), Ebs = [] ∧ fr [] [(8, (Value.int .i64 v_1))] ∧ Step (ks [] O) w (ks Ebs O) w' ∧ St ⟨w, [], []⟩ O w' Ebs ∧ InK .i64 v_1 ∧ loop1 (m68_slices_Indexint_int__B0 s v) m v_1 = some x) (((s.length : Int) - 0).toNat + 1) ⟨0, _, rfl, ⟨Out.refl _ _, rfl, rfl, trivial⟩, Step.refl _ _, hs, (show InK .i64 0 from by decide), hm⟩ ?_ ?_
 rintro _ _ ⟨_, _, _, _, _, _, _, hm⟩; exact loop1_z hm
 rintro m7 K6 hK6 ρ12 w8 ⟨v_1, Ebs, hEbs, hfr11, hst10, hs9, Rb, hm⟩
 obtain ⟨sf4, hsf5, hm⟩ := loop1_s hm; unfold m68_slices_Indexint_int__B0 at hm
 subst hEbs; rw [hfr11.eq]; clear hfr11
 replace Fa := Fa.step hst10
 have ch13 := hst10
 refine Wp_seq (Wp_region ?_)
 refine Rg_op rfl (op_lss rfl rfl ?_)
 refine Rg_nil (Wp_seq ?_)
 refine Wp_cond rfl (fun hc14 => ?_) (fun hc14 => ?_)
 replace hm := bif_t hm hc14
 refine Wp_skip (Wp_seq (Wp_block (Wp_seq (Wp_region ?_))))
 refine Rg_op rfl (op_move (v := (Value.int .i64 v_1)) rfl ?_)
 refine Rg_op rfl (op_assign (v := (Value.int .i64 v_1)) rfl ?_)
 refine Rg_nil (Wp_seq (Wp_region ?_))
 refine Rg_op rfl (op_move (v := (Value.int .i64 v)) rfl ?_)
 refine Rg_op rfl (op_move (v := (Value.slice Aa s.length Ca)) rfl ?_)
 refine Rg_op rfl (op_move (v := (Value.int .i64 v_1)) rfl ?_)
 replace hm := ck_some hm; obtain ⟨hc15, hm⟩ := hm
 refine Rg_op rfl (op_indexAddr (q := (rInt .i64)) ty22 ty3 rfl rfl Fa rfl hc15.1 hc15.2 ?_)
 intro p16 f17
 refine Rg_op rfl (op_loadP ty3 rfl f17 rfl ?_)
 intro v18 h19
 obtain ⟨rfl, Rc⟩ := un_int h19
 refine Rg_op rfl (op_eql rfl rfl ?_)
 refine Rg_nil ?_
 refine Wp_cond rfl (fun hc21 => ?_) (fun hc21 => ?_)
 replace hm := bif_t hm hc21
 refine Wp_seq ?_
 clear Fa f17
 refine Wp_region ?_
 refine Rg_op rfl (op_move (v := (Value.int .i64 v_1)) rfl ?_)
 refine Rg_op rfl (op_assign (v := (Value.int .i64 v_1)) rfl ?_)
 refine Rg_nil ?_
 refine Wp_ret ?_
 have hz := step_all hs9
 refine ⟨_, (show Closes [] _ _ from rfl), [(Value.int .i64 v_1)], ⟨rfl, trivial⟩, hs9.ext, ?_⟩
 exact Vr.eq (a := (vI .i64)) (x := v_1) ⟨rfl, Rb⟩ (Option.some.inj hm)
 replace hm := bif_f hm hc21
 refine Wp_skip ?_
 clear f17
 refine Wp_region ?_
 refine Rg_op rfl (op_addw rfl rfl ?_)
 refine Rg_op rfl (op_move (v := (Value.int .i64 (IntKind.wrap .i64 (v_1 + 1)))) rfl ?_)
 refine Rg_nil ?_
 exact hK6 _ _ ⟨(IntKind.wrap .i64 (v_1 + 1)), _, rfl, ⟨(by repeat (first | with_reducible exact Out.refl _ _ | refine Out.upd ?_ rfl | refine Out.updL ?_ rfl | refine Out.mix' ?_ rfl | exact Out.refl _ _)), rfl, rfl, trivial⟩, ch13, hs9, (inK_wrap .i64 _), jnE1 hsf5 hm⟩
 replace hm := bif_f hm hc14
 refine Wp_exit (Wp_seq ?_)
 clear Fa
 refine Wp_region ?_
 refine Rg_op rfl (op_assign (v := (Value.int .i64 (-1))) rfl ?_)
 refine Rg_nil ?_
 refine Wp_ret ?_
 have hz := step_all hs9
 refine ⟨_, (show Closes [] _ _ from rfl), [(Value.int .i64 (-1))], ⟨rfl, trivial⟩, hs9.ext, ?_⟩
 exact Vr.eq (a := (vI .i64)) (x := (-1)) ⟨rfl, (show InK .i64 (-1) from by decide)⟩ (Option.some.inj hm)

def m48_slices_Containsint_int_ (s : List Int) (v : Int) : Option Bool :=
 (m68_slices_Indexint_int_ s v).bind fun index_1 =>
 some (decide (0 ≤ index_1))

theorem c48_slices_Containsint_int_ {w : World} {O : List Nat} {s : List Int} {v : Int} {Aa : Option Addr} {Ca : Nat} (hO : ∀ k ∈ O, k < w.heap.size) (Fa : SlR (rInt .i64) w O Aa Ca s) (Ra : InK .i64 v) {x : Bool} (hm : m48_slices_Containsint_int_ s v = some x) :
 Ok Try.prog 48 [(Value.slice Aa s.length Ca), (Value.int .i64 v)] w O vB x := by
 unfold m48_slices_Containsint_int_ at hm
 refine Fn_of_Wp (n := 9) (xs := [.tmp 4]) Try.func48 rfl Try.ntmps48 Try.results48 rfl ?_
 have hs := St.start hO
 refine Wp_seq (Wp_region ?_)
 refine Rg_op rfl (op_assign (v := (Value.bool false)) rfl ?_)
 refine Rg_nil (Wp_seq (Wp_region ?_))
 refine Rg_op rfl (op_move (v := (Value.slice Aa s.length Ca)) rfl ?_)
 refine Rg_op rfl (op_move (v := (Value.int .i64 v)) rfl ?_)
 replace hm := bd hm; obtain ⟨index_1, hv1, hm⟩ := hm
 refine Rg_op rfl (op_call Try.call68 (c68_slices_Indexint_int_ (s := s) (v := v) hs.ltw Fa Ra hv1) rfl ?_)
 rintro v2 w3 ⟨hx4, h5⟩
 have hs6 := hs.call hx4
 have p7 := Step.ext (O := ks [] O) hx4
 clear hx4
 replace Fa := Fa.step p7; clear p7
 obtain ⟨rfl, Rb⟩ := h5
 refine Rg_op rfl (op_geq rfl rfl ?_)
 refine Rg_op rfl (op_assign (v := (Value.bool (decide (0 ≤ index_1)))) rfl ?_)
 refine Rg_nil ?_
 refine Wp_ret ?_
 have hz := step_all hs6
 replace Fa := Fa.step hz
 refine ⟨_, (show Closes [] _ _ from rfl), [(Value.bool (decide (0 ≤ index_1)))], ⟨rfl, trivial⟩, hs6.ext, ?_⟩
 exact Vr.eq (a := vB) (x := (decide (0 ≤ index_1))) rfl (Option.some.inj hm)

def m53_coalition_allowed_B0 (r_ : XRound) (slots : List Int) (sf14 : Int → Option Bool) (v_1 : Int) : Option Bool :=
 bif (decide (v_1 < (slots.length : Int))) then
  ck ((0 : Int) ≤ v_1 ∧ v_1 < (slots.length : Int)) <|
  jn (fun (v_2 : Bool) =>
   bif v_2 then
    some false
   else
    sf14 (IntKind.wrap .i64 (v_1 + 1)))
  (fun k33 =>
   bif (decide ((slots.getD v_1.toNat default) < 0)) then
    k33 true
   else
    bif (decide (r_.slots ≤ (slots.getD v_1.toNat default))) then
     k33 true
    else
     ck ((0 : Int) ≤ v_1 ∧ v_1 < (r_.costs.length : Int)) <|
     ck ((0 : Int) ≤ (slots.getD v_1.toNat default) ∧ (slots.getD v_1.toNat default) < ((r_.costs.getD v_1.toNat default).length : Int)) <|
     bif (decide (((r_.costs.getD v_1.toNat default).getD (slots.getD v_1.toNat default).toNat default) < 0)) then
      k33 true
     else
      ck ((0 : Int) ≤ v_1 ∧ v_1 ≤ (slots.length : Int)) <|
      (m48_slices_Containsint_int_ ((slots.drop 0).take (v_1.toNat - 0)) (slots.getD v_1.toNat default)).bind fun contains_1 =>
      k33 contains_1)
 else
  some true

def m53_coalition_allowed (r_ : XRound) (slots : List Int) : Option Bool :=
 bif (decide ((slots.length : Int) ≠ (r_.owners.length : Int))) then
  some false
 else
  loop1 (m53_coalition_allowed_B0 r_ slots) (((slots.length : Int) - 0).toNat + 1) 0

theorem c53_coalition_allowed {w : World} {O : List Nat} {r_ : XRound} {slots : List Int} {Aa : Option Addr} {Ca : Nat} {Ab : Option Addr} {Cb : Nat} {Ac : Option Addr} {Cc : Nat} (hO : ∀ k ∈ O, k < w.heap.size) (Ra : InK .i64 r_.slots) (Fa : SlR (rInt .i64) w O Aa Ca r_.owners) (Fb : SlR (rSl (rInt .i64)) w O Ab Cb r_.costs) (Fc : SlR (rInt .i64) w O Ac Cc slots) {x : Bool} (hm : m53_coalition_allowed r_ slots = some x) :
 Ok Try.prog 53 [(Value.agg [(Value.int .i64 r_.slots), (Value.slice Aa r_.owners.length Ca), (Value.slice Ab r_.costs.length Cb)].toArray), (Value.slice Ac slots.length Cc)] w O vB x := by
 unfold m53_coalition_allowed at hm
 refine Fn_of_Wp (n := 47) (xs := [.tmp 4]) Try.func53 rfl Try.ntmps53 Try.results53 rfl ?_
 have hs := St.start hO
 refine Wp_seq (Wp_region ?_)
 refine Rg_op rfl (op_box (cs := [(Value.int .i64 r_.slots), (Value.slice Aa r_.owners.length Ca), (Value.slice Ab r_.costs.length Cb)]) hs rfl rfl ?_)
 intro b1 w2 _ p3 hs4
 replace Fa := Fa.step p3; replace Fb := Fb.step p3; replace Fc := Fc.step p3; clear p3
 refine Rg_op rfl (op_assign (v := (Value.bool false)) rfl ?_)
 refine Rg_nil (Wp_seq (Wp_seq (Wp_region ?_)))
 refine Rg_op rfl (op_move (v := (Value.slice Ac slots.length Cc)) rfl ?_)
 refine Rg_op rfl (op_len Try.underlying22 rfl ?_)
 have rl6 := inK_len Fc
 refine Rg_op rfl (op_fieldAddr ty25 rfl ty22 (by decide) rfl (rfl : _ = (⟨_, 1, none⟩ : Addr)) ?_)
 refine Rg_op rfl (op_load (cs := [(Value.int .i64 r_.slots), (Value.slice Aa r_.owners.length Ca), (Value.slice Ab r_.costs.length Cb)]) (i := 0) ty22 hs4 rfl rfl rfl ?_)
 refine Rg_op rfl (op_len Try.underlying22 rfl ?_)
 have rl7 := inK_len Fa
 refine Rg_op rfl (op_neq rfl rfl ?_)
 refine Rg_nil ?_
 refine Wp_cond rfl (fun hc8 => ?_) (fun hc8 => ?_)
 replace hm := bif_t hm hc8
 refine Wp_seq ?_
 obtain ⟨hs9, p10⟩ := hs4.sub (bs' := []) (.cons _ List.Sublist.slnil)
 clear Fa Fb Fc
 clear p10 hs4
 refine Wp_region ?_
 refine Rg_op rfl (op_assign (v := (Value.bool false)) rfl ?_)
 refine Rg_nil ?_
 refine Wp_ret ?_
 have hz := step_all hs9
 refine ⟨_, (show Closes [] _ _ from rfl), [(Value.bool false)], ⟨rfl, trivial⟩, hs9.ext, ?_⟩
 exact Vr.eq (a := vB) (x := false) rfl (Option.some.inj hm)
 replace hm := bif_f hm hc8
 refine Wp_skip (Wp_seq (Wp_seq (Wp_region ?_)))
 refine Rg_op rfl (op_move (v := (Value.slice Ac slots.length Cc)) rfl ?_)
 refine Rg_op rfl (op_len Try.underlying22 rfl ?_)
 have rl11 := inK_len Fc
 refine Rg_op rfl (op_move (v := (Value.int .i64 0)) rfl ?_)
 refine Rg_nil (Wp_block ?_)
 refine Wp_reset [] [(1, (Value.slice Ac slots.length Cc)), (2, (Value.pointer (some ⟨b1, 0, none⟩))), (13, (Value.slice Ac slots.length Cc)), (14, (Value.int .i64 (slots.length : Int))), (15, (Value.int .i64 0))] rfl ⟨rfl, rfl, rfl, rfl, rfl, trivial⟩ fun ξ13 => ?_
 refine Wp_loopM [4, 5, 6, 15, 16, 17, 18, 19, 20, 21, 22, 23, 24, 25, 26, 27, 28, 29, 30, 31, 32, 33, 34, 35, 36, 37, 38, 39, 40, 41, 42, 43, 44, 45, 46] (fun m fr w' => ∃ (v_1 : Int) (Ebs : Ents), Ebs = [(some b1, Obj.cells [(Value.int .i64 r_.slots), (Value.slice Aa r_.owners.length Ca), (Value.slice Ab r_.costs.length Cb)].toArray 25)] ∧ fr [] [(15, (Value.int .i64 v_1))] ∧ Step (ks [(some b1, Obj.cells [(Value.int .i64 r_.slots), (Value.slice Aa r_.owners.length Ca), (Value.slice Ab r_.costs.length Cb)].toArray 25)] O) w2 (ks Ebs O) w' ∧ St ⟨w, [], []⟩ O w' Ebs ∧ InK .i64 v_1 ∧ loop1 (m53_coalition_allowed_B0 r_ slots) m v_1 = some x) (((slots.length : Int) - 0).toNat + 1) ⟨0, _, rfl, ⟨Out.refl _ _, rfl, rfl, trivial⟩, Step.refl _ _, hs4, (show InK .i64 0 from by decide), hm⟩ ?_ ?_
 rintro _ _ ⟨_, _, _, _, _, _, _, hm⟩; exact loop1_z hm
 rintro m17 K16 hK16 ρ22 w18 ⟨v_1, Ebs, hEbs, hfr21, hst20, hs19, Rb, hm⟩
 obtain ⟨sf14, hsf15, hm⟩ := loop1_s hm; unfold m53_coalition_allowed_B0 at hm
 subst hEbs; rw [hfr21.eq]; clear hfr21
 replace Fa := Fa.step hst20; replace Fb := Fb.step hst20; replace Fc := Fc.step hst20
 have ch23 := hst20
 refine Wp_seq (Wp_region ?_)
 refine Rg_op rfl (op_lss rfl rfl ?_)
 refine Rg_nil (Wp_seq ?_)
 refine Wp_cond rfl (fun hc24 => ?_) (fun hc24 => ?_)
 replace hm := bif_t hm hc24
 refine Wp_skip (Wp_seq (Wp_block (Wp_seq (Wp_region ?_))))
 refine Rg_op rfl (op_move (v := (Value.int .i64 v_1)) rfl ?_)
 replace hm := ck_some hm; obtain ⟨hc25, hm⟩ := hm
 refine Rg_op rfl (op_indexAddr (q := (rInt .i64)) ty22 ty3 rfl rfl Fc rfl hc25.1 hc25.2 ?_)
 intro p26 f27
 refine Rg_op rfl (op_loadP ty3 rfl f27 rfl ?_)
 intro v28 h29
 obtain ⟨rfl, Rc⟩ := un_int h29
 refine Rg_op rfl (op_assign (v := (Value.int .i64 v_1)) rfl ?_)
 refine Rg_op rfl (op_assign (v := (Value.int .i64 (slots.getD v_1.toNat default))) rfl ?_)
 refine Rg_nil ?_
 refine Wp_reset2 [4, 5, 6, 15, 16, 17, 18, 19, 20, 21, 22, 23, 24, 25, 26, 27, 28, 29, 30, 31, 32, 33, 34, 35, 36, 37, 38, 39, 40, 41, 42, 43, 44, 45, 46] [] (updL ⟨ξ13, []⟩ [(1, (Value.slice Ac slots.length Cc)), (2, (Value.pointer (some ⟨b1, 0, none⟩))), (13, (Value.slice Ac slots.length Cc)), (14, (Value.int .i64 (slots.length : Int))), (15, (Value.int .i64 0))]) [(5, (Value.int .i64 v_1)), (6, (Value.int .i64 (slots.getD v_1.toNat default))), (15, (Value.int .i64 v_1))] (by repeat (first | with_reducible exact Out.refl _ _ | refine Out.upd ?_ rfl | refine Out.updL ?_ rfl | refine Out.mix' ?_ rfl | exact Out.refl _ _)) rfl ⟨rfl, rfl, rfl, trivial⟩ fun ξ31 => ?_
 replace hm := jn_elim hm; obtain ⟨k33, hk34, hm⟩ := hm
 refine Wp_seqJ [20, 21, 22, 23, 24, 25, 26, 27, 28, 29, 30, 31, 32, 33, 34, 35, 36, 37, 38, 39, 40, 41, 42, 43, 44, 45] (fun fr w' => ∃ (v_2 : Bool) (Ebs : Ents), Ebs = [(some b1, Obj.cells [(Value.int .i64 r_.slots), (Value.slice Aa r_.owners.length Ca), (Value.slice Ab r_.costs.length Cb)].toArray 25)] ∧ fr [] [(45, (Value.bool v_2))] ∧ Step (ks [(some b1, Obj.cells [(Value.int .i64 r_.slots), (Value.slice Aa r_.owners.length Ca), (Value.slice Ab r_.costs.length Cb)].toArray 25)] O) w18 (ks Ebs O) w' ∧ St ⟨w, [], []⟩ O w' Ebs ∧ k33 v_2 = some x) ?_ ?_
 rintro ρ40 w36 ⟨v_2, Ebs, hEbs, hfr39, hst38, hs37, hm⟩
 replace hm := jnE1 hk34 hm
 subst hEbs; rw [hfr39.eq]; clear hfr39
 replace Fa := Fa.step hst38; replace Fb := Fb.step hst38; replace Fc := Fc.step hst38; replace f27 := f27.step hst38; replace ch23 := ch23.trans hst38; clear hst38 hs19
 refine Wp_cond rfl (fun hc41 => ?_) (fun hc41 => ?_)
 replace hm := bif_t hm hc41
 refine Wp_seq ?_
 clear Fc f27
 refine Wp_region ?_
 refine Rg_op rfl (op_assign (v := (Value.bool false)) rfl ?_)
 refine Rg_nil ?_
 refine Wp_ret ?_
 have hz := step_all hs37
 replace Fa := Fa.step hz; replace Fb := Fb.step hz
 refine ⟨_, (show Closes [] _ _ from rfl), [(Value.bool false)], ⟨rfl, trivial⟩, hs37.ext, ?_⟩
 exact Vr.eq (a := vB) (x := false) rfl (Option.some.inj hm)
 replace hm := bif_f hm hc41
 refine Wp_skip ?_
 clear f27
 refine Wp_region ?_
 refine Rg_op rfl (op_addw rfl rfl ?_)
 refine Rg_op rfl (op_move (v := (Value.int .i64 (IntKind.wrap .i64 (v_1 + 1)))) rfl ?_)
 refine Rg_nil ?_
 exact hK16 _ _ ⟨(IntKind.wrap .i64 (v_1 + 1)), _, rfl, ⟨(by repeat (first | with_reducible exact Out.refl _ _ | refine Out.upd ?_ rfl | refine Out.updL ?_ rfl | refine Out.mix' ?_ rfl | exact Out.refl _ _)), rfl, rfl, trivial⟩, ch23, hs37, (inK_wrap .i64 _), jnE1 hsf15 hm⟩
 intro K35 hK35
 have ch42 := Step.refl (ks [(some b1, Obj.cells [(Value.int .i64 r_.slots), (Value.slice Aa r_.owners.length Ca), (Value.slice Ab r_.costs.length Cb)].toArray 25)] O) w18
 clear f27
 refine Wp_region ?_
 refine Rg_op rfl (op_move (v := (Value.int .i64 (slots.getD v_1.toNat default))) rfl ?_)
 refine Rg_op rfl (op_lss rfl rfl ?_)
 refine Rg_op rfl (op_move (v := (Value.bool (decide ((slots.getD v_1.toNat default) < 0)))) rfl ?_)
 refine Rg_case (fun hg43 => ?_) (fun hg43 => ?_)
 replace hm := bif_t hm hg43
 iterate 4 refine Rg_opx rfl (asB_ne rfl rfl) rfl ?_
 refine Rg_op rfl (op_pick_t (v := (Value.bool true)) rfl rfl ?_)
 refine Rg_op rfl (op_move (v := (Value.bool true)) rfl ?_)
 iterate 9 refine Rg_opx rfl (asB_ne rfl rfl) rfl ?_
 refine Rg_op rfl (op_pick_t (v := (Value.bool true)) rfl rfl ?_)
 refine Rg_op rfl (op_move (v := (Value.bool true)) rfl ?_)
 iterate 5 refine Rg_opx rfl (asB_ne rfl rfl) rfl ?_
 refine Rg_op rfl (op_pick_t (v := (Value.bool true)) rfl rfl ?_)
 refine Rg_nil ?_
 exact hK35 _ _ ⟨true, _, rfl, ⟨(by repeat (first | with_reducible exact Out.refl _ _ | refine Out.upd ?_ rfl | refine Out.updL ?_ rfl | refine Out.mix' ?_ rfl | exact Out.refl _ _)), rfl, rfl, trivial⟩, ch42, hs19, hm⟩
 replace hm := bif_f hm hg43
 refine Rg_opg rfl rfl rfl (op_move (v := (Value.int .i64 (slots.getD v_1.toNat default))) rfl ?_)
 refine Rg_opg rfl rfl rfl (op_fieldAddr ty25 rfl ty3 (by decide) rfl (rfl : _ = (⟨_, 0, none⟩ : Addr)) ?_)
 refine Rg_opg rfl rfl rfl (op_load (cs := [(Value.int .i64 r_.slots), (Value.slice Aa r_.owners.length Ca), (Value.slice Ab r_.costs.length Cb)]) (i := 0) ty3 hs19 rfl rfl rfl ?_)
 refine Rg_opg rfl rfl rfl (op_geq rfl rfl ?_)
 refine Rg_op rfl (op_pick_f (v := (Value.bool (decide (r_.slots ≤ (slots.getD v_1.toNat default))))) rfl rfl ?_)
 refine Rg_op rfl (op_move (v := (Value.bool (decide (r_.slots ≤ (slots.getD v_1.toNat default))))) rfl ?_)
 refine Rg_case (fun hg44 => ?_) (fun hg44 => ?_)
 replace hm := bif_t hm hg44
 iterate 9 refine Rg_opx rfl (asB_ne rfl rfl) rfl ?_
 refine Rg_op rfl (op_pick_t (v := (Value.bool true)) rfl rfl ?_)
 refine Rg_op rfl (op_move (v := (Value.bool true)) rfl ?_)
 iterate 5 refine Rg_opx rfl (asB_ne rfl rfl) rfl ?_
 refine Rg_op rfl (op_pick_t (v := (Value.bool true)) rfl rfl ?_)
 refine Rg_nil ?_
 exact hK35 _ _ ⟨true, _, rfl, ⟨(by repeat (first | with_reducible exact Out.refl _ _ | refine Out.upd ?_ rfl | refine Out.updL ?_ rfl | refine Out.mix' ?_ rfl | exact Out.refl _ _)), rfl, rfl, trivial⟩, ch42, hs19, hm⟩
 replace hm := bif_f hm hg44
 refine Rg_opg rfl rfl rfl (op_fieldAddr ty25 rfl ty23 (by decide) rfl (rfl : _ = (⟨_, 2, none⟩ : Addr)) ?_)
 refine Rg_opg rfl rfl rfl (op_load (cs := [(Value.int .i64 r_.slots), (Value.slice Aa r_.owners.length Ca), (Value.slice Ab r_.costs.length Cb)]) (i := 0) ty23 hs19 rfl rfl rfl ?_)
 refine Rg_opg rfl rfl rfl (op_move (v := (Value.int .i64 v_1)) rfl ?_)
 replace hm := ck_some hm; obtain ⟨hc45, hm⟩ := hm
 refine Rg_opg rfl rfl rfl (op_indexAddr (q := (rSl (rInt .i64))) ty23 ty22 rfl rfl Fb rfl hc45.1 hc45.2 ?_)
 intro p46 f47
 refine Rg_opg rfl rfl rfl (op_loadP ty22 rfl f47 rfl ?_)
 intro v48 h49
 obtain ⟨Ad, Cd, rfl, Fd⟩ := un_sl h49
 refine Rg_opg rfl rfl rfl (op_move (v := (Value.int .i64 (slots.getD v_1.toNat default))) rfl ?_)
 replace hm := ck_some hm; obtain ⟨hc51, hm⟩ := hm
 refine Rg_opg rfl rfl rfl (op_indexAddr (q := (rInt .i64)) ty22 ty3 rfl rfl Fd rfl hc51.1 hc51.2 ?_)
 intro p52 f53
 refine Rg_opg rfl rfl rfl (op_loadP ty3 rfl f53 rfl ?_)
 intro v54 h55
 obtain ⟨rfl, Rd⟩ := un_int h55
 refine Rg_opg rfl rfl rfl (op_lss rfl rfl ?_)
 refine Rg_op rfl (op_pick_f (v := (Value.bool (decide (((r_.costs.getD v_1.toNat default).getD (slots.getD v_1.toNat default).toNat default) < 0)))) rfl rfl ?_)
 refine Rg_op rfl (op_move (v := (Value.bool (decide (((r_.costs.getD v_1.toNat default).getD (slots.getD v_1.toNat default).toNat default) < 0)))) rfl ?_)
 refine Rg_case (fun hg57 => ?_) (fun hg57 => ?_)
 replace hm := bif_t hm hg57
 iterate 5 refine Rg_opx rfl (asB_ne rfl rfl) rfl ?_
 refine Rg_op rfl (op_pick_t (v := (Value.bool true)) rfl rfl ?_)
 refine Rg_nil ?_
 exact hK35 _ _ ⟨true, _, rfl, ⟨(by repeat (first | with_reducible exact Out.refl _ _ | refine Out.upd ?_ rfl | refine Out.updL ?_ rfl | refine Out.mix' ?_ rfl | exact Out.refl _ _)), rfl, rfl, trivial⟩, ch42, hs19, hm⟩
 replace hm := bif_f hm hg57
 refine Rg_opg rfl rfl rfl (op_move (v := (Value.slice Ac slots.length Cc)) rfl ?_)
 refine Rg_opg rfl rfl rfl (op_move (v := (Value.int .i64 v_1)) rfl ?_)
 replace hm := ck_some hm; obtain ⟨hc58, hm⟩ := hm
 refine Rg_opg rfl rfl rfl (op_slice (q := (rInt .i64)) (l := 0) (h := v_1.toNat) (m := Cc) ty22 ty3 rfl Fc rfl rfl (bndI rfl (by omega)) rfl (by decide) (by omega) (by omega) (by have h_ : slots.length ≤ Cc := Fc.le; omega) (by have h_ : slots.length ≤ Cc := Fc.le; omega) ?_)
 intro a59 f60
 refine Rg_opg rfl rfl rfl (op_move (v := (Value.int .i64 (slots.getD v_1.toNat default))) rfl ?_)
 replace hm := bd hm; obtain ⟨contains_1, hv61, hm⟩ := hm
 refine Rg_opg rfl rfl rfl (op_call Try.call48 (c48_slices_Containsint_int_ (s := ((slots.drop 0).take (v_1.toNat - 0))) (v := (slots.getD v_1.toNat default)) hs19.ltw f60 Rc hv61) rfl ?_)
 rintro v62 w63 ⟨hx64, h65⟩
 have hs66 := hs19.call hx64
 have p67 := Step.ext (O := ks [(some b1, Obj.cells [(Value.int .i64 r_.slots), (Value.slice Aa r_.owners.length Ca), (Value.slice Ab r_.costs.length Cb)].toArray 25)] O) hx64
 clear hx64
 replace Fa := Fa.step p67; replace Fb := Fb.step p67; replace Fc := Fc.step p67; replace f47 := f47.step p67; replace Fd := Fd.step p67; replace f53 := f53.step p67; replace f60 := f60.step p67; replace ch23 := ch23.trans p67; replace ch42 := ch42.trans p67; clear p67 hs19
 obtain rfl := h65
 refine Rg_op rfl (op_pick_f (v := (Value.bool contains_1)) rfl rfl ?_)
 refine Rg_nil ?_
 exact hK35 _ _ ⟨contains_1, _, rfl, ⟨(by repeat (first | with_reducible exact Out.refl _ _ | refine Out.upd ?_ rfl | refine Out.updL ?_ rfl | refine Out.mix' ?_ rfl | exact Out.refl _ _)), rfl, rfl, trivial⟩, ch42, hs66, hm⟩
 replace hm := bif_f hm hc24
 refine Wp_exit (Wp_seq ?_)
 obtain ⟨hs69, p70⟩ := hs19.sub (bs' := []) (.cons _ List.Sublist.slnil)
 clear Fa Fb Fc
 replace ch23 := ch23.trans p70; clear p70 hs19
 refine Wp_region ?_
 refine Rg_op rfl (op_assign (v := (Value.bool true)) rfl ?_)
 refine Rg_nil ?_
 refine Wp_ret ?_
 have hz := step_all hs69
 refine ⟨_, (show Closes [] _ _ from rfl), [(Value.bool true)], ⟨rfl, trivial⟩, hs69.ext, ?_⟩
 exact Vr.eq (a := vB) (x := true) rfl (Option.some.inj hm)

def m26_coalition_Allowed (r_ : XRound) (slots : List Int) : Option (Bool × Int) :=
 (m25_coalition_Check r_).bind fun check_1 =>
 bif (decide (check_1 ≠ 0)) then
  some (false, check_1)
 else
  (m53_coalition_allowed r_ slots).bind fun allowed_1 =>
  some (allowed_1, 0)

theorem c26_coalition_Allowed {w : World} {O : List Nat} {r_ : XRound} {slots : List Int} {Aa : Option Addr} {Ca : Nat} {Ab : Option Addr} {Cb : Nat} {Ac : Option Addr} {Cc : Nat} (hO : ∀ k ∈ O, k < w.heap.size) (Ra : InK .i64 r_.slots) (Fa : SlR (rInt .i64) w O Aa Ca r_.owners) (Fb : SlR (rSl (rInt .i64)) w O Ab Cb r_.costs) (Fc : SlR (rInt .i64) w O Ac Cc slots) {x : Bool × Int} (hm : m26_coalition_Allowed r_ slots = some x) :
 Ok Try.prog 26 [(Value.agg [(Value.int .i64 r_.slots), (Value.slice Aa r_.owners.length Ca), (Value.slice Ab r_.costs.length Cb)].toArray), (Value.slice Ac slots.length Cc)] w O (vT2 vB (vI .i64)) x := by
 unfold m26_coalition_Allowed at hm
 refine Fn_of_Wp (n := 15) (xs := [.tmp 4, .tmp 5]) Try.func26 rfl Try.ntmps26 Try.results26 rfl ?_
 have hs := St.start hO
 refine Wp_seq (Wp_region ?_)
 refine Rg_op rfl (op_box (cs := [(Value.int .i64 r_.slots), (Value.slice Aa r_.owners.length Ca), (Value.slice Ab r_.costs.length Cb)]) hs rfl rfl ?_)
 intro b1 w2 _ p3 hs4
 replace Fa := Fa.step p3; replace Fb := Fb.step p3; replace Fc := Fc.step p3; clear p3
 refine Rg_op rfl (op_assign (v := (Value.bool false)) rfl ?_)
 refine Rg_op rfl (op_assign (v := (Value.int .i64 0)) rfl ?_)
 refine Rg_nil (Wp_seq (Wp_seq (Wp_region ?_)))
 refine Rg_op rfl (op_loadA (cs := [(Value.int .i64 r_.slots), (Value.slice Aa r_.owners.length Ca), (Value.slice Ab r_.costs.length Cb)]) (vs := [(Value.int .i64 r_.slots), (Value.slice Aa r_.owners.length Ca), (Value.slice Ab r_.costs.length Cb)]) (i := 0) ty25 hs4 rfl rfl rfl rfl ?_)
 replace hm := bd hm; obtain ⟨check_1, hv6, hm⟩ := hm
 refine Rg_op rfl (op_call Try.call25 (c25_coalition_Check (r_ := r_) hs4.ltw Ra Fa Fb hv6) rfl ?_)
 rintro v7 w8 ⟨hx9, h10⟩
 have hs11 := hs4.call hx9
 have p12 := Step.ext (O := ks [(some b1, Obj.cells [(Value.int .i64 r_.slots), (Value.slice Aa r_.owners.length Ca), (Value.slice Ab r_.costs.length Cb)].toArray 25)] O) hx9
 clear hx9
 replace Fa := Fa.step p12; replace Fb := Fb.step p12; replace Fc := Fc.step p12; clear p12 hs4
 obtain ⟨rfl, Rb⟩ := h10
 refine Rg_op rfl (op_assign (v := (Value.int .i64 check_1)) rfl ?_)
 refine Rg_nil (Wp_seq (Wp_region ?_))
 refine Rg_op rfl (op_move (v := (Value.int .i64 check_1)) rfl ?_)
 refine Rg_op rfl (op_neq rfl rfl ?_)
 refine Rg_nil ?_
 refine Wp_cond rfl (fun hc14 => ?_) (fun hc14 => ?_)
 replace hm := bif_t hm hc14
 refine Wp_seq ?_
 obtain ⟨hs15, p16⟩ := hs11.sub (bs' := []) (.cons _ List.Sublist.slnil)
 clear Fa Fb Fc
 clear p16 hs11
 refine Wp_region ?_
 refine Rg_op rfl (op_move (v := (Value.int .i64 check_1)) rfl ?_)
 refine Rg_op rfl (op_assign (v := (Value.bool false)) rfl ?_)
 refine Rg_op rfl (op_assign (v := (Value.int .i64 check_1)) rfl ?_)
 refine Rg_nil ?_
 refine Wp_ret ?_
 have hz := step_all hs15
 refine ⟨_, (show Closes [] _ _ from rfl), [(Value.bool false), (Value.int .i64 check_1)], ⟨rfl, rfl, trivial⟩, hs15.ext, ?_⟩
 exact Vr.eq (a := (vT2 vB (vI .i64))) (x := (false, check_1)) (mkT2 rfl ⟨rfl, Rb⟩) (Option.some.inj hm)
 replace hm := bif_f hm hc14
 refine Wp_skip (Wp_seq (Wp_region ?_))
 refine Rg_op rfl (op_loadA (cs := [(Value.int .i64 r_.slots), (Value.slice Aa r_.owners.length Ca), (Value.slice Ab r_.costs.length Cb)]) (vs := [(Value.int .i64 r_.slots), (Value.slice Aa r_.owners.length Ca), (Value.slice Ab r_.costs.length Cb)]) (i := 0) ty25 hs11 rfl rfl rfl rfl ?_)
 refine Rg_op rfl (op_move (v := (Value.slice Ac slots.length Cc)) rfl ?_)
 replace hm := bd hm; obtain ⟨allowed_1, hv17, hm⟩ := hm
 refine Rg_op rfl (op_call Try.call53 (c53_coalition_allowed (r_ := r_) (slots := slots) hs11.ltw Ra Fa Fb Fc hv17) rfl ?_)
 rintro v18 w19 ⟨hx20, h21⟩
 have hs22 := hs11.call hx20
 have p23 := Step.ext (O := ks [(some b1, Obj.cells [(Value.int .i64 r_.slots), (Value.slice Aa r_.owners.length Ca), (Value.slice Ab r_.costs.length Cb)].toArray 25)] O) hx20
 clear hx20
 replace Fa := Fa.step p23; replace Fb := Fb.step p23; replace Fc := Fc.step p23; clear p23 hs11
 obtain rfl := h21
 refine Rg_op rfl (op_assign (v := (Value.bool allowed_1)) rfl ?_)
 refine Rg_op rfl (op_assign (v := (Value.int .i64 0)) rfl ?_)
 refine Rg_nil ?_
 refine Wp_ret ?_
 have hz := step_all hs22
 replace Fa := Fa.step hz; replace Fb := Fb.step hz; replace Fc := Fc.step hz
 refine ⟨_, (show Closes [] _ _ from rfl), [(Value.bool allowed_1), (Value.int .i64 0)], ⟨rfl, rfl, trivial⟩, hs22.ext, ?_⟩
 exact Vr.eq (a := (vT2 vB (vI .i64))) (x := (allowed_1, 0)) (mkT2 rfl ⟨rfl, (show InK .i64 0 from by decide)⟩) (Option.some.inj hm)

def m45_coalition_check (r_ : XRound) (slots : List Int) : Option Int :=
 (m26_coalition_Allowed r_ slots).bind fun allowed_1 =>
 jn (fun (v_1 : Bool) =>
  bif v_1 then
   some 370
  else
   some 0)
 (fun k21 =>
  bif (decide (allowed_1.2 ≠ 0)) then
   k21 true
  else
   k21 (!allowed_1.1))

theorem c45_coalition_check {w : World} {O : List Nat} {r_ : XRound} {slots : List Int} {Aa : Option Addr} {Ca : Nat} {Ab : Option Addr} {Cb : Nat} {Ac : Option Addr} {Cc : Nat} (hO : ∀ k ∈ O, k < w.heap.size) (Ra : InK .i64 r_.slots) (Fa : SlR (rInt .i64) w O Aa Ca r_.owners) (Fb : SlR (rSl (rInt .i64)) w O Ab Cb r_.costs) (Fc : SlR (rInt .i64) w O Ac Cc slots) {x : Int} (hm : m45_coalition_check r_ slots = some x) :
 Ok Try.prog 45 [(Value.agg [(Value.int .i64 r_.slots), (Value.slice Aa r_.owners.length Ca), (Value.slice Ab r_.costs.length Cb)].toArray), (Value.slice Ac slots.length Cc)] w O (vI .i64) x := by
 unfold m45_coalition_check at hm
 refine Fn_of_Wp (n := 19) (xs := [.tmp 4]) Try.func45 rfl Try.ntmps45 Try.results45 rfl ?_
 have hs := St.start hO
 refine Wp_seq (Wp_region ?_)
 refine Rg_op rfl (op_box (cs := [(Value.int .i64 r_.slots), (Value.slice Aa r_.owners.length Ca), (Value.slice Ab r_.costs.length Cb)]) hs rfl rfl ?_)
 intro b1 w2 _ p3 hs4
 replace Fa := Fa.step p3; replace Fb := Fb.step p3; replace Fc := Fc.step p3; clear p3
 refine Rg_op rfl (op_assign (v := (Value.int .i64 0)) rfl ?_)
 refine Rg_nil (Wp_seq (Wp_seq (Wp_region ?_)))
 refine Rg_op rfl (op_loadA (cs := [(Value.int .i64 r_.slots), (Value.slice Aa r_.owners.length Ca), (Value.slice Ab r_.costs.length Cb)]) (vs := [(Value.int .i64 r_.slots), (Value.slice Aa r_.owners.length Ca), (Value.slice Ab r_.costs.length Cb)]) (i := 0) ty25 hs4 rfl rfl rfl rfl ?_)
 refine Rg_op rfl (op_move (v := (Value.slice Ac slots.length Cc)) rfl ?_)
 replace hm := bd hm; obtain ⟨allowed_1, hv6, hm⟩ := hm
 refine Rg_op rfl (op_call Try.call26 (c26_coalition_Allowed (r_ := r_) (slots := slots) hs4.ltw Ra Fa Fb Fc hv6) rfl ?_)
 rintro v7 w8 ⟨hx9, h10⟩
 have hs11 := hs4.call hx9
 have p12 := Step.ext (O := ks [(some b1, Obj.cells [(Value.int .i64 r_.slots), (Value.slice Aa r_.owners.length Ca), (Value.slice Ab r_.costs.length Cb)].toArray 25)] O) hx9
 clear hx9
 replace Fa := Fa.step p12; replace Fb := Fb.step p12; replace Fc := Fc.step p12; clear p12 hs4
 obtain ⟨v13, v14, rfl, h15, h16⟩ := h10
 obtain rfl := h15
 obtain ⟨rfl, Rb⟩ := h16
 refine Rg_op rfl (op_move (v := (Value.tuple [(Value.bool allowed_1.1), (Value.int .i64 allowed_1.2)].toArray)) rfl ?_)
 refine Rg_op rfl (op_extract (v := (Value.bool allowed_1.1)) rfl rfl ?_)
 refine Rg_op rfl (op_extract (v := (Value.int .i64 allowed_1.2)) rfl rfl ?_)
 refine Rg_op rfl (op_assign (v := (Value.bool allowed_1.1)) rfl ?_)
 refine Rg_op rfl (op_assign (v := (Value.int .i64 allowed_1.2)) rfl ?_)
 refine Rg_nil ?_
 refine Wp_reset [] [(5, (Value.bool allowed_1.1)), (6, (Value.int .i64 allowed_1.2))] rfl ⟨rfl, rfl, trivial⟩ fun ξ19 => ?_
 replace hm := jn_elim hm; obtain ⟨k21, hk22, hm⟩ := hm
 refine Wp_seqJ [13, 14, 15, 16, 17, 18] (fun fr w' => ∃ (v_1 : Bool) (Ebs : Ents), Ebs = [(some b1, Obj.cells [(Value.int .i64 r_.slots), (Value.slice Aa r_.owners.length Ca), (Value.slice Ab r_.costs.length Cb)].toArray 25)] ∧ fr [] [(18, (Value.bool v_1))] ∧ Step (ks [(some b1, Obj.cells [(Value.int .i64 r_.slots), (Value.slice Aa r_.owners.length Ca), (Value.slice Ab r_.costs.length Cb)].toArray 25)] O) w8 (ks Ebs O) w' ∧ St ⟨w, [], []⟩ O w' Ebs ∧ k21 v_1 = some x) ?_ ?_
 rintro ρ28 w24 ⟨v_1, Ebs, hEbs, hfr27, hst26, hs25, hm⟩
 replace hm := jnE1 hk22 hm
 subst hEbs; rw [hfr27.eq]; clear hfr27
 replace Fa := Fa.step hst26; replace Fb := Fb.step hst26; replace Fc := Fc.step hst26; clear hst26 hs11
 refine Wp_cond rfl (fun hc29 => ?_) (fun hc29 => ?_)
 replace hm := bif_t hm hc29
 refine Wp_seq ?_
 obtain ⟨hs30, p31⟩ := hs25.sub (bs' := []) (.cons _ List.Sublist.slnil)
 clear Fa Fb Fc
 clear p31 hs25
 refine Wp_region ?_
 refine Rg_op rfl (op_assign (v := (Value.int .i64 370)) rfl ?_)
 refine Rg_nil ?_
 refine Wp_ret ?_
 have hz := step_all hs30
 refine ⟨_, (show Closes [] _ _ from rfl), [(Value.int .i64 370)], ⟨rfl, trivial⟩, hs30.ext, ?_⟩
 exact Vr.eq (a := (vI .i64)) (x := 370) ⟨rfl, (show InK .i64 370 from by decide)⟩ (Option.some.inj hm)
 replace hm := bif_f hm hc29
 refine Wp_skip (Wp_seq ?_)
 obtain ⟨hs32, p33⟩ := hs25.sub (bs' := []) (.cons _ List.Sublist.slnil)
 clear Fa Fb Fc
 clear p33 hs25
 refine Wp_region ?_
 refine Rg_op rfl (op_assign (v := (Value.int .i64 0)) rfl ?_)
 refine Rg_nil ?_
 refine Wp_ret ?_
 have hz := step_all hs32
 refine ⟨_, (show Closes [] _ _ from rfl), [(Value.int .i64 0)], ⟨rfl, trivial⟩, hs32.ext, ?_⟩
 exact Vr.eq (a := (vI .i64)) (x := 0) ⟨rfl, (show InK .i64 0 from by decide)⟩ (Option.some.inj hm)
 intro K23 hK23
 have ch34 := Step.refl (ks [(some b1, Obj.cells [(Value.int .i64 r_.slots), (Value.slice Aa r_.owners.length Ca), (Value.slice Ab r_.costs.length Cb)].toArray 25)] O) w8
 clear Fc
 refine Wp_region ?_
 refine Rg_op rfl (op_move (v := (Value.int .i64 allowed_1.2)) rfl ?_)
 refine Rg_op rfl (op_neq rfl rfl ?_)
 refine Rg_op rfl (op_move (v := (Value.bool (decide (allowed_1.2 ≠ 0)))) rfl ?_)
 refine Rg_case (fun hg35 => ?_) (fun hg35 => ?_)
 replace hm := bif_t hm hg35
 iterate 2 refine Rg_opx rfl (asB_ne rfl rfl) rfl ?_
 refine Rg_op rfl (op_pick_t (v := (Value.bool true)) rfl rfl ?_)
 refine Rg_nil ?_
 exact hK23 _ _ ⟨true, _, rfl, ⟨(by repeat (first | with_reducible exact Out.refl _ _ | refine Out.upd ?_ rfl | refine Out.updL ?_ rfl | refine Out.mix' ?_ rfl | exact Out.refl _ _)), rfl, rfl, trivial⟩, ch34, hs11, hm⟩
 replace hm := bif_f hm hg35
 refine Rg_opg rfl rfl rfl (op_move (v := (Value.bool allowed_1.1)) rfl ?_)
 refine Rg_opg rfl rfl rfl (op_not rfl ?_)
 refine Rg_op rfl (op_pick_f (v := (Value.bool (!allowed_1.1))) rfl rfl ?_)
 refine Rg_nil ?_
 exact hK23 _ _ ⟨(!allowed_1.1), _, rfl, ⟨(by repeat (first | with_reducible exact Out.refl _ _ | refine Out.upd ?_ rfl | refine Out.updL ?_ rfl | refine Out.mix' ?_ rfl | exact Out.refl _ _)), rfl, rfl, trivial⟩, ch34, hs11, hm⟩

def m46_coalition_costs_B0 (r_ : XRound) (flights : List Int) (slots : List Int) (sf18 : (List Int) → Int → Option (List Int)) (out_1 : List Int) (v_1 : Int) : Option (List Int) :=
 bif (decide (v_1 < (flights.length : Int))) then
  ck ((0 : Int) ≤ v_1 ∧ v_1 < (flights.length : Int)) <|
  ck ((0 : Int) ≤ (flights.getD v_1.toNat default) ∧ (flights.getD v_1.toNat default) < (r_.owners.length : Int)) <|
  ck ((0 : Int) ≤ (r_.owners.getD (flights.getD v_1.toNat default).toNat default) ∧ (r_.owners.getD (flights.getD v_1.toNat default).toNat default) < (out_1.length : Int)) <|
  ck ((0 : Int) ≤ (flights.getD v_1.toNat default) ∧ (flights.getD v_1.toNat default) < (r_.costs.length : Int)) <|
  ck ((0 : Int) ≤ v_1 ∧ v_1 < (slots.length : Int)) <|
  ck ((0 : Int) ≤ (slots.getD v_1.toNat default) ∧ (slots.getD v_1.toNat default) < ((r_.costs.getD (flights.getD v_1.toNat default).toNat default).length : Int)) <|
  ck ((0 : Int) ≤ (r_.owners.getD (flights.getD v_1.toNat default).toNat default) ∧ (r_.owners.getD (flights.getD v_1.toNat default).toNat default) < (out_1.length : Int)) <|
  sf18 (out_1.set (r_.owners.getD (flights.getD v_1.toNat default).toNat default).toNat (IntKind.wrap .i64 ((out_1.getD (r_.owners.getD (flights.getD v_1.toNat default).toNat default).toNat default) + ((r_.costs.getD (flights.getD v_1.toNat default).toNat default).getD (slots.getD v_1.toNat default).toNat default)))) (IntKind.wrap .i64 (v_1 + 1))
 else
  some out_1

def m46_coalition_costs (r_ : XRound) (flights : List Int) (slots : List Int) : Option (List Int) :=
 ck ((0 : Int) ≤ (8 : Int) ∧ (8 : Int) ≤ (8 : Int) ∧ (8 : Int) * 8 ≤ 281474976710656 ∧ (8 : Int) ≤ 281474976710656) <|
 loop2 (m46_coalition_costs_B0 r_ flights slots) (((flights.length : Int) - 0).toNat + 1) (List.replicate 8 (0 : Int)) 0

theorem g46_coalition_costs {w : World} {O : List Nat} {r_ : XRound} {flights : List Int} {slots : List Int} {Aa : Option Addr} {Ca : Nat} {Ab : Option Addr} {Cb : Nat} {Ac : Option Addr} {Cc : Nat} {Ad : Option Addr} {Cd : Nat} (hO : ∀ k ∈ O, k < w.heap.size) (Ra : InK .i64 r_.slots) (Fa : SlR (rInt .i64) w O Aa Ca r_.owners) (Fb : SlR (rSl (rInt .i64)) w O Ab Cb r_.costs) (Fc : SlR (rInt .i64) w O Ac Cc flights) (Fd : SlR (rInt .i64) w O Ad Cd slots) {x : (List Int)} (hm : m46_coalition_costs r_ flights slots = some x) :
 OkG Try.prog 46 [(Value.agg [(Value.int .i64 r_.slots), (Value.slice Aa r_.owners.length Ca), (Value.slice Ab r_.costs.length Cb)].toArray), (Value.slice Ac flights.length Cc), (Value.slice Ad slots.length Cd)] w O (rInt .i64) 3 x := by
 unfold m46_coalition_costs at hm
 refine Fn_of_Wp (n := 41) (xs := [.tmp 6]) Try.func46 rfl Try.ntmps46 Try.results46 rfl ?_
 have hs := St.start hO
 refine Wp_seq (Wp_region ?_)
 refine Rg_op rfl (op_box (cs := [(Value.int .i64 r_.slots), (Value.slice Aa r_.owners.length Ca), (Value.slice Ab r_.costs.length Cb)]) hs rfl rfl ?_)
 intro b1 w2 _ p3 hs4
 replace Fa := Fa.step p3; replace Fb := Fb.step p3; replace Fc := Fc.step p3; replace Fd := Fd.step p3; clear p3
 refine Rg_op rfl (op_assign (v := (Value.slice none 0 0)) rfl ?_)
 refine Rg_nil (Wp_seq (Wp_region ?_))
 replace hm := ck_some hm; obtain ⟨hc6, hm⟩ := hm
 refine Rg_op rfl (op_makeSliceI (q := (rInt .i64)) (v := (Value.int .i64 0)) (x0 := (0 : Int)) ty22 ty3 hs4 rfl rfl hc6 rfl (fun _ _ => (mk_int (show InK .i64 0 from by decide))) ?_)
 intro b7 w8 hx12 p9 hs10 f11
 replace Fa := Fa.step p9; replace Fb := Fb.step p9; replace Fc := Fc.step p9; replace Fd := Fd.step p9; clear p9 hs4
 refine Rg_op rfl (op_assign (v := (Value.slice (some ⟨b7, 0, none⟩) (List.replicate 8 (0 : Int)).length 8)) rfl ?_)
 refine Rg_nil (Wp_seq (Wp_seq (Wp_region ?_)))
 refine Rg_op rfl (op_move (v := (Value.slice Ac flights.length Cc)) rfl ?_)
 refine Rg_op rfl (op_len Try.underlying22 rfl ?_)
 have rl14 := inK_len Fc
 refine Rg_op rfl (op_move (v := (Value.int .i64 0)) rfl ?_)
 refine Rg_nil (Wp_block ?_)
 refine Wp_reset [] [(2, (Value.slice Ad slots.length Cd)), (3, (Value.pointer (some ⟨b1, 0, none⟩))), (7, (Value.slice (some ⟨b7, 0, none⟩) (List.replicate 8 (0 : Int)).length 8)), (11, (Value.slice Ac flights.length Cc)), (12, (Value.int .i64 (flights.length : Int))), (13, (Value.int .i64 0))] rfl ⟨rfl, rfl, rfl, rfl, rfl, rfl, trivial⟩ fun ξ17 => ?_
 refine Wp_loopM [7, 8, 9, 13, 14, 15, 16, 17, 18, 19, 20, 21, 22, 23, 24, 25, 26, 27, 28, 29, 30, 31, 32, 33, 34, 35, 36, 37, 38, 39] (fun m fr w' => ∃ (out_1 : List Int) (v_1 : Int) (Ae : Option Addr) (Ce : Nat) (k_g15 : Option Nat) (o_g15 : Obj) (Ebs : Ents), Ebs = [(k_g15, o_g15), (some b1, Obj.cells [(Value.int .i64 r_.slots), (Value.slice Aa r_.owners.length Ca), (Value.slice Ab r_.costs.length Cb)].toArray 25)] ∧ fr [] [(7, (Value.slice Ae out_1.length Ce)), (13, (Value.int .i64 v_1))] ∧ Step (ks [(some b7, Obj.cells (List.replicate 8 (Value.int .i64 0)).toArray 3), (some b1, Obj.cells [(Value.int .i64 r_.slots), (Value.slice Aa r_.owners.length Ca), (Value.slice Ab r_.costs.length Cb)].toArray 25)] O) w8 (ks Ebs O) w' ∧ St ⟨w, [], []⟩ O w' Ebs ∧ Gs (rInt .i64) 3 w' (ks Ebs O) Ae Ce out_1 k_g15 o_g15 ∧ InK .i64 v_1 ∧ loop2 (m46_coalition_costs_B0 r_ flights slots) m out_1 v_1 = some x) (((flights.length : Int) - 0).toNat + 1) ⟨(List.replicate 8 (0 : Int)), 0, (some ⟨b7, 0, none⟩), 8, (some b7), (Obj.cells (List.replicate 8 (Value.int .i64 0)).toArray 3), _, rfl, ⟨Out.refl _ _, rfl, rfl, rfl, trivial⟩, Step.refl _ _, hs10, f11, (show InK .i64 0 from by decide), hm⟩ ?_ ?_
 rintro _ _ ⟨_, _, _, _, _, _, _, _, _, _, _, _, _, hm⟩; exact loop2_z hm
 rintro m21 K20 hK20 ρ26 w22 ⟨out_1, v_1, Ae, Ce, k_g15, o_g15, Ebs, hEbs, hfr25, hst24, hs23, Fe, Rb, hm⟩
 obtain ⟨sf18, hsf19, hm⟩ := loop2_s hm; unfold m46_coalition_costs_B0 at hm
 subst hEbs; rw [hfr25.eq]; clear hfr25
 replace Fa := Fa.step hst24; replace Fb := Fb.step hst24; replace Fc := Fc.step hst24; replace Fd := Fd.step hst24; replace f11 := f11.step hst24
 have ch27 := hst24
 refine Wp_seq ?_
 clear f11
 refine Wp_region ?_
 refine Rg_op rfl (op_lss rfl rfl ?_)
 refine Rg_nil (Wp_seq ?_)
 refine Wp_cond rfl (fun hc28 => ?_) (fun hc28 => ?_)
 replace hm := bif_t hm hc28
 refine Wp_skip (Wp_seq (Wp_block (Wp_seq (Wp_region ?_))))
 refine Rg_op rfl (op_move (v := (Value.int .i64 v_1)) rfl ?_)
 replace hm := ck_some hm; obtain ⟨hc29, hm⟩ := hm
 refine Rg_op rfl (op_indexAddr (q := (rInt .i64)) ty22 ty3 rfl rfl Fc rfl hc29.1 hc29.2 ?_)
 intro p30 f31
 refine Rg_op rfl (op_loadP ty3 rfl f31 rfl ?_)
 intro v32 h33
 obtain ⟨rfl, Rc⟩ := un_int h33
 refine Rg_op rfl (op_assign (v := (Value.int .i64 v_1)) rfl ?_)
 refine Rg_op rfl (op_assign (v := (Value.int .i64 (flights.getD v_1.toNat default))) rfl ?_)
 refine Rg_nil ?_
 clear f31
 refine Wp_drawR (g0 := []) (m := 19) (fl := []) (TS_inv hs23) rfl (.inl rfl) rfl (by decide +kernel) ?_  -- 5
 refine Dw_eq (Value.slice Ae out_1.length Ce) (fun ρ35 w36 g hle hi ht => ?_) ?_
 obtain ⟨-, hst, -⟩ := hle
 refine StepOp_plain (op_move (v := (Value.slice Ae out_1.length Ce)) (ht 7 rfl) ?_)
 exact Goes.same hi rfl
 refine Dw_eq (Value.pointer (some ⟨b1, 1, none⟩)) (fun ρ38 w39 g hle hi ht => ?_) ?_
 obtain ⟨-, hst, -⟩ := hle
 refine StepOp_plain (op_fieldAddr ty25 rfl ty22 (by decide) (ht 3 rfl) (rfl : _ = (⟨_, 1, none⟩ : Addr)) ?_)
 exact Goes.same hi rfl
 refine Dw_eq (Value.slice Aa r_.owners.length Ca) (fun ρ41 w42 g hle hi ht => ?_) ?_
 obtain ⟨-, hst, -⟩ := hle
 have hsn := (Step.nx hi).1
 refine StepOp_plain (op_load (cs := [(Value.int .i64 r_.slots), (Value.slice Aa r_.owners.length Ca), (Value.slice Ab r_.costs.length Cb)]) (i := 1) ty22 hsn (ht 19 rfl) rfl rfl ?_)
 exact Goes.same hi rfl
 refine Dw_eq (Value.int .i64 (flights.getD v_1.toNat default)) (fun ρ44 w45 g hle hi ht => ?_) ?_
 obtain ⟨-, hst, -⟩ := hle
 refine StepOp_plain (op_move (v := (Value.int .i64 (flights.getD v_1.toNat default))) (ht 9 rfl) ?_)
 exact Goes.same hi rfl
 replace hm := ck_some hm; obtain ⟨hc50, hm⟩ := hm
 refine Dw_op (VP O [(k_g15, o_g15), (some b1, Obj.cells [(Value.int .i64 r_.slots), (Value.slice Aa r_.owners.length Ca), (Value.slice Ab r_.costs.length Cb)].toArray 25)] (rInt .i64) (r_.owners.getD (flights.getD v_1.toNat default).toNat default)) (VP.stab _ _) (fun ρ47 w48 g hle hi ht => ?_) ?_
 obtain ⟨-, hst, -⟩ := hle
 replace Fa := Fa.step hst
 refine StepOp_plain (op_indexAddr (q := (rInt .i64)) ty22 ty3 (ht 20 rfl) (ht 21 rfl) Fa rfl hc50.1 hc50.2 ?_)
 intro p51 f52
 exact Goes.same hi ⟨_, rfl, f52⟩
 refine Dw_op (VD O [(k_g15, o_g15), (some b1, Obj.cells [(Value.int .i64 r_.slots), (Value.slice Aa r_.owners.length Ca), (Value.slice Ab r_.costs.length Cb)].toArray 25)] (vI .i64) (r_.owners.getD (flights.getD v_1.toNat default).toNat default)) (VD.stab _ _) (fun ρ53 w54 g hle hi ht => ?_) ?_
 obtain ⟨-, hst, -⟩ := hle
 obtain ⟨p56, q57, f58⟩ := ht 22 rfl
 refine StepOp_plain (op_loadP ty3 q57 f58 rfl ?_)
 intro v59 h60
 obtain ⟨rfl, Rd⟩ := un_int h60
 exact Goes.same hi (show Vr.vd (vI .i64) _ _ _ _ from ⟨rfl, Rd⟩)
 replace hm := ck_some hm; obtain ⟨hc68, hm⟩ := hm
 obtain ⟨b69, rfl, rfl⟩ := Fe.at_ (by omega)
 refine Dw_eq (Value.pointer (some ⟨b69, (r_.owners.getD (flights.getD v_1.toNat default).toNat default).toNat * 1, none⟩)) (fun ρ62 w63 g hle hi ht => ?_) ?_
 obtain ⟨-, hst, -⟩ := hle
 replace Fe := Fe.step hst
 have h65 : Vr.vd (vI .i64) _ _ _ _ := ht 23 rfl
 obtain ⟨q66, Re⟩ := h65
 refine StepOp_plain (op_indexAddrG ty22 ty3 (ht 18 rfl) q66 Fe hc68 ?_)
 rintro _ ⟨⟩ -
 exact Goes.same hi rfl
 refine Dw_op (VD O [(some b69, o_g15), (some b1, Obj.cells [(Value.int .i64 r_.slots), (Value.slice Aa r_.owners.length Ca), (Value.slice Ab r_.costs.length Cb)].toArray 25)] (vI .i64) (out_1.getD (r_.owners.getD (flights.getD v_1.toNat default).toNat default).toNat default)) (VD.stab _ _) (fun ρ70 w71 g hle hi ht => ?_) ?_
 obtain ⟨-, hst, -⟩ := hle
 replace Fe := Fe.step hst
 have hsn := (Step.nx hi).1
 refine StepOp_plain (op_loadG (m := (r_.owners.getD (flights.getD v_1.toNat default).toNat default)) (i := 0) ty3 rfl hsn rfl (ht 24 rfl) Fe hc68 ?_)
 intro v73 h74
 obtain ⟨rfl, Rf⟩ := un_int h74
 exact Goes.same hi (show Vr.vd (vI .i64) _ _ _ _ from ⟨rfl, Rf⟩)
 refine Dw_eq (Value.pointer (some ⟨b1, 2, none⟩)) (fun ρ76 w77 g hle hi ht => ?_) ?_
 obtain ⟨-, hst, -⟩ := hle
 refine StepOp_plain (op_fieldAddr ty25 rfl ty23 (by decide) (ht 3 rfl) (rfl : _ = (⟨_, 2, none⟩ : Addr)) ?_)
 exact Goes.same hi rfl
 refine Dw_eq (Value.slice Ab r_.costs.length Cb) (fun ρ79 w80 g hle hi ht => ?_) ?_
 obtain ⟨-, hst, -⟩ := hle
 have hsn := (Step.nx hi).1
 refine StepOp_plain (op_load (cs := [(Value.int .i64 r_.slots), (Value.slice Aa r_.owners.length Ca), (Value.slice Ab r_.costs.length Cb)]) (i := 1) ty23 hsn (ht 26 rfl) rfl rfl ?_)
 exact Goes.same hi rfl
 refine Dw_eq (Value.int .i64 (flights.getD v_1.toNat default)) (fun ρ82 w83 g hle hi ht => ?_) ?_
 obtain ⟨-, hst, -⟩ := hle
 refine StepOp_plain (op_move (v := (Value.int .i64 (flights.getD v_1.toNat default))) (ht 9 rfl) ?_)
 exact Goes.same hi rfl
 replace hm := ck_some hm; obtain ⟨hc88, hm⟩ := hm
 refine Dw_op (VP O [(some b69, o_g15), (some b1, Obj.cells [(Value.int .i64 r_.slots), (Value.slice Aa r_.owners.length Ca), (Value.slice Ab r_.costs.length Cb)].toArray 25)] (rSl (rInt .i64)) (r_.costs.getD (flights.getD v_1.toNat default).toNat default)) (VP.stab _ _) (fun ρ85 w86 g hle hi ht => ?_) ?_
 obtain ⟨-, hst, -⟩ := hle
 replace Fb := Fb.step hst
 refine StepOp_plain (op_indexAddr (q := (rSl (rInt .i64))) ty23 ty22 (ht 27 rfl) (ht 28 rfl) Fb rfl hc88.1 hc88.2 ?_)
 intro p89 f90
 exact Goes.same hi ⟨_, rfl, f90⟩
 refine Dw_op (VD O [(some b69, o_g15), (some b1, Obj.cells [(Value.int .i64 r_.slots), (Value.slice Aa r_.owners.length Ca), (Value.slice Ab r_.costs.length Cb)].toArray 25)] (vC (rSl (rInt .i64))) (r_.costs.getD (flights.getD v_1.toNat default).toNat default)) (VD.stab _ _) (fun ρ91 w92 g hle hi ht => ?_) ?_
 obtain ⟨-, hst, -⟩ := hle
 obtain ⟨p94, q95, f96⟩ := ht 29 rfl
 refine StepOp_plain (op_loadP ty22 q95 f96 rfl ?_)
 intro v97 h98
 obtain ⟨Af, Cf, rfl, Ff⟩ := un_sl h98
 exact Goes.same hi (show Vr.vd (vC (rSl (rInt .i64))) _ _ _ _ from (mkC (mk_sl Ff)))
 refine Dw_eq (Value.slice Ad slots.length Cd) (fun ρ100 w101 g hle hi ht => ?_) ?_
 obtain ⟨-, hst, -⟩ := hle
 refine StepOp_plain (op_move (v := (Value.slice Ad slots.length Cd)) (ht 2 rfl) ?_)
 exact Goes.same hi rfl
 refine Dw_eq (Value.int .i64 v_1) (fun ρ103 w104 g hle hi ht => ?_) ?_
 obtain ⟨-, hst, -⟩ := hle
 refine StepOp_plain (op_move (v := (Value.int .i64 v_1)) (ht 8 rfl) ?_)
 exact Goes.same hi rfl
 replace hm := ck_some hm; obtain ⟨hc109, hm⟩ := hm
 refine Dw_op (VP O [(some b69, o_g15), (some b1, Obj.cells [(Value.int .i64 r_.slots), (Value.slice Aa r_.owners.length Ca), (Value.slice Ab r_.costs.length Cb)].toArray 25)] (rInt .i64) (slots.getD v_1.toNat default)) (VP.stab _ _) (fun ρ106 w107 g hle hi ht => ?_) ?_
 obtain ⟨-, hst, -⟩ := hle
 replace Fd := Fd.step hst
 refine StepOp_plain (op_indexAddr (q := (rInt .i64)) ty22 ty3 (ht 31 rfl) (ht 32 rfl) Fd rfl hc109.1 hc109.2 ?_)
 intro p110 f111
 exact Goes.same hi ⟨_, rfl, f111⟩
 refine Dw_op (VD O [(some b69, o_g15), (some b1, Obj.cells [(Value.int .i64 r_.slots), (Value.slice Aa r_.owners.length Ca), (Value.slice Ab r_.costs.length Cb)].toArray 25)] (vI .i64) (slots.getD v_1.toNat default)) (VD.stab _ _) (fun ρ112 w113 g hle hi ht => ?_) ?_
 obtain ⟨-, hst, -⟩ := hle
 obtain ⟨p115, q116, f117⟩ := ht 33 rfl
 refine StepOp_plain (op_loadP ty3 q116 f117 rfl ?_)
 intro v118 h119
 obtain ⟨rfl, Rg⟩ := un_int h119
 exact Goes.same hi (show Vr.vd (vI .i64) _ _ _ _ from ⟨rfl, Rg⟩)
 replace hm := ck_some hm; obtain ⟨hc130, hm⟩ := hm
 refine Dw_op (VP O [(some b69, o_g15), (some b1, Obj.cells [(Value.int .i64 r_.slots), (Value.slice Aa r_.owners.length Ca), (Value.slice Ab r_.costs.length Cb)].toArray 25)] (rInt .i64) ((r_.costs.getD (flights.getD v_1.toNat default).toNat default).getD (slots.getD v_1.toNat default).toNat default)) (VP.stab _ _) (fun ρ121 w122 g hle hi ht => ?_) ?_
 obtain ⟨-, hst, -⟩ := hle
 have h124 : Vr.vd (vI .i64) _ _ _ _ := ht 34 rfl
 obtain ⟨q125, Rh⟩ := h124
 have h127 : Vr.vd (vC (rSl (rInt .i64))) _ _ _ _ := ht 30 rfl
 obtain ⟨Ag, Cg, q128, Fg⟩ := un_sl h127
 refine StepOp_plain (op_indexAddr (q := (rInt .i64)) ty22 ty3 q128 q125 Fg rfl hc130.1 hc130.2 ?_)
 intro p131 f132
 exact Goes.same hi ⟨_, rfl, f132⟩
 refine Dw_op (VD O [(some b69, o_g15), (some b1, Obj.cells [(Value.int .i64 r_.slots), (Value.slice Aa r_.owners.length Ca), (Value.slice Ab r_.costs.length Cb)].toArray 25)] (vI .i64) ((r_.costs.getD (flights.getD v_1.toNat default).toNat default).getD (slots.getD v_1.toNat default).toNat default)) (VD.stab _ _) (fun ρ133 w134 g hle hi ht => ?_) ?_
 obtain ⟨-, hst, -⟩ := hle
 obtain ⟨p136, q137, f138⟩ := ht 35 rfl
 refine StepOp_plain (op_loadP ty3 q137 f138 rfl ?_)
 intro v139 h140
 obtain ⟨rfl, Ri⟩ := un_int h140
 exact Goes.same hi (show Vr.vd (vI .i64) _ _ _ _ from ⟨rfl, Ri⟩)
 refine Dw_nil fun w146 g147 hl148 hi149 => ?_
 obtain ⟨-, hst150, -⟩ := hl148
 obtain ⟨hs152, p151⟩ := Step.nx hi149
 rintro v153 h154
 replace h154 : Vr.vd (vI .i64) _ _ _ _ := h154
 obtain ⟨rfl, Rj⟩ := h154
 rintro _ ⟨p156, rfl, f157⟩
 rintro v158 h159
 replace h159 : Vr.vd (vI .i64) _ _ _ _ := h159
 obtain ⟨rfl, Rk⟩ := h159
 rintro _ ⟨p161, rfl, f162⟩
 rintro _ rfl
 rintro _ rfl
 rintro v163 h164
 replace h164 : Vr.vd (vC (rSl (rInt .i64))) _ _ _ _ := h164
 obtain ⟨Ah, Ch, rfl, Fh⟩ := un_sl h164
 rintro _ ⟨p166, rfl, f167⟩
 rintro _ rfl
 rintro _ rfl
 rintro _ rfl
 rintro v168 h169
 replace h169 : Vr.vd (vI .i64) _ _ _ _ := h169
 obtain ⟨rfl, Rl⟩ := h169
 rintro _ rfl
 rintro v171 h172
 replace h172 : Vr.vd (vI .i64) _ _ _ _ := h172
 obtain ⟨rfl, Rm⟩ := h172
 rintro _ ⟨p174, rfl, f175⟩
 rintro _ rfl
 rintro _ rfl
 rintro _ rfl
 rintro _ rfl
 have p176 : Step (ks [(some b69, o_g15), (some b1, Obj.cells [(Value.int .i64 r_.slots), (Value.slice Aa r_.owners.length Ca), (Value.slice Ab r_.costs.length Cb)].toArray 25)] O) w22 (ks [(some b69, o_g15), (some b1, Obj.cells [(Value.int .i64 r_.slots), (Value.slice Aa r_.owners.length Ca), (Value.slice Ab r_.costs.length Cb)].toArray 25)] O) w146 := hst150.trans p151
 replace f157 := f157.step p151; replace f162 := f162.step p151; replace Fh := Fh.step p151; replace f167 := f167.step p151; replace f175 := f175.step p151; replace Fa := Fa.step p176; replace Fb := Fb.step p176; replace Fc := Fc.step p176; replace Fd := Fd.step p176; replace Fe := Fe.step p176; replace ch27 := ch27.trans p176; clear p176 hs23
 refine Rg_op rfl (op_addw rfl rfl ?_)
 replace hm := ck_some hm; obtain ⟨hc177, hm⟩ := hm
 refine Rg_op rfl (op_indexAddrG ty22 ty3 rfl rfl Fe hc177 ?_)
 rintro _ ⟨⟩ -
 refine Rg_op_ (op_storeG (vs := [(Value.int .i64 (IntKind.wrap .i64 ((out_1.getD (r_.owners.getD (flights.getD v_1.toNat default).toNat default).toNat default) + ((r_.costs.getD (flights.getD v_1.toNat default).toNat default).getD (slots.getD v_1.toNat default).toNat default))))]) (i := 0) (m := (r_.owners.getD (flights.getD v_1.toNat default).toNat default)) ty3 rfl hs152 rfl rfl rfl rfl Fe hc177 (mk_int (inK_wrap .i64 _)) ?_)
 intro w179 o182 p180 hs181 f183
 replace Fa := Fa.step p180; replace Fb := Fb.step p180; replace Fc := Fc.step p180; replace Fd := Fd.step p180; replace f157 := f157.step p180; replace f162 := f162.step p180; replace Fh := Fh.step p180; replace f167 := f167.step p180; replace f175 := f175.step p180; replace ch27 := ch27.trans p180; clear p180 hs152
 refine Rg_nil ?_
 clear f157 f162 Fh f167 f175
 refine Wp_region ?_
 refine Rg_op rfl (op_addw rfl rfl ?_)
 refine Rg_op rfl (op_move (v := (Value.int .i64 (IntKind.wrap .i64 (v_1 + 1)))) rfl ?_)
 refine Rg_nil ?_
 exact hK20 _ _ ⟨(out_1.set (r_.owners.getD (flights.getD v_1.toNat default).toNat default).toNat (IntKind.wrap .i64 ((out_1.getD (r_.owners.getD (flights.getD v_1.toNat default).toNat default).toNat default) + ((r_.costs.getD (flights.getD v_1.toNat default).toNat default).getD (slots.getD v_1.toNat default).toNat default)))), (IntKind.wrap .i64 (v_1 + 1)), (some ⟨b69, 0, none⟩), Ce, (some b69), o182, _, rfl, ⟨(by repeat (first | with_reducible exact Out.refl _ _ | refine Out.upd ?_ rfl | refine Out.updL ?_ rfl | refine Out.mix' ?_ rfl | exact Out.refl _ _)), rfl, (eqlenV (show out_1.length = (out_1.set (r_.owners.getD (flights.getD v_1.toNat default).toNat default).toNat (IntKind.wrap .i64 ((out_1.getD (r_.owners.getD (flights.getD v_1.toNat default).toNat default).toNat default) + ((r_.costs.getD (flights.getD v_1.toNat default).toNat default).getD (slots.getD v_1.toNat default).toNat default)))).length from by first | (simp; done) | (simp; omega))), rfl, trivial⟩, ch27, hs181, f183, (inK_wrap .i64 _), jnE2 hsf19 hm⟩
 replace hm := bif_f hm hc28
 refine Wp_exit (Wp_seq ?_)
 obtain ⟨hs184, p185⟩ := hs23.sub (bs' := [(k_g15, o_g15)]) (.cons_cons _ (.cons _ List.Sublist.slnil))
 clear Fa Fb Fc Fd
 replace Fe := Fe.step p185; replace ch27 := ch27.trans p185; clear p185 hs23
 refine Wp_region ?_
 refine Rg_op rfl (op_move (v := (Value.slice Ae out_1.length Ce)) rfl ?_)
 refine Rg_op rfl (op_assign (v := (Value.slice Ae out_1.length Ce)) rfl ?_)
 refine Rg_nil ?_
 refine Wp_ret ?_
 refine ⟨_, (show Closes [] _ _ from rfl), [(Value.slice Ae out_1.length Ce)], ⟨rfl, trivial⟩, hs184.ext, ?_⟩
 exact OkG.mk (i := 0) hs184 rfl Fe (Option.some.inj hm)
theorem c46_coalition_costs {w : World} {O : List Nat} {r_ : XRound} {flights : List Int} {slots : List Int} {Aa : Option Addr} {Ca : Nat} {Ab : Option Addr} {Cb : Nat} {Ac : Option Addr} {Cc : Nat} {Ad : Option Addr} {Cd : Nat} (hO : ∀ k ∈ O, k < w.heap.size) (Ra : InK .i64 r_.slots) (Fa : SlR (rInt .i64) w O Aa Ca r_.owners) (Fb : SlR (rSl (rInt .i64)) w O Ab Cb r_.costs) (Fc : SlR (rInt .i64) w O Ac Cc flights) (Fd : SlR (rInt .i64) w O Ad Cd slots) {x : (List Int)} (hm : m46_coalition_costs r_ flights slots = some x) :
 Ok Try.prog 46 [(Value.agg [(Value.int .i64 r_.slots), (Value.slice Aa r_.owners.length Ca), (Value.slice Ab r_.costs.length Cb)].toArray), (Value.slice Ac flights.length Cc), (Value.slice Ad slots.length Cd)] w O (vC (rSl (rInt .i64))) x :=
 (g46_coalition_costs hO Ra Fa Fb Fc Fd hm).ok hO

def m47_coalition_own_B0 (r_ : XRound) (sf11 : (List Int) → Int → Option (List Int)) (l_1 : List Int) (v_1 : Int) : Option (List Int) :=
 bif (decide (v_1 < (r_.owners.length : Int))) then
  ck ((l_1.length + [v_1].length) * 8 ≤ 140737488355328) <|
  sf11 (l_1 ++ [v_1]) (IntKind.wrap .i64 (v_1 + 1))
 else
  some l_1

def m47_coalition_own (r_ : XRound) : Option (List Int) :=
 loop2 (m47_coalition_own_B0 r_) (((r_.owners.length : Int) - 0).toNat + 1) ([] : List Int) 0

theorem g47_coalition_own {w : World} {O : List Nat} {r_ : XRound} {Aa : Option Addr} {Ca : Nat} {Ab : Option Addr} {Cb : Nat} (hO : ∀ k ∈ O, k < w.heap.size) (Ra : InK .i64 r_.slots) (Fa : SlR (rInt .i64) w O Aa Ca r_.owners) (Fb : SlR (rSl (rInt .i64)) w O Ab Cb r_.costs) {x : (List Int)} (hm : m47_coalition_own r_ = some x) :
 OkG Try.prog 47 [(Value.agg [(Value.int .i64 r_.slots), (Value.slice Aa r_.owners.length Ca), (Value.slice Ab r_.costs.length Cb)].toArray)] w O (rInt .i64) 3 x := by
 unfold m47_coalition_own at hm
 refine Fn_of_Wp (n := 16) (xs := [.tmp 2]) Try.func47 rfl Try.ntmps47 Try.results47 rfl ?_
 have hs := St.start hO
 refine Wp_seq (Wp_region ?_)
 refine Rg_op rfl (op_box (cs := [(Value.int .i64 r_.slots), (Value.slice Aa r_.owners.length Ca), (Value.slice Ab r_.costs.length Cb)]) hs rfl rfl ?_)
 intro b1 w2 _ p3 hs4
 replace Fa := Fa.step p3; replace Fb := Fb.step p3; clear p3
 refine Rg_op rfl (op_assign (v := (Value.slice none 0 0)) rfl ?_)
 refine Rg_nil (Wp_seq (Wp_seq (Wp_region ?_)))
 refine Rg_op rfl (op_fieldAddr ty25 rfl ty22 (by decide) rfl (rfl : _ = (⟨_, 1, none⟩ : Addr)) ?_)
 refine Rg_op rfl (op_load (cs := [(Value.int .i64 r_.slots), (Value.slice Aa r_.owners.length Ca), (Value.slice Ab r_.costs.length Cb)]) (i := 0) ty22 hs4 rfl rfl rfl ?_)
 refine Rg_op rfl (op_len Try.underlying22 rfl ?_)
 have rl6 := inK_len Fa
 refine Rg_op rfl (op_move (v := (Value.int .i64 0)) rfl ?_)
 refine Rg_nil (Wp_block ?_)
 refine Wp_reset [] [(2, (Value.slice none 0 0)), (6, (Value.int .i64 (r_.owners.length : Int))), (7, (Value.int .i64 0))] rfl ⟨rfl, rfl, rfl, trivial⟩ fun ξ10 => ?_
 have hs15 := hs4.ghost (Obj.cells #[] 3)
 refine Wp_loopM [2, 3, 7, 8, 9, 10, 11, 12, 13, 14] (fun m fr w' => ∃ (l_1 : List Int) (v_1 : Int) (Ac : Option Addr) (Cc : Nat) (k_g8 : Option Nat) (o_g8 : Obj) (Ebs : Ents), Ebs = [(k_g8, o_g8), (some b1, Obj.cells [(Value.int .i64 r_.slots), (Value.slice Aa r_.owners.length Ca), (Value.slice Ab r_.costs.length Cb)].toArray 25)] ∧ fr [] [(2, (Value.slice Ac l_1.length Cc)), (7, (Value.int .i64 v_1))] ∧ Step (ks [(none, (Obj.cells #[] 3)), (some b1, Obj.cells [(Value.int .i64 r_.slots), (Value.slice Aa r_.owners.length Ca), (Value.slice Ab r_.costs.length Cb)].toArray 25)] O) w2 (ks Ebs O) w' ∧ St ⟨w, [], []⟩ O w' Ebs ∧ Gs (rInt .i64) 3 w' (ks Ebs O) Ac Cc l_1 k_g8 o_g8 ∧ InK .i64 v_1 ∧ loop2 (m47_coalition_own_B0 r_) m l_1 v_1 = some x) (((r_.owners.length : Int) - 0).toNat + 1) ⟨([] : List Int), 0, none, 0, none, (Obj.cells #[] 3), _, rfl, ⟨Out.refl _ _, rfl, rfl, rfl, trivial⟩, Step.refl _ _, hs15, Gs.nil_, (show InK .i64 0 from by decide), hm⟩ ?_ ?_
 rintro _ _ ⟨_, _, _, _, _, _, _, _, _, _, _, _, _, hm⟩; exact loop2_z hm
 rintro m14 K13 hK13 ρ21 w17 ⟨l_1, v_1, Ac, Cc, k_g8, o_g8, Ebs, hEbs, hfr20, hst19, hs18, Fc, Rb, hm⟩
 obtain ⟨sf11, hsf12, hm⟩ := loop2_s hm; unfold m47_coalition_own_B0 at hm
 subst hEbs; rw [hfr20.eq]; clear hfr20
 replace Fa := Fa.step hst19; replace Fb := Fb.step hst19
 have ch22 := hst19
 refine Wp_seq (Wp_region ?_)
 refine Rg_op rfl (op_lss rfl rfl ?_)
 refine Rg_nil (Wp_seq ?_)
 refine Wp_cond rfl (fun hc23 => ?_) (fun hc23 => ?_)
 replace hm := bif_t hm hc23
 refine Wp_skip (Wp_seq (Wp_block (Wp_seq (Wp_region ?_))))
 refine Rg_op rfl (op_move (v := (Value.int .i64 v_1)) rfl ?_)
 refine Rg_op rfl (op_assign (v := (Value.int .i64 v_1)) rfl ?_)
 refine Rg_nil (Wp_region ?_)
 refine Rg_op rfl (op_move (v := (Value.slice Ac l_1.length Cc)) rfl ?_)
 refine Rg_op rfl (op_move (v := (Value.int .i64 v_1)) rfl ?_)
 refine Rg_op rfl (op_buildSlice (cs := [(Value.int .i64 v_1)]) (parts := [(0, .tmp 11)]) ty22 ty3 hs18 (by decide) rfl ?_)
 intro b24 w25 hx28 p26 hs27
 replace Fa := Fa.step p26; replace Fb := Fb.step p26; replace Fc := Fc.step p26; replace ch22 := ch22.trans p26; clear p26 hs18
 replace hm := ck_some hm; obtain ⟨hc30, hm⟩ := hm
 refine Rg_op rfl (op_append (q := (rInt .i64)) (i := 1) (xs := l_1) (ys := [v_1]) (news := [(Value.int .i64 v_1)]) ty22 ty3 rfl (by decide) hs27 rfl rfl Fc rfl (Src.owned' (len := 1) (hs27.get (i := 0) rfl) rfl) (show Els (rInt .i64) _ _ [(Value.int .i64 v_1)] [v_1] from ⟨_, _, rfl, (mk_int Rb), Els.nil⟩) hc30 (by have := hc30; simp only [maxLen]; omega) ?_)
 intro a34 c35 k36 o37 w31 p32 hs33 f38
 replace Fa := Fa.step p32; replace Fb := Fb.step p32; replace ch22 := ch22.trans p32; clear p32 hs27
 have hs39 := hs33.drop 0
 replace Fa := Fa.step (hs33.dropS 0)
 replace Fb := Fb.step (hs33.dropS 0)
 replace f38 := f38.step (hs33.dropS 0)
 replace ch22 := ch22.trans (hs33.dropS 0); clear hs33
 refine Rg_op rfl (op_assign (v := (Value.slice a34 (l_1 ++ [v_1]).length c35)) rfl ?_)
 refine Rg_nil (Wp_region ?_)
 refine Rg_op rfl (op_addw rfl rfl ?_)
 refine Rg_op rfl (op_move (v := (Value.int .i64 (IntKind.wrap .i64 (v_1 + 1)))) rfl ?_)
 refine Rg_nil ?_
 exact hK13 _ _ ⟨(l_1 ++ [v_1]), (IntKind.wrap .i64 (v_1 + 1)), a34, c35, k36, o37, _, rfl, ⟨(by repeat (first | with_reducible exact Out.refl _ _ | refine Out.upd ?_ rfl | refine Out.updL ?_ rfl | refine Out.mix' ?_ rfl | exact Out.refl _ _)), rfl, rfl, rfl, trivial⟩, ch22, hs39, f38, (inK_wrap .i64 _), jnE2 hsf12 hm⟩
 replace hm := bif_f hm hc23
 refine Wp_exit (Wp_seq ?_)
 obtain ⟨hs40, p41⟩ := hs18.sub (bs' := [(k_g8, o_g8)]) (.cons_cons _ (.cons _ List.Sublist.slnil))
 clear Fa Fb
 replace Fc := Fc.step p41; replace ch22 := ch22.trans p41; clear p41 hs18
 refine Wp_region ?_
 refine Rg_op rfl (op_move (v := (Value.slice Ac l_1.length Cc)) rfl ?_)
 refine Rg_op rfl (op_assign (v := (Value.slice Ac l_1.length Cc)) rfl ?_)
 refine Rg_nil ?_
 refine Wp_ret ?_
 refine ⟨_, (show Closes [] _ _ from rfl), [(Value.slice Ac l_1.length Cc)], ⟨rfl, trivial⟩, hs40.ext, ?_⟩
 exact OkG.mk (i := 0) hs40 rfl Fc (Option.some.inj hm)
theorem c47_coalition_own {w : World} {O : List Nat} {r_ : XRound} {Aa : Option Addr} {Ca : Nat} {Ab : Option Addr} {Cb : Nat} (hO : ∀ k ∈ O, k < w.heap.size) (Ra : InK .i64 r_.slots) (Fa : SlR (rInt .i64) w O Aa Ca r_.owners) (Fb : SlR (rSl (rInt .i64)) w O Ab Cb r_.costs) {x : (List Int)} (hm : m47_coalition_own r_ = some x) :
 Ok Try.prog 47 [(Value.agg [(Value.int .i64 r_.slots), (Value.slice Aa r_.owners.length Ca), (Value.slice Ab r_.costs.length Cb)].toArray)] w O (vC (rSl (rInt .i64))) x :=
 (g47_coalition_own hO Ra Fa Fb hm).ok hO

def m22_coalition_Costs (r_ : XRound) (slots : List Int) : Option ((List Int) × Int) :=
 (m45_coalition_check r_ slots).bind fun check_1 =>
 bif (decide (check_1 ≠ 0)) then
  some (([] : List Int), check_1)
 else
  (m47_coalition_own r_).bind fun own_1 =>
  (m46_coalition_costs r_ own_1 slots).bind fun costs_1 =>
  some (costs_1, 0)

theorem c22_coalition_Costs {w : World} {O : List Nat} {r_ : XRound} {slots : List Int} {Aa : Option Addr} {Ca : Nat} {Ab : Option Addr} {Cb : Nat} {Ac : Option Addr} {Cc : Nat} (hO : ∀ k ∈ O, k < w.heap.size) (Ra : InK .i64 r_.slots) (Fa : SlR (rInt .i64) w O Aa Ca r_.owners) (Fb : SlR (rSl (rInt .i64)) w O Ab Cb r_.costs) (Fc : SlR (rInt .i64) w O Ac Cc slots) {x : (List Int) × Int} (hm : m22_coalition_Costs r_ slots = some x) :
 Ok Try.prog 22 [(Value.agg [(Value.int .i64 r_.slots), (Value.slice Aa r_.owners.length Ca), (Value.slice Ab r_.costs.length Cb)].toArray), (Value.slice Ac slots.length Cc)] w O (vT2 (vC (rSl (rInt .i64))) (vI .i64)) x := by
 unfold m22_coalition_Costs at hm
 refine Fn_of_Wp (n := 18) (xs := [.tmp 4, .tmp 5]) Try.func22 rfl Try.ntmps22 Try.results22 rfl ?_
 have hs := St.start hO
 refine Wp_seq (Wp_region ?_)
 refine Rg_op rfl (op_box (cs := [(Value.int .i64 r_.slots), (Value.slice Aa r_.owners.length Ca), (Value.slice Ab r_.costs.length Cb)]) hs rfl rfl ?_)
 intro b1 w2 _ p3 hs4
 replace Fa := Fa.step p3; replace Fb := Fb.step p3; replace Fc := Fc.step p3; clear p3
 refine Rg_op rfl (op_assign (v := (Value.slice none 0 0)) rfl ?_)
 refine Rg_op rfl (op_assign (v := (Value.int .i64 0)) rfl ?_)
 refine Rg_nil (Wp_seq (Wp_seq (Wp_region ?_)))
 refine Rg_op rfl (op_loadA (cs := [(Value.int .i64 r_.slots), (Value.slice Aa r_.owners.length Ca), (Value.slice Ab r_.costs.length Cb)]) (vs := [(Value.int .i64 r_.slots), (Value.slice Aa r_.owners.length Ca), (Value.slice Ab r_.costs.length Cb)]) (i := 0) ty25 hs4 rfl rfl rfl rfl ?_)
 refine Rg_op rfl (op_move (v := (Value.slice Ac slots.length Cc)) rfl ?_)
 replace hm := bd hm; obtain ⟨check_1, hv6, hm⟩ := hm
 refine Rg_op rfl (op_call Try.call45 (c45_coalition_check (r_ := r_) (slots := slots) hs4.ltw Ra Fa Fb Fc hv6) rfl ?_)
 rintro v7 w8 ⟨hx9, h10⟩
 have hs11 := hs4.call hx9
 have p12 := Step.ext (O := ks [(some b1, Obj.cells [(Value.int .i64 r_.slots), (Value.slice Aa r_.owners.length Ca), (Value.slice Ab r_.costs.length Cb)].toArray 25)] O) hx9
 clear hx9
 replace Fa := Fa.step p12; replace Fb := Fb.step p12; replace Fc := Fc.step p12; clear p12 hs4
 obtain ⟨rfl, Rb⟩ := h10
 refine Rg_op rfl (op_assign (v := (Value.int .i64 check_1)) rfl ?_)
 refine Rg_nil (Wp_seq (Wp_region ?_))
 refine Rg_op rfl (op_move (v := (Value.int .i64 check_1)) rfl ?_)
 refine Rg_op rfl (op_neq rfl rfl ?_)
 refine Rg_nil ?_
 refine Wp_cond rfl (fun hc14 => ?_) (fun hc14 => ?_)
 replace hm := bif_t hm hc14
 refine Wp_seq ?_
 obtain ⟨hs15, p16⟩ := hs11.sub (bs' := []) (.cons _ List.Sublist.slnil)
 clear Fa Fb Fc
 clear p16 hs11
 refine Wp_region ?_
 refine Rg_op rfl (op_move (v := (Value.int .i64 check_1)) rfl ?_)
 refine Rg_op rfl (op_assign (v := (Value.slice none 0 0)) rfl ?_)
 refine Rg_op rfl (op_assign (v := (Value.int .i64 check_1)) rfl ?_)
 refine Rg_nil ?_
 refine Wp_ret ?_
 have hz := step_all hs15
 refine ⟨_, (show Closes [] _ _ from rfl), [(Value.slice none 0 0), (Value.int .i64 check_1)], ⟨rfl, rfl, trivial⟩, hs15.ext, ?_⟩
 exact Vr.eq (a := (vT2 (vC (rSl (rInt .i64))) (vI .i64))) (x := (([] : List Int), check_1)) (mkT2 (mkC (mk_sl SlR.nil_)) ⟨rfl, Rb⟩) (Option.some.inj hm)
 replace hm := bif_f hm hc14
 refine Wp_skip (Wp_seq ?_)
 refine Wp_drawR (g0 := []) (m := 4) (fl := []) (TS_inv hs11) rfl (.inl rfl) rfl (by decide +kernel) ?_  -- 4
 refine Dw_eq (Value.agg [(Value.int .i64 r_.slots), (Value.slice Aa r_.owners.length Ca), (Value.slice Ab r_.costs.length Cb)].toArray) (fun ρ17 w18 g hle hi ht => ?_) ?_
 obtain ⟨-, hst, -⟩ := hle
 have hsn := (Step.nx hi).1
 refine StepOp_plain (op_loadA (cs := [(Value.int .i64 r_.slots), (Value.slice Aa r_.owners.length Ca), (Value.slice Ab r_.costs.length Cb)]) (vs := [(Value.int .i64 r_.slots), (Value.slice Aa r_.owners.length Ca), (Value.slice Ab r_.costs.length Cb)]) (i := 0) ty25 hsn (ht 2 rfl) rfl rfl rfl ?_)
 exact Goes.same hi rfl
 refine Dw_eq (Value.agg [(Value.int .i64 r_.slots), (Value.slice Aa r_.owners.length Ca), (Value.slice Ab r_.costs.length Cb)].toArray) (fun ρ20 w21 g hle hi ht => ?_) ?_
 obtain ⟨-, hst, -⟩ := hle
 have hsn := (Step.nx hi).1
 refine StepOp_plain (op_loadA (cs := [(Value.int .i64 r_.slots), (Value.slice Aa r_.owners.length Ca), (Value.slice Ab r_.costs.length Cb)]) (vs := [(Value.int .i64 r_.slots), (Value.slice Aa r_.owners.length Ca), (Value.slice Ab r_.costs.length Cb)]) (i := 0) ty25 hsn (ht 2 rfl) rfl rfl rfl ?_)
 exact Goes.same hi rfl
 replace hm := bd hm; obtain ⟨own_1, hv26, hm⟩ := hm
 refine Dw_op (VD O [(some b1, Obj.cells [(Value.int .i64 r_.slots), (Value.slice Aa r_.owners.length Ca), (Value.slice Ab r_.costs.length Cb)].toArray 25)] (vC (rSl (rInt .i64))) own_1) (VD.stab _ _) (fun ρ23 w24 g hle hi ht => ?_) ?_
 obtain ⟨-, hst, -⟩ := hle
 replace Fa := Fa.step hst; replace Fb := Fb.step hst
 refine StepOp_plain (op_call Try.call47 (c47_coalition_own (O := ks (ents g ++ [(some b1, Obj.cells [(Value.int .i64 r_.slots), (Value.slice Aa r_.owners.length Ca), (Value.slice Ab r_.costs.length Cb)].toArray 25)]) O) (r_ := r_) hi.ltw Ra Fa Fb hv26) (by simp only [List.map, Array.toList, (show ev _ (.tmp 14) = _ from (ht 14 rfl))] <;> rfl) ?_)
 rintro v27 w28 ⟨hx29, h30⟩
 exact Goes.call hi hx29 h30
 refine Dw_eq (Value.slice Ac slots.length Cc) (fun ρ32 w33 g hle hi ht => ?_) ?_
 obtain ⟨-, hst, -⟩ := hle
 refine StepOp_plain (op_move (v := (Value.slice Ac slots.length Cc)) (ht 1 rfl) ?_)
 exact Goes.same hi rfl
 refine Dw_nil fun w39 g40 hl41 hi42 => ?_
 obtain ⟨-, hst43, -⟩ := hl41
 obtain ⟨hs45, p44⟩ := Step.nx hi42
 rintro _ rfl
 rintro v46 h47
 replace h47 : Vr.vd (vC (rSl (rInt .i64))) _ _ _ _ := h47
 obtain ⟨Ad, Cd, rfl, Fd⟩ := un_sl h47
 rintro _ rfl
 rintro _ rfl
 have p49 : Step (ks [(some b1, Obj.cells [(Value.int .i64 r_.slots), (Value.slice Aa r_.owners.length Ca), (Value.slice Ab r_.costs.length Cb)].toArray 25)] O) w8 (ks [(some b1, Obj.cells [(Value.int .i64 r_.slots), (Value.slice Aa r_.owners.length Ca), (Value.slice Ab r_.costs.length Cb)].toArray 25)] O) w39 := hst43.trans p44
 replace Fd := Fd.step p44; replace Fa := Fa.step p49; replace Fb := Fb.step p49; replace Fc := Fc.step p49; clear p49 hs11
 replace hm := bd hm; obtain ⟨costs_1, hv50, hm⟩ := hm
 refine Rg_op rfl (op_call Try.call46 (g46_coalition_costs (r_ := r_) (flights := own_1) (slots := slots) hs45.ltw Ra Fa Fb Fd Fc hv50) rfl ?_)
 rintro _ w52 ⟨hx53, a56, c57, k58, o59, rfl, hk60, f61⟩
 obtain ⟨hs55, p62⟩ := hs45.callG (o := o59) hx53 hk60
 rw [← ks_cons (o := o59)] at f61
 replace Fa := Fa.step p62; replace Fb := Fb.step p62; replace Fc := Fc.step p62; replace Fd := Fd.step p62; clear p62 hs45
 refine Rg_op rfl (op_assign (v := (Value.slice a56 costs_1.length c57)) rfl ?_)
 refine Rg_op rfl (op_assign (v := (Value.int .i64 0)) rfl ?_)
 refine Rg_nil ?_
 refine Wp_ret ?_
 obtain ⟨hs65, p66, f64⟩ := Gs.publish (i := 0) hs55 rfl f61
 replace Fa := Fa.step p66; replace Fb := Fb.step p66; replace Fc := Fc.step p66; replace Fd := Fd.step p66; clear p66 hs55
 have hz := step_all hs65
 replace Fa := Fa.step hz; replace Fb := Fb.step hz; replace Fc := Fc.step hz; replace Fd := Fd.step hz; replace f64 := f64.step hz
 refine ⟨_, (show Closes [] _ _ from rfl), [(Value.slice a56 costs_1.length c57), (Value.int .i64 0)], ⟨rfl, rfl, trivial⟩, hs65.ext, ?_⟩
 exact Vr.eq (a := (vT2 (vC (rSl (rInt .i64))) (vI .i64))) (x := (costs_1, 0)) (mkT2 (mkC (mk_sl f64)) ⟨rfl, (show InK .i64 0 from by decide)⟩) (Option.some.inj hm)

def m30_clearing_value_B0 (r_ : XRound) (slots : List Int) (sf17 : (List Int) → Int → Option (List Int)) (v_1 : List Int) (v_2 : Int) : Option (List Int) :=
 bif (decide (v_2 < (slots.length : Int))) then
  ck ((0 : Int) ≤ v_2 ∧ v_2 < (slots.length : Int)) <|
  ck ((0 : Int) ≤ 0 ∧ 0 < (v_1.length : Int)) <|
  ck ((0 : Int) ≤ v_2 ∧ v_2 < (r_.costs.length : Int)) <|
  ck ((0 : Int) ≤ (slots.getD v_2.toNat default) ∧ (slots.getD v_2.toNat default) < ((r_.costs.getD v_2.toNat default).length : Int)) <|
  ck ((0 : Int) ≤ 0 ∧ 0 < (v_1.length : Int)) <|
  bif (decide ((slots.getD v_2.toNat default) ≠ v_2)) then
   ck ((0 : Int) ≤ 1 ∧ 1 < ((v_1.set 0 (IntKind.wrap .i64 ((v_1.getD 0 default) + ((r_.costs.getD v_2.toNat default).getD (slots.getD v_2.toNat default).toNat default)))).length : Int)) <|
   ck ((0 : Int) ≤ 1 ∧ 1 < ((v_1.set 0 (IntKind.wrap .i64 ((v_1.getD 0 default) + ((r_.costs.getD v_2.toNat default).getD (slots.getD v_2.toNat default).toNat default)))).length : Int)) <|
   sf17 ((v_1.set 0 (IntKind.wrap .i64 ((v_1.getD 0 default) + ((r_.costs.getD v_2.toNat default).getD (slots.getD v_2.toNat default).toNat default)))).set 1 (IntKind.wrap .i64 (((v_1.set 0 (IntKind.wrap .i64 ((v_1.getD 0 default) + ((r_.costs.getD v_2.toNat default).getD (slots.getD v_2.toNat default).toNat default)))).getD 1 default) + 1))) (IntKind.wrap .i64 (v_2 + 1))
  else
   sf17 (v_1.set 0 (IntKind.wrap .i64 ((v_1.getD 0 default) + ((r_.costs.getD v_2.toNat default).getD (slots.getD v_2.toNat default).toNat default)))) (IntKind.wrap .i64 (v_2 + 1))
 else
  some v_1

def m30_clearing_value (r_ : XRound) (slots : List Int) : Option (List Int) :=
 loop2 (m30_clearing_value_B0 r_ slots) (((slots.length : Int) - 0).toNat + 1) [0, 0] 0

theorem g30_clearing_value {w : World} {O : List Nat} {r_ : XRound} {slots : List Int} {Aa : Option Addr} {Ca : Nat} {Ab : Option Addr} {Cb : Nat} {Ac : Option Addr} {Cc : Nat} (hO : ∀ k ∈ O, k < w.heap.size) (Ra : InK .i64 r_.slots) (Fa : SlR (rInt .i64) w O Aa Ca r_.owners) (Fb : SlR (rSl (rInt .i64)) w O Ab Cb r_.costs) (Fc : SlR (rInt .i64) w O Ac Cc slots) {x : (List Int)} (hm : m30_clearing_value r_ slots = some x) :
 OkG Try.prog 30 [(Value.agg [(Value.int .i64 r_.slots), (Value.slice Aa r_.owners.length Ca), (Value.slice Ab r_.costs.length Cb)].toArray), (Value.slice Ac slots.length Cc)] w O (rInt .i64) 3 x := by
 unfold m30_clearing_value at hm
 refine Fn_of_Wp (n := 39) (xs := [.tmp 4]) Try.func30 rfl Try.ntmps30 Try.results30 rfl ?_
 have hs := St.start hO
 refine Wp_seq (Wp_region ?_)
 refine Rg_op rfl (op_box (cs := [(Value.int .i64 r_.slots), (Value.slice Aa r_.owners.length Ca), (Value.slice Ab r_.costs.length Cb)]) hs rfl rfl ?_)
 intro b1 w2 _ p3 hs4
 replace Fa := Fa.step p3; replace Fb := Fb.step p3; replace Fc := Fc.step p3; clear p3
 refine Rg_op rfl (op_assign (v := (Value.slice none 0 0)) rfl ?_)
 refine Rg_nil (Wp_seq (Wp_region ?_))
 refine Rg_op rfl (op_buildSlice (cs := [(Value.int .i64 0), (Value.int .i64 0)]) (parts := [(0, .const (.int .i64 0)), (1, .const (.int .i64 0))]) ty22 ty3 hs4 (by decide) rfl ?_)
 intro b6 w7 hx10 p8 hs9
 replace Fa := Fa.step p8; replace Fb := Fb.step p8; replace Fc := Fc.step p8; clear p8 hs4
 have f12 := Gs.of_cells (p := (rInt .i64)) (e := 3) (bl := b6) (c := 2) (w := w7) (O := ks [(some b6, Obj.cells [(Value.int .i64 0), (Value.int .i64 0)].toArray 3), (some b1, Obj.cells [(Value.int .i64 r_.slots), (Value.slice Aa r_.owners.length Ca), (Value.slice Ab r_.costs.length Cb)].toArray 25)] O) (show Els (rInt .i64) _ _ [(Value.int .i64 0), (Value.int .i64 0)] [0, 0] from ⟨_, _, rfl, (mk_int (show InK .i64 0 from by decide)), ⟨_, _, rfl, (mk_int (show InK .i64 0 from by decide)), Els.nil⟩⟩) rfl (le_lit rfl)
 refine Rg_op rfl (op_assign (v := (Value.slice (some ⟨b6, 0, none⟩) [0, 0].length 2)) rfl ?_)
 refine Rg_nil (Wp_seq (Wp_seq (Wp_region ?_)))
 refine Rg_op rfl (op_move (v := (Value.slice Ac slots.length Cc)) rfl ?_)
 refine Rg_op rfl (op_len Try.underlying22 rfl ?_)
 have rl13 := inK_len Fc
 refine Rg_op rfl (op_move (v := (Value.int .i64 0)) rfl ?_)
 refine Rg_nil (Wp_block ?_)
 refine Wp_reset [] [(2, (Value.pointer (some ⟨b1, 0, none⟩))), (5, (Value.slice (some ⟨b6, 0, none⟩) [0, 0].length 2)), (9, (Value.slice Ac slots.length Cc)), (10, (Value.int .i64 (slots.length : Int))), (11, (Value.int .i64 0))] rfl ⟨rfl, rfl, rfl, rfl, rfl, trivial⟩ fun ξ16 => ?_
 refine Wp_loopM [5, 6, 7, 11, 12, 13, 14, 15, 16, 17, 18, 19, 20, 21, 22, 23, 24, 25, 26, 27, 28, 29, 30, 31, 32, 33, 34, 35, 36, 37] (fun m fr w' => ∃ (v_1 : List Int) (v_2 : Int) (Ad : Option Addr) (Cd : Nat) (k_g14 : Option Nat) (o_g14 : Obj) (Ebs : Ents), Ebs = [(k_g14, o_g14), (some b1, Obj.cells [(Value.int .i64 r_.slots), (Value.slice Aa r_.owners.length Ca), (Value.slice Ab r_.costs.length Cb)].toArray 25)] ∧ fr [] [(5, (Value.slice Ad v_1.length Cd)), (11, (Value.int .i64 v_2))] ∧ Step (ks [(some b6, (Obj.cells [(Value.int .i64 0), (Value.int .i64 0)].toArray 3)), (some b1, Obj.cells [(Value.int .i64 r_.slots), (Value.slice Aa r_.owners.length Ca), (Value.slice Ab r_.costs.length Cb)].toArray 25)] O) w7 (ks Ebs O) w' ∧ St ⟨w, [], []⟩ O w' Ebs ∧ Gs (rInt .i64) 3 w' (ks Ebs O) Ad Cd v_1 k_g14 o_g14 ∧ InK .i64 v_2 ∧ loop2 (m30_clearing_value_B0 r_ slots) m v_1 v_2 = some x) (((slots.length : Int) - 0).toNat + 1) ⟨[0, 0], 0, (some ⟨b6, 0, none⟩), 2, (some b6), (Obj.cells [(Value.int .i64 0), (Value.int .i64 0)].toArray 3), _, rfl, ⟨Out.refl _ _, rfl, rfl, rfl, trivial⟩, Step.refl _ _, hs9, f12, (show InK .i64 0 from by decide), hm⟩ ?_ ?_
 rintro _ _ ⟨_, _, _, _, _, _, _, _, _, _, _, _, _, hm⟩; exact loop2_z hm
 rintro m20 K19 hK19 ρ25 w21 ⟨v_1, v_2, Ad, Cd, k_g14, o_g14, Ebs, hEbs, hfr24, hst23, hs22, Fd, Rb, hm⟩
 obtain ⟨sf17, hsf18, hm⟩ := loop2_s hm; unfold m30_clearing_value_B0 at hm
 subst hEbs; rw [hfr24.eq]; clear hfr24
 replace Fa := Fa.step hst23; replace Fb := Fb.step hst23; replace Fc := Fc.step hst23; replace f12 := f12.step hst23
 have ch26 := hst23
 refine Wp_seq ?_
 clear f12
 refine Wp_region ?_
 refine Rg_op rfl (op_lss rfl rfl ?_)
 refine Rg_nil (Wp_seq ?_)
 refine Wp_cond rfl (fun hc27 => ?_) (fun hc27 => ?_)
 replace hm := bif_t hm hc27
 refine Wp_skip (Wp_seq (Wp_block (Wp_seq (Wp_region ?_))))
 refine Rg_op rfl (op_move (v := (Value.int .i64 v_2)) rfl ?_)
 replace hm := ck_some hm; obtain ⟨hc28, hm⟩ := hm
 refine Rg_op rfl (op_indexAddr (q := (rInt .i64)) ty22 ty3 rfl rfl Fc rfl hc28.1 hc28.2 ?_)
 intro p29 f30
 refine Rg_op rfl (op_loadP ty3 rfl f30 rfl ?_)
 intro v31 h32
 obtain ⟨rfl, Rc⟩ := un_int h32
 refine Rg_op rfl (op_assign (v := (Value.int .i64 v_2)) rfl ?_)
 refine Rg_op rfl (op_assign (v := (Value.int .i64 (slots.getD v_2.toNat default))) rfl ?_)
 refine Rg_nil (Wp_seq ?_)
 clear f30
 refine Wp_drawR (g0 := []) (m := 11) (fl := []) (TS_inv hs22) rfl (.inl rfl) rfl (by decide +kernel) ?_  -- 5
 refine Dw_eq (Value.slice Ad v_1.length Cd) (fun ρ34 w35 g hle hi ht => ?_) ?_
 obtain ⟨-, hst, -⟩ := hle
 refine StepOp_plain (op_move (v := (Value.slice Ad v_1.length Cd)) (ht 5 rfl) ?_)
 exact Goes.same hi rfl
 replace hm := ck_some hm; obtain ⟨hc40, hm⟩ := hm
 obtain ⟨b41, rfl, rfl⟩ := Fd.at_ (by omega)
 refine Dw_eq (Value.pointer (some ⟨b41, 0 * 1, none⟩)) (fun ρ37 w38 g hle hi ht => ?_) ?_
 obtain ⟨-, hst, -⟩ := hle
 replace Fd := Fd.step hst
 refine StepOp_plain (op_indexAddrG ty22 ty3 (ht 16 rfl) rfl Fd hc40 ?_)
 rintro _ ⟨⟩ -
 exact Goes.same hi rfl
 refine Dw_op (VD O [(some b41, o_g14), (some b1, Obj.cells [(Value.int .i64 r_.slots), (Value.slice Aa r_.owners.length Ca), (Value.slice Ab r_.costs.length Cb)].toArray 25)] (vI .i64) (v_1.getD 0 default)) (VD.stab _ _) (fun ρ42 w43 g hle hi ht => ?_) ?_
 obtain ⟨-, hst, -⟩ := hle
 replace Fd := Fd.step hst
 have hsn := (Step.nx hi).1
 refine StepOp_plain (op_loadG (m := 0) (i := 0) ty3 rfl hsn rfl (ht 17 rfl) Fd hc40 ?_)
 intro v45 h46
 obtain ⟨rfl, Rd⟩ := un_int h46
 exact Goes.same hi (show Vr.vd (vI .i64) _ _ _ _ from ⟨rfl, Rd⟩)
 refine Dw_eq (Value.pointer (some ⟨b1, 2, none⟩)) (fun ρ48 w49 g hle hi ht => ?_) ?_
 obtain ⟨-, hst, -⟩ := hle
 refine StepOp_plain (op_fieldAddr ty25 rfl ty23 (by decide) (ht 2 rfl) (rfl : _ = (⟨_, 2, none⟩ : Addr)) ?_)
 exact Goes.same hi rfl
 refine Dw_eq (Value.slice Ab r_.costs.length Cb) (fun ρ51 w52 g hle hi ht => ?_) ?_
 obtain ⟨-, hst, -⟩ := hle
 have hsn := (Step.nx hi).1
 refine StepOp_plain (op_load (cs := [(Value.int .i64 r_.slots), (Value.slice Aa r_.owners.length Ca), (Value.slice Ab r_.costs.length Cb)]) (i := 1) ty23 hsn (ht 19 rfl) rfl rfl ?_)
 exact Goes.same hi rfl
 refine Dw_eq (Value.int .i64 v_2) (fun ρ54 w55 g hle hi ht => ?_) ?_
 obtain ⟨-, hst, -⟩ := hle
 refine StepOp_plain (op_move (v := (Value.int .i64 v_2)) (ht 6 rfl) ?_)
 exact Goes.same hi rfl
 replace hm := ck_some hm; obtain ⟨hc60, hm⟩ := hm
 refine Dw_op (VP O [(some b41, o_g14), (some b1, Obj.cells [(Value.int .i64 r_.slots), (Value.slice Aa r_.owners.length Ca), (Value.slice Ab r_.costs.length Cb)].toArray 25)] (rSl (rInt .i64)) (r_.costs.getD v_2.toNat default)) (VP.stab _ _) (fun ρ57 w58 g hle hi ht => ?_) ?_
 obtain ⟨-, hst, -⟩ := hle
 replace Fb := Fb.step hst
 refine StepOp_plain (op_indexAddr (q := (rSl (rInt .i64))) ty23 ty22 (ht 20 rfl) (ht 21 rfl) Fb rfl hc60.1 hc60.2 ?_)
 intro p61 f62
 exact Goes.same hi ⟨_, rfl, f62⟩
 refine Dw_op (VD O [(some b41, o_g14), (some b1, Obj.cells [(Value.int .i64 r_.slots), (Value.slice Aa r_.owners.length Ca), (Value.slice Ab r_.costs.length Cb)].toArray 25)] (vC (rSl (rInt .i64))) (r_.costs.getD v_2.toNat default)) (VD.stab _ _) (fun ρ63 w64 g hle hi ht => ?_) ?_
 obtain ⟨-, hst, -⟩ := hle
 obtain ⟨p66, q67, f68⟩ := ht 22 rfl
 refine StepOp_plain (op_loadP ty22 q67 f68 rfl ?_)
 intro v69 h70
 obtain ⟨Ae, Ce, rfl, Fe⟩ := un_sl h70
 exact Goes.same hi (show Vr.vd (vC (rSl (rInt .i64))) _ _ _ _ from (mkC (mk_sl Fe)))
 refine Dw_eq (Value.int .i64 (slots.getD v_2.toNat default)) (fun ρ72 w73 g hle hi ht => ?_) ?_
 obtain ⟨-, hst, -⟩ := hle
 refine StepOp_plain (op_move (v := (Value.int .i64 (slots.getD v_2.toNat default))) (ht 7 rfl) ?_)
 exact Goes.same hi rfl
 replace hm := ck_some hm; obtain ⟨hc81, hm⟩ := hm
 refine Dw_op (VP O [(some b41, o_g14), (some b1, Obj.cells [(Value.int .i64 r_.slots), (Value.slice Aa r_.owners.length Ca), (Value.slice Ab r_.costs.length Cb)].toArray 25)] (rInt .i64) ((r_.costs.getD v_2.toNat default).getD (slots.getD v_2.toNat default).toNat default)) (VP.stab _ _) (fun ρ75 w76 g hle hi ht => ?_) ?_
 obtain ⟨-, hst, -⟩ := hle
 have h78 : Vr.vd (vC (rSl (rInt .i64))) _ _ _ _ := ht 23 rfl
 obtain ⟨Af, Cf, q79, Ff⟩ := un_sl h78
 refine StepOp_plain (op_indexAddr (q := (rInt .i64)) ty22 ty3 q79 (ht 24 rfl) Ff rfl hc81.1 hc81.2 ?_)
 intro p82 f83
 exact Goes.same hi ⟨_, rfl, f83⟩
 refine Dw_op (VD O [(some b41, o_g14), (some b1, Obj.cells [(Value.int .i64 r_.slots), (Value.slice Aa r_.owners.length Ca), (Value.slice Ab r_.costs.length Cb)].toArray 25)] (vI .i64) ((r_.costs.getD v_2.toNat default).getD (slots.getD v_2.toNat default).toNat default)) (VD.stab _ _) (fun ρ84 w85 g hle hi ht => ?_) ?_
 obtain ⟨-, hst, -⟩ := hle
 obtain ⟨p87, q88, f89⟩ := ht 25 rfl
 refine StepOp_plain (op_loadP ty3 q88 f89 rfl ?_)
 intro v90 h91
 obtain ⟨rfl, Re⟩ := un_int h91
 exact Goes.same hi (show Vr.vd (vI .i64) _ _ _ _ from ⟨rfl, Re⟩)
 refine Dw_nil fun w97 g98 hl99 hi100 => ?_
 obtain ⟨-, hst101, -⟩ := hl99
 obtain ⟨hs103, p102⟩ := Step.nx hi100
 rintro v104 h105
 replace h105 : Vr.vd (vI .i64) _ _ _ _ := h105
 obtain ⟨rfl, Rf⟩ := h105
 rintro _ ⟨p107, rfl, f108⟩
 rintro _ rfl
 rintro v109 h110
 replace h110 : Vr.vd (vC (rSl (rInt .i64))) _ _ _ _ := h110
 obtain ⟨Ag, Cg, rfl, Fg⟩ := un_sl h110
 rintro _ ⟨p112, rfl, f113⟩
 rintro _ rfl
 rintro _ rfl
 rintro _ rfl
 rintro v114 h115
 replace h115 : Vr.vd (vI .i64) _ _ _ _ := h115
 obtain ⟨rfl, Rg⟩ := h115
 rintro _ rfl
 rintro _ rfl
 have p117 : Step (ks [(some b41, o_g14), (some b1, Obj.cells [(Value.int .i64 r_.slots), (Value.slice Aa r_.owners.length Ca), (Value.slice Ab r_.costs.length Cb)].toArray 25)] O) w21 (ks [(some b41, o_g14), (some b1, Obj.cells [(Value.int .i64 r_.slots), (Value.slice Aa r_.owners.length Ca), (Value.slice Ab r_.costs.length Cb)].toArray 25)] O) w97 := hst101.trans p102
 replace f108 := f108.step p102; replace Fg := Fg.step p102; replace f113 := f113.step p102; replace Fa := Fa.step p117; replace Fb := Fb.step p117; replace Fc := Fc.step p117; replace Fd := Fd.step p117; replace ch26 := ch26.trans p117; clear p117 hs22
 refine Rg_op rfl (op_addw rfl rfl ?_)
 replace hm := ck_some hm; obtain ⟨hc118, hm⟩ := hm
 refine Rg_op rfl (op_indexAddrG ty22 ty3 rfl rfl Fd hc118 ?_)
 rintro _ ⟨⟩ -
 refine Rg_op_ (op_storeG (vs := [(Value.int .i64 (IntKind.wrap .i64 ((v_1.getD 0 default) + ((r_.costs.getD v_2.toNat default).getD (slots.getD v_2.toNat default).toNat default))))]) (i := 0) (m := 0) ty3 rfl hs103 rfl rfl rfl rfl Fd hc118 (mk_int (inK_wrap .i64 _)) ?_)
 intro w120 o123 p121 hs122 f124
 replace Fa := Fa.step p121; replace Fb := Fb.step p121; replace Fc := Fc.step p121; replace f108 := f108.step p121; replace Fg := Fg.step p121; replace f113 := f113.step p121; replace ch26 := ch26.trans p121; clear p121 hs103
 refine Rg_nil (Wp_seq ?_)
 clear f108 Fg f113
 refine Wp_region ?_
 refine Rg_op rfl (op_move (v := (Value.int .i64 (slots.getD v_2.toNat default))) rfl ?_)
 refine Rg_op rfl (op_move (v := (Value.int .i64 v_2)) rfl ?_)
 refine Rg_op rfl (op_neq rfl rfl ?_)
 refine Rg_nil ?_
 refine Wp_cond rfl (fun hc125 => ?_) (fun hc125 => ?_)
 replace hm := bif_t hm hc125
 refine Wp_region ?_
 refine Rg_op rfl (op_move (v := (Value.slice (some ⟨b41, 0, none⟩) (v_1.set 0 (IntKind.wrap .i64 ((v_1.getD 0 default) + ((r_.costs.getD v_2.toNat default).getD (slots.getD v_2.toNat default).toNat default)))).length Cd)) (eqlen rfl (show v_1.length = (v_1.set 0 (IntKind.wrap .i64 ((v_1.getD 0 default) + ((r_.costs.getD v_2.toNat default).getD (slots.getD v_2.toNat default).toNat default)))).length from by first | (simp; done) | (simp; omega))) ?_)
 replace hm := ck_some hm; obtain ⟨hc126, hm⟩ := hm
 refine Rg_op rfl (op_indexAddrG ty22 ty3 rfl rfl f124 hc126 ?_)
 rintro _ ⟨⟩ -
 refine Rg_op rfl (op_loadG (m := 1) (i := 0) ty3 rfl hs122 rfl rfl f124 hc126 ?_)
 intro v128 h129
 obtain ⟨rfl, Rh⟩ := un_int h129
 refine Rg_op rfl (op_addw rfl rfl ?_)
 replace hm := ck_some hm; obtain ⟨hc131, hm⟩ := hm
 refine Rg_op rfl (op_indexAddrG ty22 ty3 rfl rfl f124 hc131 ?_)
 rintro _ ⟨⟩ -
 refine Rg_op_ (op_storeG (vs := [(Value.int .i64 (IntKind.wrap .i64 (((v_1.set 0 (IntKind.wrap .i64 ((v_1.getD 0 default) + ((r_.costs.getD v_2.toNat default).getD (slots.getD v_2.toNat default).toNat default)))).getD 1 default) + 1)))]) (i := 0) (m := 1) ty3 rfl hs122 rfl rfl rfl rfl f124 hc131 (mk_int (inK_wrap .i64 _)) ?_)
 intro w133 o136 p134 hs135 f137
 replace Fa := Fa.step p134; replace Fb := Fb.step p134; replace Fc := Fc.step p134; replace ch26 := ch26.trans p134; clear p134 hs122
 refine Rg_nil (Wp_region ?_)
 refine Rg_op rfl (op_addw rfl rfl ?_)
 refine Rg_op rfl (op_move (v := (Value.int .i64 (IntKind.wrap .i64 (v_2 + 1)))) rfl ?_)
 refine Rg_nil ?_
 exact hK19 _ _ ⟨((v_1.set 0 (IntKind.wrap .i64 ((v_1.getD 0 default) + ((r_.costs.getD v_2.toNat default).getD (slots.getD v_2.toNat default).toNat default)))).set 1 (IntKind.wrap .i64 (((v_1.set 0 (IntKind.wrap .i64 ((v_1.getD 0 default) + ((r_.costs.getD v_2.toNat default).getD (slots.getD v_2.toNat default).toNat default)))).getD 1 default) + 1))), (IntKind.wrap .i64 (v_2 + 1)), (some ⟨b41, 0, none⟩), Cd, (some b41), o136, _, rfl, ⟨(by repeat (first | with_reducible exact Out.refl _ _ | refine Out.upd ?_ rfl | refine Out.updL ?_ rfl | refine Out.mix' ?_ rfl | exact Out.refl _ _)), rfl, (eqlenV (show v_1.length = ((v_1.set 0 (IntKind.wrap .i64 ((v_1.getD 0 default) + ((r_.costs.getD v_2.toNat default).getD (slots.getD v_2.toNat default).toNat default)))).set 1 (IntKind.wrap .i64 (((v_1.set 0 (IntKind.wrap .i64 ((v_1.getD 0 default) + ((r_.costs.getD v_2.toNat default).getD (slots.getD v_2.toNat default).toNat default)))).getD 1 default) + 1))).length from by first | (simp; done) | (simp; omega))), rfl, trivial⟩, ch26, hs135, f137, (inK_wrap .i64 _), jnE2 hsf18 hm⟩
 replace hm := bif_f hm hc125
 refine Wp_skip (Wp_region ?_)
 refine Rg_op rfl (op_addw rfl rfl ?_)
 refine Rg_op rfl (op_move (v := (Value.int .i64 (IntKind.wrap .i64 (v_2 + 1)))) rfl ?_)
 refine Rg_nil ?_
 exact hK19 _ _ ⟨(v_1.set 0 (IntKind.wrap .i64 ((v_1.getD 0 default) + ((r_.costs.getD v_2.toNat default).getD (slots.getD v_2.toNat default).toNat default)))), (IntKind.wrap .i64 (v_2 + 1)), (some ⟨b41, 0, none⟩), Cd, (some b41), o123, _, rfl, ⟨(by repeat (first | with_reducible exact Out.refl _ _ | refine Out.upd ?_ rfl | refine Out.updL ?_ rfl | refine Out.mix' ?_ rfl | exact Out.refl _ _)), rfl, (eqlenV (show v_1.length = (v_1.set 0 (IntKind.wrap .i64 ((v_1.getD 0 default) + ((r_.costs.getD v_2.toNat default).getD (slots.getD v_2.toNat default).toNat default)))).length from by first | (simp; done) | (simp; omega))), rfl, trivial⟩, ch26, hs122, f124, (inK_wrap .i64 _), jnE2 hsf18 hm⟩
 replace hm := bif_f hm hc27
 refine Wp_exit (Wp_seq ?_)
 obtain ⟨hs138, p139⟩ := hs22.sub (bs' := [(k_g14, o_g14)]) (.cons_cons _ (.cons _ List.Sublist.slnil))
 clear Fa Fb Fc
 replace Fd := Fd.step p139; replace ch26 := ch26.trans p139; clear p139 hs22
 refine Wp_region ?_
 refine Rg_op rfl (op_move (v := (Value.slice Ad v_1.length Cd)) rfl ?_)
 refine Rg_op rfl (op_assign (v := (Value.slice Ad v_1.length Cd)) rfl ?_)
 refine Rg_nil ?_
 refine Wp_ret ?_
 refine ⟨_, (show Closes [] _ _ from rfl), [(Value.slice Ad v_1.length Cd)], ⟨rfl, trivial⟩, hs138.ext, ?_⟩
 exact OkG.mk (i := 0) hs138 rfl Fd (Option.some.inj hm)
def m12_clearing_Value (r_ : XRound) (slots : List Int) : Option ((List Int) × Int) :=
 (m22_coalition_Costs r_ slots).bind fun costs_1 =>
 bif (decide (costs_1.2 ≠ 0)) then
  some (([] : List Int), costs_1.2)
 else
  (m30_clearing_value r_ slots).bind fun value_1 =>
  some (value_1, 0)

theorem c12_clearing_Value {w : World} {O : List Nat} {r_ : XRound} {slots : List Int} {Aa : Option Addr} {Ca : Nat} {Ab : Option Addr} {Cb : Nat} {Ac : Option Addr} {Cc : Nat} (hO : ∀ k ∈ O, k < w.heap.size) (Ra : InK .i64 r_.slots) (Fa : SlR (rInt .i64) w O Aa Ca r_.owners) (Fb : SlR (rSl (rInt .i64)) w O Ab Cb r_.costs) (Fc : SlR (rInt .i64) w O Ac Cc slots) {x : (List Int) × Int} (hm : m12_clearing_Value r_ slots = some x) :
 Ok Try.prog 12 [(Value.agg [(Value.int .i64 r_.slots), (Value.slice Aa r_.owners.length Ca), (Value.slice Ab r_.costs.length Cb)].toArray), (Value.slice Ac slots.length Cc)] w O (vT2 (vC (rSl (rInt .i64))) (vI .i64)) x := by
 unfold m12_clearing_Value at hm
 refine Fn_of_Wp (n := 20) (xs := [.tmp 4, .tmp 5]) Try.func12 rfl Try.ntmps12 Try.results12 rfl ?_
 have hs := St.start hO
 refine Wp_seq (Wp_region ?_)
 refine Rg_op rfl (op_box (cs := [(Value.int .i64 r_.slots), (Value.slice Aa r_.owners.length Ca), (Value.slice Ab r_.costs.length Cb)]) hs rfl rfl ?_)
 intro b1 w2 _ p3 hs4
 replace Fa := Fa.step p3; replace Fb := Fb.step p3; replace Fc := Fc.step p3; clear p3
 refine Rg_op rfl (op_assign (v := (Value.slice none 0 0)) rfl ?_)
 refine Rg_op rfl (op_assign (v := (Value.int .i64 0)) rfl ?_)
 refine Rg_nil (Wp_seq (Wp_seq (Wp_region ?_)))
 refine Rg_op rfl (op_loadA (cs := [(Value.int .i64 r_.slots), (Value.slice Aa r_.owners.length Ca), (Value.slice Ab r_.costs.length Cb)]) (vs := [(Value.int .i64 r_.slots), (Value.slice Aa r_.owners.length Ca), (Value.slice Ab r_.costs.length Cb)]) (i := 0) ty25 hs4 rfl rfl rfl rfl ?_)
 refine Rg_op rfl (op_move (v := (Value.slice Ac slots.length Cc)) rfl ?_)
 replace hm := bd hm; obtain ⟨costs_1, hv6, hm⟩ := hm
 refine Rg_op rfl (op_call Try.call22 (c22_coalition_Costs (r_ := r_) (slots := slots) hs4.ltw Ra Fa Fb Fc hv6) rfl ?_)
 rintro v7 w8 ⟨hx9, h10⟩
 have hs11 := hs4.call hx9
 have p12 := Step.ext (O := ks [(some b1, Obj.cells [(Value.int .i64 r_.slots), (Value.slice Aa r_.owners.length Ca), (Value.slice Ab r_.costs.length Cb)].toArray 25)] O) hx9
 clear hx9
 replace Fa := Fa.step p12; replace Fb := Fb.step p12; replace Fc := Fc.step p12; clear p12 hs4
 obtain ⟨v13, v14, rfl, h15, h16⟩ := h10
 obtain ⟨Ad, Cd, rfl, Fd⟩ := un_sl h15
 obtain ⟨rfl, Rb⟩ := h16
 refine Rg_op rfl (op_move (v := (Value.tuple [(Value.slice Ad costs_1.1.length Cd), (Value.int .i64 costs_1.2)].toArray)) rfl ?_)
 refine Rg_op rfl (op_extract (v := (Value.slice Ad costs_1.1.length Cd)) rfl rfl ?_)
 refine Rg_op rfl (op_extract (v := (Value.int .i64 costs_1.2)) rfl rfl ?_)
 refine Rg_op rfl (op_assign (v := (Value.slice Ad costs_1.1.length Cd)) rfl ?_)
 refine Rg_op rfl (op_assign (v := (Value.int .i64 costs_1.2)) rfl ?_)
 refine Rg_nil (Wp_seq ?_)
 clear Fd
 refine Wp_region ?_
 refine Rg_op rfl (op_move (v := (Value.int .i64 costs_1.2)) rfl ?_)
 refine Rg_op rfl (op_neq rfl rfl ?_)
 refine Rg_nil ?_
 refine Wp_cond rfl (fun hc19 => ?_) (fun hc19 => ?_)
 replace hm := bif_t hm hc19
 refine Wp_seq ?_
 obtain ⟨hs20, p21⟩ := hs11.sub (bs' := []) (.cons _ List.Sublist.slnil)
 clear Fa Fb Fc
 clear p21 hs11
 refine Wp_region ?_
 refine Rg_op rfl (op_move (v := (Value.int .i64 costs_1.2)) rfl ?_)
 refine Rg_op rfl (op_assign (v := (Value.slice none 0 0)) rfl ?_)
 refine Rg_op rfl (op_assign (v := (Value.int .i64 costs_1.2)) rfl ?_)
 refine Rg_nil ?_
 refine Wp_ret ?_
 have hz := step_all hs20
 refine ⟨_, (show Closes [] _ _ from rfl), [(Value.slice none 0 0), (Value.int .i64 costs_1.2)], ⟨rfl, rfl, trivial⟩, hs20.ext, ?_⟩
 exact Vr.eq (a := (vT2 (vC (rSl (rInt .i64))) (vI .i64))) (x := (([] : List Int), costs_1.2)) (mkT2 (mkC (mk_sl SlR.nil_)) ⟨rfl, Rb⟩) (Option.some.inj hm)
 replace hm := bif_f hm hc19
 refine Wp_skip (Wp_seq (Wp_region ?_))
 refine Rg_op rfl (op_loadA (cs := [(Value.int .i64 r_.slots), (Value.slice Aa r_.owners.length Ca), (Value.slice Ab r_.costs.length Cb)]) (vs := [(Value.int .i64 r_.slots), (Value.slice Aa r_.owners.length Ca), (Value.slice Ab r_.costs.length Cb)]) (i := 0) ty25 hs11 rfl rfl rfl rfl ?_)
 refine Rg_op rfl (op_move (v := (Value.slice Ac slots.length Cc)) rfl ?_)
 replace hm := bd hm; obtain ⟨value_1, hv22, hm⟩ := hm
 refine Rg_op rfl (op_call Try.call30 (g30_clearing_value (r_ := r_) (slots := slots) hs11.ltw Ra Fa Fb Fc hv22) rfl ?_)
 rintro _ w24 ⟨hx25, a28, c29, k30, o31, rfl, hk32, f33⟩
 obtain ⟨hs27, p34⟩ := hs11.callG (o := o31) hx25 hk32
 rw [← ks_cons (o := o31)] at f33
 replace Fa := Fa.step p34; replace Fb := Fb.step p34; replace Fc := Fc.step p34; clear p34 hs11
 refine Rg_op rfl (op_assign (v := (Value.slice a28 value_1.length c29)) rfl ?_)
 refine Rg_op rfl (op_assign (v := (Value.int .i64 0)) rfl ?_)
 refine Rg_nil ?_
 refine Wp_ret ?_
 obtain ⟨hs37, p38, f36⟩ := Gs.publish (i := 0) hs27 rfl f33
 replace Fa := Fa.step p38; replace Fb := Fb.step p38; replace Fc := Fc.step p38; clear p38 hs27
 have hz := step_all hs37
 replace Fa := Fa.step hz; replace Fb := Fb.step hz; replace Fc := Fc.step hz; replace f36 := f36.step hz
 refine ⟨_, (show Closes [] _ _ from rfl), [(Value.slice a28 value_1.length c29), (Value.int .i64 0)], ⟨rfl, rfl, trivial⟩, hs37.ext, ?_⟩
 exact Vr.eq (a := (vT2 (vC (rSl (rInt .i64))) (vI .i64))) (x := (value_1, 0)) (mkT2 (mkC (mk_sl f36)) ⟨rfl, (show InK .i64 0 from by decide)⟩) (Option.some.inj hm)

def m32_clearing_Cycles_1_B0 (fv1_ : List (Int × Int)) (sf7 : (List Int) → Int → Bool → (List (Int × Bool)) → Option ((List Int) × (List (Int × Bool)))) (x_1 : List Int) (at_1 : Int) (ok_1 : Bool) (map_1 : List (Int × Bool)) : Option ((List Int) × (List (Int × Bool))) :=
 jn (fun (v_1 : Bool) =>
  bif v_1 then
   ck ((x_1.length + [at_1].length) * 8 ≤ 140737488355328) <|
   sf7 (x_1 ++ [at_1]) ((mget fv1_ at_1).getD 0) ((mget fv1_ at_1).isSome) (mput map_1 at_1 true)
  else
   some (x_1, map_1))
 (fun k21 =>
  bif ok_1 then
   k21 (!((mget map_1 at_1).getD false))
  else
   k21 false)

def m32_clearing_Cycles_1 (first : Int) (fv0_ : List (Int × Bool)) (fv1_ : List (Int × Int)) : Option ((List Int) × (List (Int × Bool))) :=
 loop4 (m32_clearing_Cycles_1_B0 fv1_) (1000000) ([] : List Int) first true fv0_

theorem c32_clearing_Cycles_1 {w : World} {O : List Nat} {first : Int} {fv0_ : List (Int × Bool)} {fv1_ : List (Int × Int)} {p_fv0_ : Addr} {bm_fv0_ : Nat} {om_fv0_ : Obj} {p_fv1_ : Addr} (hO : ∀ k ∈ O, k < w.heap.size) (Ra : InK .i64 first) (hbl : bm_fv0_ ∉ O) (hob : w.heap[bm_fv0_]? = some om_fv0_) (Fa : PtR (rVal (Value.map (some bm_fv0_)) rfl) w (bm_fv0_ :: O) p_fv0_ ()) (hM_fv0_ : Mo .i64 mvB om_fv0_ fv0_) (Fb : PtR (rMp .i64 (mvI .i64)) w (bm_fv0_ :: O) p_fv1_ fv1_) {x0 : (List Int)} {mz : List (Int × Bool)} (hm : m32_clearing_Cycles_1 first fv0_ fv1_ = some (x0, mz)) :
 OkM Try.prog 32 [(Value.int .i64 first), (Value.pointer (some p_fv0_)), (Value.pointer (some p_fv1_))] w O bm_fv0_ .i64 mvB (vC (rSl (rInt .i64))) x0 mz := by
 unfold m32_clearing_Cycles_1 at hm
 refine Fn_of_Wp (n := 28) (xs := [.tmp 4]) Try.func32 rfl Try.ntmps32 Try.results32 rfl ?_
 obtain ⟨x, hxm⟩ : ∃ x, x = (x0, mz) := ⟨_, rfl⟩
 rw [← hxm] at hm
 have hs := St.startW hO hbl hob
 replace Fa : PtR (rVal (Value.map (some bm_fv0_)) rfl) w (ks [(some bm_fv0_, om_fv0_)] O) p_fv0_ () := Fa
 replace Fb : PtR (rMp .i64 (mvI .i64)) w (ks [(some bm_fv0_, om_fv0_)] O) p_fv1_ fv1_ := Fb
 refine Wp_seq (Wp_region ?_)
 refine Rg_op rfl (op_assign (v := (Value.slice none 0 0)) rfl ?_)
 refine Rg_nil (Wp_seq (Wp_seq (Wp_region ?_)))
 refine Rg_op rfl (op_move (v := (Value.int .i64 first)) rfl ?_)
 refine Rg_op rfl (op_assign (v := (Value.int .i64 first)) rfl ?_)
 refine Rg_op rfl (op_assign (v := (Value.bool true)) rfl ?_)
 refine Rg_nil (Wp_block ?_)
 refine Wp_reset [] [(1, (Value.pointer (some p_fv0_))), (2, (Value.pointer (some p_fv1_))), (4, (Value.slice none 0 0)), (5, (Value.int .i64 first)), (6, (Value.bool true))] rfl ⟨rfl, rfl, rfl, rfl, rfl, trivial⟩ fun ξ6 => ?_
 have hs11 := hs.ghost (Obj.cells #[] 3)
 refine Wp_loopM [4, 5, 6, 8, 9, 10, 11, 12, 13, 14, 15, 16, 17, 18, 19, 20, 21, 22, 23, 24, 25, 26] (fun m fr w' => ∃ (x_1 : List Int) (at_1 : Int) (ok_1 : Bool) (map_1 : List (Int × Bool)) (Aa : Option Addr) (Ca : Nat) (k_g2 : Option Nat) (o_g2 : Obj) (o_g5 : Obj) (Ebs : Ents), Ebs = [(k_g2, o_g2), (some bm_fv0_, o_g5)] ∧ fr [] [(4, (Value.slice Aa x_1.length Ca)), (5, (Value.int .i64 at_1)), (6, (Value.bool ok_1))] ∧ Step (ks [(none, (Obj.cells #[] 3)), (some bm_fv0_, om_fv0_)] O) w (ks Ebs O) w' ∧ St ⟨w, [bm_fv0_], []⟩ O w' Ebs ∧ Gs (rInt .i64) 3 w' (ks Ebs O) Aa Ca x_1 k_g2 o_g2 ∧ InK .i64 at_1 ∧ Mo .i64 mvB o_g5 map_1 ∧ loop4 (m32_clearing_Cycles_1_B0 fv1_) m x_1 at_1 ok_1 map_1 = some x) (1000000) ⟨([] : List Int), first, true, fv0_, none, 0, none, (Obj.cells #[] 3), om_fv0_, _, rfl, ⟨Out.refl _ _, rfl, rfl, rfl, rfl, trivial⟩, Step.refl _ _, hs11, Gs.nil_, Ra, hM_fv0_, hm⟩ ?_ ?_
 rintro _ _ ⟨_, _, _, _, _, _, _, _, _, _, _, _, _, _, _, _, _, hm⟩; exact loop4_z hm
 rintro m10 K9 hK9 ρ17 w13 ⟨x_1, at_1, ok_1, map_1, Aa, Ca, k_g2, o_g2, o_g5, Ebs, hEbs, hfr16, hst15, hs14, Fc, Rb, M_g5, hm⟩
 obtain ⟨sf7, hsf8, hm⟩ := loop4_s hm; unfold m32_clearing_Cycles_1_B0 at hm
 subst hEbs; rw [hfr16.eq]; clear hfr16
 replace Fa := Fa.step hst15; replace Fb := Fb.step hst15
 have ch18 := hst15
 refine Wp_seq ?_
 refine Wp_reset2 [4, 5, 6, 8, 9, 10, 11, 12, 13, 14, 15, 16, 17, 18, 19, 20, 21, 22, 23, 24, 25, 26] [] (updL ⟨ξ6, []⟩ [(1, (Value.pointer (some p_fv0_))), (2, (Value.pointer (some p_fv1_))), (4, (Value.slice none 0 0)), (5, (Value.int .i64 first)), (6, (Value.bool true))]) [(4, (Value.slice Aa x_1.length Ca)), (5, (Value.int .i64 at_1)), (6, (Value.bool ok_1))] (by repeat (first | with_reducible exact Out.refl _ _ | refine Out.upd ?_ rfl | refine Out.updL ?_ rfl | refine Out.mix' ?_ rfl | exact Out.refl _ _)) rfl ⟨rfl, rfl, rfl, trivial⟩ fun ξ19 => ?_
 replace hm := jn_elim hm; obtain ⟨k21, hk22, hm⟩ := hm
 refine Wp_seqJ [8, 9, 10, 11, 12, 13, 14] (fun fr w' => ∃ (v_1 : Bool) (Ebs : Ents), Ebs = [(k_g2, o_g2), (some bm_fv0_, o_g5)] ∧ fr [] [(14, (Value.bool v_1))] ∧ Step (ks [(k_g2, o_g2), (some bm_fv0_, o_g5)] O) w13 (ks Ebs O) w' ∧ St ⟨w, [bm_fv0_], []⟩ O w' Ebs ∧ k21 v_1 = some x) ?_ ?_
 rintro ρ28 w24 ⟨v_1, Ebs, hEbs, hfr27, hst26, hs25, hm⟩
 replace hm := jnE1 hk22 hm
 subst hEbs; rw [hfr27.eq]; clear hfr27
 replace Fa := Fa.step hst26; replace Fb := Fb.step hst26; replace Fc := Fc.step hst26; replace ch18 := ch18.trans hst26; clear hst26 hs14
 refine Wp_cond rfl (fun hc29 => ?_) (fun hc29 => ?_)
 replace hm := bif_t hm hc29
 refine Wp_skip (Wp_block (Wp_seq (Wp_region ?_)))
 refine Rg_op rfl (op_loadP ty39 rfl Fa rfl ?_)
 intro v30 h31
 obtain rfl := un_val h31
 refine Rg_op rfl (op_move (v := (Value.int .i64 at_1)) rfl ?_)
 refine Rg_op_ (op_mapUpdate (q := .i64) (m := mvB) (v := true) (i := 1) Try.underlying39 Try.underlying3 hs25 rfl M_g5 rfl rfl rfl rfl Rb trivial ?_)
 intro o32 w33 p34 hs35 M36
 replace Fa := Fa.step p34; replace Fb := Fb.step p34; replace Fc := Fc.step p34; replace ch18 := ch18.trans p34; clear p34 hs25
 refine Rg_nil (Wp_seq (Wp_region ?_))
 refine Rg_op rfl (op_move (v := (Value.slice Aa x_1.length Ca)) rfl ?_)
 refine Rg_op rfl (op_move (v := (Value.int .i64 at_1)) rfl ?_)
 refine Rg_op rfl (op_buildSlice (cs := [(Value.int .i64 at_1)]) (parts := [(0, .tmp 18)]) ty22 ty3 hs35 (by decide) rfl ?_)
 intro b37 w38 hx41 p39 hs40
 replace Fa := Fa.step p39; replace Fb := Fb.step p39; replace Fc := Fc.step p39; replace ch18 := ch18.trans p39; clear p39 hs35
 replace hm := ck_some hm; obtain ⟨hc43, hm⟩ := hm
 refine Rg_op rfl (op_append (q := (rInt .i64)) (i := 1) (xs := x_1) (ys := [at_1]) (news := [(Value.int .i64 at_1)]) ty22 ty3 rfl (by decide) hs40 rfl rfl Fc rfl (Src.owned' (len := 1) (hs40.get (i := 0) rfl) rfl) (show Els (rInt .i64) _ _ [(Value.int .i64 at_1)] [at_1] from ⟨_, _, rfl, (mk_int Rb), Els.nil⟩) hc43 (by have := hc43; simp only [maxLen]; omega) ?_)
 intro a47 c48 k49 o50 w44 p45 hs46 f51
 replace Fa := Fa.step p45; replace Fb := Fb.step p45; replace ch18 := ch18.trans p45; clear p45 hs40
 have hs52 := hs46.drop 0
 replace Fa := Fa.step (hs46.dropS 0)
 replace Fb := Fb.step (hs46.dropS 0)
 replace f51 := f51.step (hs46.dropS 0)
 replace ch18 := ch18.trans (hs46.dropS 0); clear hs46
 refine Rg_op rfl (op_assign (v := (Value.slice a47 (x_1 ++ [at_1]).length c48)) rfl ?_)
 refine Rg_nil (Wp_region ?_)
 refine Rg_op rfl (op_loadP ty48 rfl Fb rfl ?_)
 intro v53 h54
 have M55 := un_mp h54; clear h54
 refine Rg_op rfl (op_move (v := (Value.int .i64 at_1)) rfl ?_)
 refine Rg_op rfl (op_lookupR2 (q := .i64) (m := (mvI .i64)) (z := 0) Try.underlying48 Try.underlying3 Try.zeroValue3 M55 rfl rfl ?_)
 refine Rg_op rfl (op_move (v := (Value.tuple [(Value.int .i64 ((mget fv1_ at_1).getD 0)), (Value.bool ((mget fv1_ at_1).isSome))].toArray)) rfl ?_)
 refine Rg_op rfl (op_extract (v := (Value.int .i64 ((mget fv1_ at_1).getD 0))) rfl rfl ?_)
 refine Rg_op rfl (op_extract (v := (Value.bool ((mget fv1_ at_1).isSome))) rfl rfl ?_)
 refine Rg_op rfl (op_assign (v := (Value.int .i64 ((mget fv1_ at_1).getD 0))) rfl ?_)
 refine Rg_op rfl (op_assign (v := (Value.bool ((mget fv1_ at_1).isSome))) rfl ?_)
 refine Rg_nil ?_
 exact hK9 _ _ ⟨(x_1 ++ [at_1]), ((mget fv1_ at_1).getD 0), (mget fv1_ at_1).isSome, (mput map_1 at_1 true), a47, c48, k49, o50, o32, _, rfl, ⟨(by repeat (first | with_reducible exact Out.refl _ _ | refine Out.upd ?_ rfl | refine Out.updL ?_ rfl | refine Out.mix' ?_ rfl | exact Out.refl _ _)), rfl, rfl, rfl, rfl, trivial⟩, ch18, hs52, f51, (M55.ok (show InK .i64 0 from by decide)), M36, jnE4 hsf8 hm⟩
 replace hm := bif_f hm hc29
 refine Wp_exit (Wp_seq ?_)
 clear Fa Fb
 refine Wp_region ?_
 refine Rg_op rfl (op_move (v := (Value.slice Aa x_1.length Ca)) rfl ?_)
 refine Rg_op rfl (op_assign (v := (Value.slice Aa x_1.length Ca)) rfl ?_)
 refine Rg_nil ?_
 refine Wp_ret ?_
 obtain ⟨hs57, p58, f56⟩ := Gs.publish (i := 0) hs25 rfl Fc
 replace ch18 := ch18.trans p58; clear p58 hs25
 obtain ⟨hx59, hx60⟩ := Prod.mk.inj ((Option.some.inj hm).trans hxm)
 refine ⟨_, (show Closes [] _ _ from rfl), [(Value.slice Aa x_1.length Ca)], ⟨rfl, trivial⟩, hs57.endW.1, _, hs57.endW.2, (by rw [← hx60]; exact M_g5), ?_⟩
 exact Vr.eq (a := (vC (rSl (rInt .i64)))) (x := x_1) (mkC (mk_sl f56)) hx59
 intro K23 hK23
 have ch61 := Step.refl (ks [(k_g2, o_g2), (some bm_fv0_, o_g5)] O) w13
 refine Wp_region ?_
 refine Rg_op rfl (op_move (v := (Value.bool ok_1)) rfl ?_)
 refine Rg_op rfl (op_move (v := (Value.bool ok_1)) rfl ?_)
 refine Rg_case (fun hg62 => ?_) (fun hg62 => ?_)
 replace hm := bif_t hm hg62
 refine Rg_opg rfl rfl rfl (op_loadP ty39 rfl Fa rfl ?_)
 intro v63 h64
 obtain rfl := un_val h64
 refine Rg_opg rfl rfl rfl (op_move (v := (Value.int .i64 at_1)) rfl ?_)
 refine Rg_opg rfl rfl rfl (op_lookup (q := .i64) (m := mvB) (z := false) Try.underlying39 Try.underlying3 Try.zeroValue4 (hs14.get (i := 1) rfl) M_g5 rfl rfl ?_)
 refine Rg_opg rfl rfl rfl (op_not rfl ?_)
 refine Rg_op rfl (op_pick_t (v := (Value.bool (!((mget map_1 at_1).getD false)))) rfl rfl ?_)
 refine Rg_nil ?_
 exact hK23 _ _ ⟨(!((mget map_1 at_1).getD false)), _, rfl, ⟨(by repeat (first | with_reducible exact Out.refl _ _ | refine Out.upd ?_ rfl | refine Out.updL ?_ rfl | refine Out.mix' ?_ rfl | exact Out.refl _ _)), rfl, rfl, trivial⟩, ch61, hs14, hm⟩
 replace hm := bif_f hm hg62
 iterate 4 refine Rg_opx rfl (asB_ne rfl rfl) rfl ?_
 refine Rg_op rfl (op_pick_f (v := (Value.bool false)) rfl rfl ?_)
 refine Rg_nil ?_
 exact hK23 _ _ ⟨false, _, rfl, ⟨(by repeat (first | with_reducible exact Out.refl _ _ | refine Out.upd ?_ rfl | refine Out.updL ?_ rfl | refine Out.mix' ?_ rfl | exact Out.refl _ _)), rfl, rfl, trivial⟩, ch61, hs14, hm⟩

def m35_slices_Minint_int__B0 (x_ : List Int) (sf12 : Int → Int → Option Int) (m_1 : Int) (i_1 : Int) : Option Int :=
 bif (decide (i_1 < (x_.length : Int))) then
  ck ((0 : Int) ≤ i_1 ∧ i_1 < (x_.length : Int)) <|
  sf12 (min m_1 (x_.getD i_1.toNat default)) (IntKind.wrap .i64 (i_1 + 1))
 else
  some m_1

def m35_slices_Minint_int_ (x_ : List Int) : Option Int :=
 bif (decide ((x_.length : Int) < 1)) then
  none
 else
  ck ((0 : Int) ≤ 0 ∧ 0 < (x_.length : Int)) <|
  loop2 (m35_slices_Minint_int__B0 x_) (((x_.length : Int) - 1).toNat + 1) (x_.getD 0 default) 1

theorem c35_slices_Minint_int_ {w : World} {O : List Nat} {x_ : List Int} {Aa : Option Addr} {Ca : Nat} (hO : ∀ k ∈ O, k < w.heap.size) (Fa : SlR (rInt .i64) w O Aa Ca x_) {x : Int} (hm : m35_slices_Minint_int_ x_ = some x) :
 Ok Try.prog 35 [(Value.slice Aa x_.length Ca)] w O (vI .i64) x := by
 unfold m35_slices_Minint_int_ at hm
 refine Fn_of_Wp (n := 25) (xs := [.tmp 2]) Try.func35 rfl Try.ntmps35 Try.results35 rfl ?_
 have hs := St.start hO
 refine Wp_seq (Wp_region ?_)
 refine Rg_op rfl (op_assign (v := (Value.int .i64 0)) rfl ?_)
 refine Rg_nil (Wp_seq (Wp_seq (Wp_region ?_)))
 refine Rg_op rfl (op_move (v := (Value.slice Aa x_.length Ca)) rfl ?_)
 refine Rg_op rfl (op_len Try.underlying22 rfl ?_)
 have rl1 := inK_len Fa
 refine Rg_op rfl (op_lss rfl rfl ?_)
 refine Rg_nil ?_
 refine Wp_cond rfl (fun hc2 => ?_) (fun hc2 => ?_)
 replace hm := bif_t hm hc2
 refine Wp_region ?_
 cases hm
 replace hm := bif_f hm hc2
 refine Wp_skip (Wp_seq (Wp_region ?_))
 refine Rg_op rfl (op_move (v := (Value.slice Aa x_.length Ca)) rfl ?_)
 replace hm := ck_some hm; obtain ⟨hc3, hm⟩ := hm
 refine Rg_op rfl (op_indexAddr (q := (rInt .i64)) ty22 ty3 rfl rfl Fa rfl hc3.1 hc3.2 ?_)
 intro p4 f5
 refine Rg_op rfl (op_loadP ty3 rfl f5 rfl ?_)
 intro v6 h7
 obtain ⟨rfl, Ra⟩ := un_int h7
 refine Rg_op rfl (op_assign (v := (Value.int .i64 (x_.getD 0 default))) rfl ?_)
 refine Rg_nil (Wp_seq (Wp_seq ?_))
 clear f5
 refine Wp_region ?_
 refine Rg_op rfl (op_assign (v := (Value.int .i64 1)) rfl ?_)
 refine Rg_nil (Wp_block ?_)
 refine Wp_reset [] [(0, (Value.slice Aa x_.length Ca)), (3, (Value.int .i64 (x_.getD 0 default))), (4, (Value.int .i64 1))] rfl ⟨rfl, rfl, rfl, trivial⟩ fun ξ11 => ?_
 refine Wp_loopM [3, 4, 12, 13, 14, 15, 16, 17, 18, 19, 20, 21, 22, 23] (fun m fr w' => ∃ (m_1 : Int) (i_1 : Int) (Ebs : Ents), Ebs = [] ∧ fr [] [(3, (Value.int .i64 m_1)), (4, (Value.int .i64 i_1))] ∧ Step (ks [] O) w (ks Ebs O) w' ∧ St ⟨w, [], []⟩ O w' Ebs ∧ InK .i64 m_1 ∧ InK .i64 i_1 ∧ loop2 (m35_slices_Minint_int__B0 x_) m m_1 i_1 = some x) (((x_.length : Int) - 1).toNat + 1) ⟨(x_.getD 0 default), 1, _, rfl, ⟨Out.refl _ _, rfl, rfl, rfl, trivial⟩, Step.refl _ _, hs, Ra, (show InK .i64 1 from by decide), hm⟩ ?_ ?_
 rintro _ _ ⟨_, _, _, _, _, _, _, _, _, hm⟩; exact loop2_z hm
 rintro m15 K14 hK14 ρ20 w16 ⟨m_1, i_1, Ebs, hEbs, hfr19, hst18, hs17, Rb, Rc, hm⟩
 obtain ⟨sf12, hsf13, hm⟩ := loop2_s hm; unfold m35_slices_Minint_int__B0 at hm
 subst hEbs; rw [hfr19.eq]; clear hfr19
 replace Fa := Fa.step hst18
 have ch21 := hst18
 refine Wp_seq (Wp_seq (Wp_region ?_))
 refine Rg_op rfl (op_move (v := (Value.int .i64 i_1)) rfl ?_)
 refine Rg_op rfl (op_move (v := (Value.slice Aa x_.length Ca)) rfl ?_)
 refine Rg_op rfl (op_len Try.underlying22 rfl ?_)
 have rl22 := inK_len Fa
 refine Rg_op rfl (op_lss rfl rfl ?_)
 refine Rg_nil ?_
 refine Wp_cond rfl (fun hc23 => ?_) (fun hc23 => ?_)
 replace hm := bif_t hm hc23
 refine Wp_skip (Wp_seq (Wp_block (Wp_region ?_)))
 refine Rg_op rfl (op_move (v := (Value.int .i64 m_1)) rfl ?_)
 refine Rg_op rfl (op_move (v := (Value.slice Aa x_.length Ca)) rfl ?_)
 refine Rg_op rfl (op_move (v := (Value.int .i64 i_1)) rfl ?_)
 replace hm := ck_some hm; obtain ⟨hc24, hm⟩ := hm
 refine Rg_op rfl (op_indexAddr (q := (rInt .i64)) ty22 ty3 rfl rfl Fa rfl hc24.1 hc24.2 ?_)
 intro p25 f26
 refine Rg_op rfl (op_loadP ty3 rfl f26 rfl ?_)
 intro v27 h28
 obtain ⟨rfl, Rd⟩ := un_int h28
 refine Rg_op rfl (op_min rfl rfl ?_)
 refine Rg_op rfl (op_assign (v := (Value.int .i64 (min m_1 (x_.getD i_1.toNat default)))) rfl ?_)
 refine Rg_nil ?_
 clear f26
 refine Wp_region ?_
 refine Rg_op rfl (op_move (v := (Value.int .i64 i_1)) rfl ?_)
 refine Rg_op rfl (op_addw rfl rfl ?_)
 refine Rg_op rfl (op_assign (v := (Value.int .i64 (IntKind.wrap .i64 (i_1 + 1)))) rfl ?_)
 refine Rg_nil ?_
 exact hK14 _ _ ⟨(min m_1 (x_.getD i_1.toNat default)), (IntKind.wrap .i64 (i_1 + 1)), _, rfl, ⟨(by repeat (first | with_reducible exact Out.refl _ _ | refine Out.upd ?_ rfl | refine Out.updL ?_ rfl | refine Out.mix' ?_ rfl | exact Out.refl _ _)), rfl, rfl, rfl, trivial⟩, ch21, hs17, (inK_min Rb Rd), (inK_wrap .i64 _), jnE2 hsf13 hm⟩
 replace hm := bif_f hm hc23
 refine Wp_exit (Wp_seq ?_)
 clear Fa
 refine Wp_region ?_
 refine Rg_op rfl (op_move (v := (Value.int .i64 m_1)) rfl ?_)
 refine Rg_op rfl (op_assign (v := (Value.int .i64 m_1)) rfl ?_)
 refine Rg_nil ?_
 refine Wp_ret ?_
 have hz := step_all hs17
 refine ⟨_, (show Closes [] _ _ from rfl), [(Value.int .i64 m_1)], ⟨rfl, trivial⟩, hs17.ext, ?_⟩
 exact Vr.eq (a := (vI .i64)) (x := m_1) ⟨rfl, Rb⟩ (Option.some.inj hm)

def m34_clearing_Cycles_2 (a : List Int) (b : List Int) : Option Int :=
 (m35_slices_Minint_int_ a).bind fun min_1 =>
 (m35_slices_Minint_int_ b).bind fun min_2 =>
 some (IntKind.wrap .i64 (min_1 - min_2))

theorem c34_clearing_Cycles_2 {w : World} {O : List Nat} {a : List Int} {b : List Int} {Aa : Option Addr} {Ca : Nat} {Ab : Option Addr} {Cb : Nat} (hO : ∀ k ∈ O, k < w.heap.size) (Fa : SlR (rInt .i64) w O Aa Ca a) (Fb : SlR (rInt .i64) w O Ab Cb b) {x : Int} (hm : m34_clearing_Cycles_2 a b = some x) :
 Ok Try.prog 34 [(Value.slice Aa a.length Ca), (Value.slice Ab b.length Cb)] w O (vI .i64) x := by
 unfold m34_clearing_Cycles_2 at hm
 refine Fn_of_Wp (n := 10) (xs := [.tmp 4]) Try.func34 rfl Try.ntmps34 Try.results34 rfl ?_
 have hs := St.start hO
 refine Wp_seq (Wp_region ?_)
 refine Rg_op rfl (op_assign (v := (Value.int .i64 0)) rfl ?_)
 refine Rg_nil (Wp_seq (Wp_region ?_))
 refine Rg_op rfl (op_move (v := (Value.slice Aa a.length Ca)) rfl ?_)
 replace hm := bd hm; obtain ⟨min_1, hv1, hm⟩ := hm
 refine Rg_op rfl (op_call Try.call35 (c35_slices_Minint_int_ (x_ := a) hs.ltw Fa hv1) rfl ?_)
 rintro v2 w3 ⟨hx4, h5⟩
 have hs6 := hs.call hx4
 have p7 := Step.ext (O := ks [] O) hx4
 clear hx4
 replace Fa := Fa.step p7; replace Fb := Fb.step p7; clear p7
 obtain ⟨rfl, Ra⟩ := h5
 refine Rg_op rfl (op_move (v := (Value.slice Ab b.length Cb)) rfl ?_)
 replace hm := bd hm; obtain ⟨min_2, hv9, hm⟩ := hm
 refine Rg_op rfl (op_call Try.call35 (c35_slices_Minint_int_ (x_ := b) hs6.ltw Fb hv9) rfl ?_)
 rintro v10 w11 ⟨hx12, h13⟩
 have hs14 := hs6.call hx12
 have p15 := Step.ext (O := ks [] O) hx12
 clear hx12
 replace Fa := Fa.step p15; replace Fb := Fb.step p15; clear p15 hs6
 obtain ⟨rfl, Rb⟩ := h13
 refine Rg_op rfl (op_subw rfl rfl ?_)
 refine Rg_op rfl (op_assign (v := (Value.int .i64 (IntKind.wrap .i64 (min_1 - min_2)))) rfl ?_)
 refine Rg_nil ?_
 refine Wp_ret ?_
 have hz := step_all hs14
 replace Fa := Fa.step hz; replace Fb := Fb.step hz
 refine ⟨_, (show Closes [] _ _ from rfl), [(Value.int .i64 (IntKind.wrap .i64 (min_1 - min_2)))], ⟨rfl, trivial⟩, hs14.ext, ?_⟩
 exact Vr.eq (a := (vI .i64)) (x := (IntKind.wrap .i64 (min_1 - min_2))) ⟨rfl, (inK_wrap .i64 _)⟩ (Option.some.inj hm)

def m14_clearing_Cycles_B2 (slots : List Int) (map_1 : List (Int × Int)) (sf147 : (List (List Int)) → Int → (List (Int × Bool)) → Option ((List (List Int)) × Int)) (l_2 : List (List Int)) (v_3 : Int) (map_3 : List (Int × Bool)) : Option ((List (List Int)) × Int) :=
 bif (decide (v_3 < (slots.length : Int))) then
  ck ((0 : Int) ≤ v_3 ∧ v_3 < (slots.length : Int)) <|
  jn (fun (v_4 : Bool) =>
   bif v_4 then
    (m32_clearing_Cycles_1 v_3 map_3 map_1).bind fun cycles1_2 =>
    ck ((l_2.length + [cycles1_2.1].length) * 24 ≤ 140737488355328) <|
    sf147 (l_2 ++ [cycles1_2.1]) (IntKind.wrap .i64 (v_3 + 1)) cycles1_2.2
   else
    sf147 l_2 (IntKind.wrap .i64 (v_3 + 1)) map_3)
  (fun k166 =>
   bif (decide ((slots.getD v_3.toNat default) ≠ v_3)) then
    k166 (!((mget map_3 v_3).getD false))
   else
    k166 false)
 else
  (sortM (fun x210 x211 => m34_clearing_Cycles_2 x210 x211) l_2).bind fun sorted_1 =>
  ck (l_2.length < 4611686018427387904) <|
  some (sorted_1, 0)

def m14_clearing_Cycles_B1 (slots : List Int) (map_1 : List (Int × Int)) (sf92 : (List (List Int)) → Int → (List (Int × Bool)) → Option ((List (List Int)) × Int)) (l_1 : List (List Int)) (v_2 : Int) (map_2 : List (Int × Bool)) : Option ((List (List Int)) × Int) :=
 bif (decide (v_2 < (slots.length : Int))) then
  ck ((0 : Int) ≤ v_2 ∧ v_2 < (slots.length : Int)) <|
  bif (decide ((slots.length : Int) ≤ (slots.getD v_2.toNat default))) then
   (m32_clearing_Cycles_1 v_2 map_2 map_1).bind fun cycles1_1 =>
   ck ((l_1.length + [cycles1_1.1].length) * 24 ≤ 140737488355328) <|
   sf92 (l_1 ++ [cycles1_1.1]) (IntKind.wrap .i64 (v_2 + 1)) cycles1_1.2
  else
   sf92 l_1 (IntKind.wrap .i64 (v_2 + 1)) map_2
 else
  loop3 (m14_clearing_Cycles_B2 slots map_1) (((slots.length : Int) - 0).toNat + 1) l_1 0 map_2

def m14_clearing_Cycles_B0 (slots : List Int) (sf40 : Int → (List (Int × Int)) → Option ((List (List Int)) × Int)) (v_1 : Int) (map_1 : List (Int × Int)) : Option ((List (List Int)) × Int) :=
 bif (decide (v_1 < (slots.length : Int))) then
  ck ((0 : Int) ≤ v_1 ∧ v_1 < (slots.length : Int)) <|
  bif (decide ((slots.getD v_1.toNat default) ≠ v_1)) then
   sf40 (IntKind.wrap .i64 (v_1 + 1)) (mput map_1 (slots.getD v_1.toNat default) v_1)
  else
   sf40 (IntKind.wrap .i64 (v_1 + 1)) map_1
 else
  loop3 (m14_clearing_Cycles_B1 slots map_1) (((slots.length : Int) - 0).toNat + 1) ([] : List (List Int)) 0 ([] : List (Int × Bool))

def m14_clearing_Cycles (r_ : XRound) (slots : List Int) : Option ((List (List Int)) × Int) :=
 (m22_coalition_Costs r_ slots).bind fun costs_1 =>
 bif (decide (costs_1.2 ≠ 0)) then
  some (([] : List (List Int)), costs_1.2)
 else
  loop2 (m14_clearing_Cycles_B0 slots) (((slots.length : Int) - 0).toNat + 1) 0 ([] : List (Int × Int))

theorem c14_clearing_Cycles {w : World} {O : List Nat} {r_ : XRound} {slots : List Int} {Aa : Option Addr} {Ca : Nat} {Ab : Option Addr} {Cb : Nat} {Ac : Option Addr} {Cc : Nat} (hO : ∀ k ∈ O, k < w.heap.size) (Ra : InK .i64 r_.slots) (Fa : SlR (rInt .i64) w O Aa Ca r_.owners) (Fb : SlR (rSl (rInt .i64)) w O Ab Cb r_.costs) (Fc : SlR (rInt .i64) w O Ac Cc slots) {x : (List (List Int)) × Int} (hm : m14_clearing_Cycles r_ slots = some x) :
 Ok Try.prog 14 [(Value.agg [(Value.int .i64 r_.slots), (Value.slice Aa r_.owners.length Ca), (Value.slice Ab r_.costs.length Cb)].toArray), (Value.slice Ac slots.length Cc)] w O (vT2 (vC (rSl (rSl (rInt .i64)))) (vI .i64)) x := by
 unfold m14_clearing_Cycles at hm
 refine Fn_of_Wp (n := 87) (xs := [.tmp 4, .tmp 5]) Try.func14 rfl Try.ntmps14 Try.results14 rfl ?_
 have hs := St.start hO
 refine Wp_seq (Wp_region ?_)
 refine Rg_op rfl (op_box (cs := [(Value.int .i64 r_.slots), (Value.slice Aa r_.owners.length Ca), (Value.slice Ab r_.costs.length Cb)]) hs rfl rfl ?_)
 intro b1 w2 _ p3 hs4
 replace Fa := Fa.step p3; replace Fb := Fb.step p3; replace Fc := Fc.step p3; clear p3
 refine Rg_op rfl (op_assign (v := (Value.slice none 0 0)) rfl ?_)
 refine Rg_op rfl (op_assign (v := (Value.int .i64 0)) rfl ?_)
 refine Rg_nil (Wp_seq (Wp_seq (Wp_region ?_)))
 refine Rg_op rfl (op_loadA (cs := [(Value.int .i64 r_.slots), (Value.slice Aa r_.owners.length Ca), (Value.slice Ab r_.costs.length Cb)]) (vs := [(Value.int .i64 r_.slots), (Value.slice Aa r_.owners.length Ca), (Value.slice Ab r_.costs.length Cb)]) (i := 0) ty25 hs4 rfl rfl rfl rfl ?_)
 refine Rg_op rfl (op_move (v := (Value.slice Ac slots.length Cc)) rfl ?_)
 replace hm := bd hm; obtain ⟨costs_1, hv6, hm⟩ := hm
 refine Rg_op rfl (op_call Try.call22 (c22_coalition_Costs (r_ := r_) (slots := slots) hs4.ltw Ra Fa Fb Fc hv6) rfl ?_)
 rintro v7 w8 ⟨hx9, h10⟩
 have hs11 := hs4.call hx9
 have p12 := Step.ext (O := ks [(some b1, Obj.cells [(Value.int .i64 r_.slots), (Value.slice Aa r_.owners.length Ca), (Value.slice Ab r_.costs.length Cb)].toArray 25)] O) hx9
 clear hx9
 replace Fa := Fa.step p12; replace Fb := Fb.step p12; replace Fc := Fc.step p12; clear p12 hs4
 obtain ⟨v13, v14, rfl, h15, h16⟩ := h10
 obtain ⟨Ad, Cd, rfl, Fd⟩ := un_sl h15
 obtain ⟨rfl, Rb⟩ := h16
 refine Rg_op rfl (op_move (v := (Value.tuple [(Value.slice Ad costs_1.1.length Cd), (Value.int .i64 costs_1.2)].toArray)) rfl ?_)
 refine Rg_op rfl (op_extract (v := (Value.slice Ad costs_1.1.length Cd)) rfl rfl ?_)
 refine Rg_op rfl (op_extract (v := (Value.int .i64 costs_1.2)) rfl rfl ?_)
 refine Rg_op rfl (op_assign (v := (Value.slice Ad costs_1.1.length Cd)) rfl ?_)
 refine Rg_op rfl (op_assign (v := (Value.int .i64 costs_1.2)) rfl ?_)
 refine Rg_nil (Wp_seq ?_)
 obtain ⟨hs19, p20⟩ := hs11.sub (bs' := []) (.cons _ List.Sublist.slnil)
 clear Fa Fb Fd
 replace Fc := Fc.step p20; clear p20 hs11
 refine Wp_region ?_
 refine Rg_op rfl (op_move (v := (Value.int .i64 costs_1.2)) rfl ?_)
 refine Rg_op rfl (op_neq rfl rfl ?_)
 refine Rg_nil ?_
 refine Wp_cond rfl (fun hc21 => ?_) (fun hc21 => ?_)
 replace hm := bif_t hm hc21
 refine Wp_seq ?_
 clear Fc
 refine Wp_region ?_
 refine Rg_op rfl (op_move (v := (Value.int .i64 costs_1.2)) rfl ?_)
 refine Rg_op rfl (op_assign (v := (Value.slice none 0 0)) rfl ?_)
 refine Rg_op rfl (op_assign (v := (Value.int .i64 costs_1.2)) rfl ?_)
 refine Rg_nil ?_
 refine Wp_ret ?_
 have hz := step_all hs19
 refine ⟨_, (show Closes [] _ _ from rfl), [(Value.slice none 0 0), (Value.int .i64 costs_1.2)], ⟨rfl, rfl, trivial⟩, hs19.ext, ?_⟩
 exact Vr.eq (a := (vT2 (vC (rSl (rSl (rInt .i64)))) (vI .i64))) (x := (([] : List (List Int)), costs_1.2)) (mkT2 (mkC (mk_sl SlR.nil_)) ⟨rfl, Rb⟩) (Option.some.inj hm)
 replace hm := bif_f hm hc21
 refine Wp_skip (Wp_seq (Wp_region ?_))
 refine Rg_op rfl (op_makeMap hs19 ?_)
 intro b22 w23 p24 hs25
 replace Fc := Fc.step p24; clear p24 hs19
 have M26 : Mo .i64 (mvI .i64) (Obj.map #[] 0) ([] : List (Int × Int)) := Mo.nil_
 refine Rg_op rfl (op_alloc ty48 hs25 ?_)
 intro b28 w29 _ p30 hs31
 replace Fc := Fc.step p30; clear p30 hs25
 refine Rg_op_ (op_store (cs := [(Value.map none)]) (vs := [(Value.map (some b22))]) (cs' := [(Value.map (some b22))]) (bs' := [(some b28, Obj.cells [(Value.map (some b22))].toArray 48), (some b22, (Obj.map #[] 0))]) (i := 0) ty48 hs31 rfl rfl rfl rfl rfl (le_lit rfl) rfl rfl rfl ?_)
 intro w33 p34 hs35
 replace Fc := Fc.step p34; clear p34 hs31
 refine Rg_nil (Wp_seq (Wp_seq (Wp_region ?_)))
 refine Rg_op rfl (op_move (v := (Value.slice Ac slots.length Cc)) rfl ?_)
 refine Rg_op rfl (op_len Try.underlying22 rfl ?_)
 have rl36 := inK_len Fc
 refine Rg_op rfl (op_move (v := (Value.int .i64 0)) rfl ?_)
 refine Rg_nil (Wp_block ?_)
 refine Wp_reset [] [(1, (Value.slice Ac slots.length Cc)), (4, (Value.slice none 0 0)), (8, (Value.pointer (some ⟨b28, 0, none⟩))), (27, (Value.slice Ac slots.length Cc)), (28, (Value.int .i64 (slots.length : Int))), (29, (Value.int .i64 0))] rfl ⟨rfl, rfl, rfl, rfl, rfl, rfl, trivial⟩ fun ξ39 => ?_
 refine Wp_loopM [9, 10, 29, 30, 31, 32, 33, 34, 35, 36, 37, 38, 39, 40] (fun m fr w' => ∃ (v_1 : Int) (map_1 : List (Int × Int)) (o_g38 : Obj) (Ebs : Ents), Ebs = [(some b28, Obj.cells [(Value.map (some b22))].toArray 48), (some b22, o_g38)] ∧ fr [] [(29, (Value.int .i64 v_1))] ∧ Step (ks [(some b28, Obj.cells [(Value.map (some b22))].toArray 48), (some b22, (Obj.map #[] 0))] O) w33 (ks Ebs O) w' ∧ St ⟨w, [], []⟩ O w' Ebs ∧ InK .i64 v_1 ∧ Mo .i64 (mvI .i64) o_g38 map_1 ∧ loop2 (m14_clearing_Cycles_B0 slots) m v_1 map_1 = some x) (((slots.length : Int) - 0).toNat + 1) ⟨0, ([] : List (Int × Int)), (Obj.map #[] 0), _, rfl, ⟨Out.refl _ _, rfl, rfl, trivial⟩, Step.refl _ _, hs35, (show InK .i64 0 from by decide), M26, hm⟩ ?_ ?_
 rintro _ _ ⟨_, _, _, _, _, _, _, _, _, _, hm⟩; exact loop2_z hm
 rintro m43 K42 hK42 ρ48 w44 ⟨v_1, map_1, o_g38, Ebs, hEbs, hfr47, hst46, hs45, Rc, M_g38, hm⟩
 obtain ⟨sf40, hsf41, hm⟩ := loop2_s hm; unfold m14_clearing_Cycles_B0 at hm
 subst hEbs; rw [hfr47.eq]; clear hfr47
 replace Fc := Fc.step hst46
 have ch49 := hst46
 refine Wp_seq (Wp_region ?_)
 refine Rg_op rfl (op_lss rfl rfl ?_)
 refine Rg_nil (Wp_seq ?_)
 refine Wp_cond rfl (fun hc50 => ?_) (fun hc50 => ?_)
 replace hm := bif_t hm hc50
 refine Wp_skip (Wp_seq (Wp_block (Wp_seq (Wp_region ?_))))
 refine Rg_op rfl (op_move (v := (Value.int .i64 v_1)) rfl ?_)
 replace hm := ck_some hm; obtain ⟨hc51, hm⟩ := hm
 refine Rg_op rfl (op_indexAddr (q := (rInt .i64)) ty22 ty3 rfl rfl Fc rfl hc51.1 hc51.2 ?_)
 intro p52 f53
 refine Rg_op rfl (op_loadP ty3 rfl f53 rfl ?_)
 intro v54 h55
 obtain ⟨rfl, Rd⟩ := un_int h55
 refine Rg_op rfl (op_assign (v := (Value.int .i64 v_1)) rfl ?_)
 refine Rg_op rfl (op_assign (v := (Value.int .i64 (slots.getD v_1.toNat default))) rfl ?_)
 refine Rg_nil (Wp_seq ?_)
 clear f53
 refine Wp_region ?_
 refine Rg_op rfl (op_move (v := (Value.int .i64 (slots.getD v_1.toNat default))) rfl ?_)
 refine Rg_op rfl (op_move (v := (Value.int .i64 v_1)) rfl ?_)
 refine Rg_op rfl (op_neq rfl rfl ?_)
 refine Rg_nil ?_
 refine Wp_cond rfl (fun hc57 => ?_) (fun hc57 => ?_)
 replace hm := bif_t hm hc57
 refine Wp_region ?_
 refine Rg_op rfl (op_load (cs := [(Value.map (some b22))]) (i := 0) ty48 hs45 rfl rfl rfl ?_)
 refine Rg_op rfl (op_move (v := (Value.int .i64 (slots.getD v_1.toNat default))) rfl ?_)
 refine Rg_op rfl (op_move (v := (Value.int .i64 v_1)) rfl ?_)
 refine Rg_op_ (op_mapUpdate (q := .i64) (m := (mvI .i64)) (v := v_1) (i := 1) Try.underlying48 Try.underlying3 hs45 rfl M_g38 rfl rfl rfl rfl Rd Rc ?_)
 intro o58 w59 p60 hs61 M62
 replace Fc := Fc.step p60; replace ch49 := ch49.trans p60; clear p60 hs45
 refine Rg_nil (Wp_region ?_)
 refine Rg_op rfl (op_addw rfl rfl ?_)
 refine Rg_op rfl (op_move (v := (Value.int .i64 (IntKind.wrap .i64 (v_1 + 1)))) rfl ?_)
 refine Rg_nil ?_
 exact hK42 _ _ ⟨(IntKind.wrap .i64 (v_1 + 1)), (mput map_1 (slots.getD v_1.toNat default) v_1), o58, _, rfl, ⟨(by repeat (first | with_reducible exact Out.refl _ _ | refine Out.upd ?_ rfl | refine Out.updL ?_ rfl | refine Out.mix' ?_ rfl | exact Out.refl _ _)), rfl, rfl, trivial⟩, ch49, hs61, (inK_wrap .i64 _), M62, jnE2 hsf41 hm⟩
 replace hm := bif_f hm hc57
 refine Wp_skip (Wp_region ?_)
 refine Rg_op rfl (op_addw rfl rfl ?_)
 refine Rg_op rfl (op_move (v := (Value.int .i64 (IntKind.wrap .i64 (v_1 + 1)))) rfl ?_)
 refine Rg_nil ?_
 exact hK42 _ _ ⟨(IntKind.wrap .i64 (v_1 + 1)), map_1, o_g38, _, rfl, ⟨(by repeat (first | with_reducible exact Out.refl _ _ | refine Out.upd ?_ rfl | refine Out.updL ?_ rfl | refine Out.mix' ?_ rfl | exact Out.refl _ _)), rfl, rfl, trivial⟩, ch49, hs45, (inK_wrap .i64 _), M_g38, jnE2 hsf41 hm⟩
 replace hm := bif_f hm hc50
 refine Wp_exit (Wp_seq (Wp_region ?_))
 refine Rg_op rfl (op_makeMap hs45 ?_)
 intro b63 w64 p65 hs66
 replace Fc := Fc.step p65; replace ch49 := ch49.trans p65; clear p65 hs45
 have M67 : Mo .i64 mvB (Obj.map #[] 0) ([] : List (Int × Bool)) := Mo.nil_
 refine Rg_op rfl (op_alloc ty39 hs66 ?_)
 intro b69 w70 _ p71 hs72
 replace Fc := Fc.step p71; replace ch49 := ch49.trans p71; clear p71 hs66
 refine Rg_op_ (op_store (cs := [(Value.map none)]) (vs := [(Value.map (some b63))]) (cs' := [(Value.map (some b63))]) (bs' := [(some b69, Obj.cells [(Value.map (some b63))].toArray 39), (some b63, (Obj.map #[] 0)), (some b28, Obj.cells [(Value.map (some b22))].toArray 48), (some b22, o_g38)]) (i := 0) ty39 hs72 rfl rfl rfl rfl rfl (le_lit rfl) rfl rfl rfl ?_)
 intro w74 p75 hs76
 replace Fc := Fc.step p75; replace ch49 := ch49.trans p75; clear p75 hs72
 refine Rg_nil (Wp_seq (Wp_region ?_))
 obtain ⟨hs78, p79, f77⟩ := St.publishP (p := rVal (Value.map (some b63)) rfl) (i := 0) (x := ()) hs76 rfl rfl
 replace Fc := Fc.step p79; replace ch49 := ch49.trans p79; clear p79 hs76
 obtain ⟨hs81, p82, f80⟩ := St.publishM (i := 2) hs78 rfl M_g38
 replace Fc := Fc.step p82; replace f77 := f77.step p82; replace ch49 := ch49.trans p82; clear p82 hs78
 obtain ⟨hs84, p85, f83⟩ := St.publishP (p := (rMp .i64 (mvI .i64))) (i := 1) (x := map_1) hs81 rfl (mk_mp f80)
 replace Fc := Fc.step p85; replace f77 := f77.step p85; replace f80 := f80.step p85; replace ch49 := ch49.trans p85; clear p85 hs81
 refine Rg_op rfl (op_makeFunc' (a' := []) (c' := [(Value.pointer (some (⟨b69, 0, none⟩ : Addr))), (Value.pointer (some (⟨b28, 0, none⟩ : Addr)))]) rfl rfl ?_)
 refine Rg_op rfl (op_assign (v := (Value.func (.func 32) #[] #[(Value.pointer (some (⟨b69, 0, none⟩ : Addr))), (Value.pointer (some (⟨b28, 0, none⟩ : Addr)))])) rfl ?_)
 refine Rg_nil (Wp_seq (Wp_seq ?_))
 clear f80
 refine Wp_region ?_
 refine Rg_op rfl (op_move (v := (Value.slice Ac slots.length Cc)) rfl ?_)
 refine Rg_op rfl (op_len Try.underlying22 rfl ?_)
 have rl86 := inK_len Fc
 refine Rg_op rfl (op_move (v := (Value.int .i64 0)) rfl ?_)
 refine Rg_nil (Wp_block ?_)
 refine Wp_reset [] [(1, (Value.slice Ac slots.length Cc)), (4, (Value.slice none 0 0)), (11, (Value.pointer (some (⟨b69, 0, none⟩ : Addr)))), (12, (Value.func (.func 32) #[] #[(Value.pointer (some (⟨b69, 0, none⟩ : Addr))), (Value.pointer (some (⟨b28, 0, none⟩ : Addr)))])), (43, (Value.slice Ac slots.length Cc)), (44, (Value.int .i64 (slots.length : Int))), (45, (Value.int .i64 0))] rfl ⟨rfl, rfl, rfl, rfl, rfl, rfl, rfl, trivial⟩ fun ξ91 => ?_
 have hs96 := hs84.ghost (Obj.cells #[] 22)
 refine Wp_loopM [4, 13, 14, 45, 46, 47, 48, 49, 50, 51, 52, 53, 54, 55, 56, 57, 58, 59, 60] (fun m fr w' => ∃ (l_1 : List (List Int)) (v_2 : Int) (map_2 : List (Int × Bool)) (Ae : Option Addr) (Ce : Nat) (k_g88 : Option Nat) (o_g88 : Obj) (o_g90 : Obj) (Ebs : Ents), Ebs = [(k_g88, o_g88), (some b63, o_g90)] ∧ fr [] [(4, (Value.slice Ae l_1.length Ce)), (45, (Value.int .i64 v_2))] ∧ Step (ks [(none, (Obj.cells #[] 22)), (some b63, (Obj.map #[] 0))] O) w74 (ks Ebs O) w' ∧ St ⟨w, [], []⟩ O w' Ebs ∧ Gs (rSl (rInt .i64)) 22 w' (ks Ebs O) Ae Ce l_1 k_g88 o_g88 ∧ InK .i64 v_2 ∧ Mo .i64 mvB o_g90 map_2 ∧ loop3 (m14_clearing_Cycles_B1 slots map_1) m l_1 v_2 map_2 = some x) (((slots.length : Int) - 0).toNat + 1) ⟨([] : List (List Int)), 0, ([] : List (Int × Bool)), none, 0, none, (Obj.cells #[] 22), (Obj.map #[] 0), _, rfl, ⟨Out.refl _ _, rfl, rfl, rfl, trivial⟩, Step.refl _ _, hs96, Gs.nil_, (show InK .i64 0 from by decide), M67, hm⟩ ?_ ?_
 rintro _ _ ⟨_, _, _, _, _, _, _, _, _, _, _, _, _, _, _, _, hm⟩; exact loop3_z hm
 rintro m95 K94 hK94 ρ102 w98 ⟨l_1, v_2, map_2, Ae, Ce, k_g88, o_g88, o_g90, Ebs, hEbs, hfr101, hst100, hs99, Fe, Re, M_g90, hm⟩
 obtain ⟨sf92, hsf93, hm⟩ := loop3_s hm; unfold m14_clearing_Cycles_B1 at hm
 subst hEbs; rw [hfr101.eq]; clear hfr101
 replace Fc := Fc.step hst100; replace f77 := f77.step hst100; replace f83 := f83.step hst100; replace ch49 := ch49.trans hst100
 have ch103 := hst100
 refine Wp_seq (Wp_region ?_)
 refine Rg_op rfl (op_lss rfl rfl ?_)
 refine Rg_nil (Wp_seq ?_)
 refine Wp_cond rfl (fun hc104 => ?_) (fun hc104 => ?_)
 replace hm := bif_t hm hc104
 refine Wp_skip (Wp_seq (Wp_block (Wp_seq (Wp_region ?_))))
 refine Rg_op rfl (op_move (v := (Value.int .i64 v_2)) rfl ?_)
 replace hm := ck_some hm; obtain ⟨hc105, hm⟩ := hm
 refine Rg_op rfl (op_indexAddr (q := (rInt .i64)) ty22 ty3 rfl rfl Fc rfl hc105.1 hc105.2 ?_)
 intro p106 f107
 refine Rg_op rfl (op_loadP ty3 rfl f107 rfl ?_)
 intro v108 h109
 obtain ⟨rfl, Rf⟩ := un_int h109
 refine Rg_op rfl (op_assign (v := (Value.int .i64 v_2)) rfl ?_)
 refine Rg_op rfl (op_assign (v := (Value.int .i64 (slots.getD v_2.toNat default))) rfl ?_)
 refine Rg_nil (Wp_seq ?_)
 clear f107
 refine Wp_region ?_
 refine Rg_op rfl (op_move (v := (Value.int .i64 (slots.getD v_2.toNat default))) rfl ?_)
 refine Rg_op rfl (op_move (v := (Value.slice Ac slots.length Cc)) rfl ?_)
 refine Rg_op rfl (op_len Try.underlying22 rfl ?_)
 have rl111 := inK_len Fc
 refine Rg_op rfl (op_geq rfl rfl ?_)
 refine Rg_nil ?_
 refine Wp_cond rfl (fun hc112 => ?_) (fun hc112 => ?_)
 replace hm := bif_t hm hc112
 refine Wp_region ?_
 refine Rg_op rfl (op_move (v := (Value.slice Ae l_1.length Ce)) rfl ?_)
 refine Rg_op rfl (op_move (v := (Value.func (.func 32) #[] #[(Value.pointer (some (⟨b69, 0, none⟩ : Addr))), (Value.pointer (some (⟨b28, 0, none⟩ : Addr)))])) rfl ?_)
 refine Rg_op rfl (op_move (v := (Value.int .i64 v_2)) rfl ?_)
 replace hm := bd hm; obtain ⟨cycles1_1, hv113, hm⟩ := hm
 obtain ⟨ho114, hb115, hh116, hp117⟩ := St.lendM (i := 1) hs99 rfl
 refine Rg_op rfl (op_callM (i := 1) (q := .i64) (m := mvB) (R := (vC (rSl (rInt .i64)))) (y := cycles1_1.1) (mp' := cycles1_1.2) (vs := [(Value.int .i64 v_2)]) rfl hs99 rfl ⟨32, #[], #[(Value.pointer (some (⟨b69, 0, none⟩ : Addr))), (Value.pointer (some (⟨b28, 0, none⟩ : Addr)))], rfl, Try.call32, c32_clearing_Cycles_1 (first := v_2) (fv0_ := map_2) (fv1_ := map_1) (x0 := cycles1_1.1) (mz := cycles1_1.2) ho114 Re hb115 hh116 (f77.step hp117) M_g90 (f83.step hp117) hv113⟩ rfl ?_)
 intro v118 w119 o120 p121 hs122 M123 h124; clear ho114 hb115 hh116 hp117
 replace Fc := Fc.step p121; replace f77 := f77.step p121; replace f83 := f83.step p121; replace Fe := Fe.step p121; replace ch49 := ch49.trans p121; replace ch103 := ch103.trans p121; clear p121 hs99
 replace h124 : Vr.vd (vC (rSl (rInt .i64))) _ (ks [(k_g88, o_g88), (some b63, o120)] O) _ _ := h124
 obtain ⟨Af, Cf, rfl, Ff⟩ := un_sl h124
 refine Rg_op rfl (op_buildSlice (cs := [(Value.slice Af cycles1_1.1.length Cf)]) (parts := [(0, .tmp 57)]) ty23 ty22 hs122 (by decide) rfl ?_)
 intro b126 w127 hx130 p128 hs129
 replace Fc := Fc.step p128; replace f77 := f77.step p128; replace f83 := f83.step p128; replace Fe := Fe.step p128; replace Ff := Ff.step p128; replace ch49 := ch49.trans p128; replace ch103 := ch103.trans p128; clear p128 hs122
 replace hm := ck_some hm; obtain ⟨hc132, hm⟩ := hm
 refine Rg_op rfl (op_append (q := (rSl (rInt .i64))) (i := 1) (xs := l_1) (ys := [cycles1_1.1]) (news := [(Value.slice Af cycles1_1.1.length Cf)]) ty23 ty22 rfl (by decide) hs129 rfl rfl Fe rfl (Src.owned' (len := 1) (hs129.get (i := 0) rfl) rfl) (show Els (rSl (rInt .i64)) _ _ [(Value.slice Af cycles1_1.1.length Cf)] [cycles1_1.1] from ⟨_, _, rfl, (mk_sl Ff), Els.nil⟩) hc132 (by have := hc132; simp only [maxLen]; omega) ?_)
 intro a136 c137 k138 o139 w133 p134 hs135 f140
 replace Fc := Fc.step p134; replace f77 := f77.step p134; replace f83 := f83.step p134; replace Ff := Ff.step p134; replace ch49 := ch49.trans p134; replace ch103 := ch103.trans p134; clear p134 hs129
 have hs141 := hs135.drop 0
 replace Fc := Fc.step (hs135.dropS 0)
 replace f77 := f77.step (hs135.dropS 0)
 replace f83 := f83.step (hs135.dropS 0)
 replace Ff := Ff.step (hs135.dropS 0)
 replace f140 := f140.step (hs135.dropS 0)
 replace ch49 := ch49.trans (hs135.dropS 0)
 replace ch103 := ch103.trans (hs135.dropS 0); clear hs135
 refine Rg_op rfl (op_assign (v := (Value.slice a136 (l_1 ++ [cycles1_1.1]).length c137)) rfl ?_)
 refine Rg_nil ?_
 clear Ff
 refine Wp_region ?_
 refine Rg_op rfl (op_addw rfl rfl ?_)
 refine Rg_op rfl (op_move (v := (Value.int .i64 (IntKind.wrap .i64 (v_2 + 1)))) rfl ?_)
 refine Rg_nil ?_
 exact hK94 _ _ ⟨(l_1 ++ [cycles1_1.1]), (IntKind.wrap .i64 (v_2 + 1)), cycles1_1.2, a136, c137, k138, o139, o120, _, rfl, ⟨(by repeat (first | with_reducible exact Out.refl _ _ | refine Out.upd ?_ rfl | refine Out.updL ?_ rfl | refine Out.mix' ?_ rfl | exact Out.refl _ _)), rfl, rfl, rfl, trivial⟩, ch103, hs141, f140, (inK_wrap .i64 _), M123, jnE3 hsf93 hm⟩
 replace hm := bif_f hm hc112
 refine Wp_skip (Wp_region ?_)
 refine Rg_op rfl (op_addw rfl rfl ?_)
 refine Rg_op rfl (op_move (v := (Value.int .i64 (IntKind.wrap .i64 (v_2 + 1)))) rfl ?_)
 refine Rg_nil ?_
 exact hK94 _ _ ⟨l_1, (IntKind.wrap .i64 (v_2 + 1)), map_2, Ae, Ce, k_g88, o_g88, o_g90, _, rfl, ⟨(by repeat (first | with_reducible exact Out.refl _ _ | refine Out.upd ?_ rfl | refine Out.updL ?_ rfl | refine Out.mix' ?_ rfl | exact Out.refl _ _)), rfl, rfl, rfl, trivial⟩, ch103, hs99, Fe, (inK_wrap .i64 _), M_g90, jnE3 hsf93 hm⟩
 replace hm := bif_f hm hc104
 refine Wp_exit (Wp_seq (Wp_seq (Wp_region ?_)))
 refine Rg_op rfl (op_move (v := (Value.slice Ac slots.length Cc)) rfl ?_)
 refine Rg_op rfl (op_len Try.underlying22 rfl ?_)
 have rl142 := inK_len Fc
 refine Rg_op rfl (op_move (v := (Value.int .i64 0)) rfl ?_)
 refine Rg_nil (Wp_block ?_)
 refine Wp_reset [] [(4, (Value.slice Ae l_1.length Ce)), (11, (Value.pointer (some (⟨b69, 0, none⟩ : Addr)))), (12, (Value.func (.func 32) #[] #[(Value.pointer (some (⟨b69, 0, none⟩ : Addr))), (Value.pointer (some (⟨b28, 0, none⟩ : Addr)))])), (61, (Value.slice Ac slots.length Cc)), (62, (Value.int .i64 (slots.length : Int))), (63, (Value.int .i64 0))] rfl ⟨rfl, rfl, rfl, rfl, rfl, rfl, trivial⟩ fun ξ146 => ?_
 refine Wp_loopM [4, 15, 16, 63, 64, 65, 66, 67, 68, 69, 70, 71, 72, 73, 74, 75, 76, 77, 78, 79, 80, 81, 82, 83] (fun m fr w' => ∃ (l_2 : List (List Int)) (v_3 : Int) (map_3 : List (Int × Bool)) (Ag : Option Addr) (Cg : Nat) (k_g143 : Option Nat) (o_g143 : Obj) (o_g145 : Obj) (Ebs : Ents), Ebs = [(k_g143, o_g143), (some b63, o_g145)] ∧ fr [] [(4, (Value.slice Ag l_2.length Cg)), (63, (Value.int .i64 v_3))] ∧ Step (ks [(k_g88, o_g88), (some b63, o_g90)] O) w98 (ks Ebs O) w' ∧ St ⟨w, [], []⟩ O w' Ebs ∧ Gs (rSl (rInt .i64)) 22 w' (ks Ebs O) Ag Cg l_2 k_g143 o_g143 ∧ InK .i64 v_3 ∧ Mo .i64 mvB o_g145 map_3 ∧ loop3 (m14_clearing_Cycles_B2 slots map_1) m l_2 v_3 map_3 = some x) (((slots.length : Int) - 0).toNat + 1) ⟨l_1, 0, map_2, Ae, Ce, k_g88, o_g88, o_g90, _, rfl, ⟨Out.refl _ _, rfl, rfl, rfl, trivial⟩, Step.refl _ _, hs99, Fe, (show InK .i64 0 from by decide), M_g90, hm⟩ ?_ ?_
 rintro _ _ ⟨_, _, _, _, _, _, _, _, _, _, _, _, _, _, _, _, hm⟩; exact loop3_z hm
 rintro m150 K149 hK149 ρ155 w151 ⟨l_2, v_3, map_3, Ag, Cg, k_g143, o_g143, o_g145, Ebs, hEbs, hfr154, hst153, hs152, Fg, Rg, M_g145, hm⟩
 obtain ⟨sf147, hsf148, hm⟩ := loop3_s hm; unfold m14_clearing_Cycles_B2 at hm
 subst hEbs; rw [hfr154.eq]; clear hfr154
 replace Fc := Fc.step hst153; replace f77 := f77.step hst153; replace f83 := f83.step hst153; replace Fe := Fe.step hst153; replace ch49 := ch49.trans hst153; replace ch103 := ch103.trans hst153
 have ch156 := hst153
 refine Wp_seq ?_
 clear Fe
 refine Wp_region ?_
 refine Rg_op rfl (op_lss rfl rfl ?_)
 refine Rg_nil (Wp_seq ?_)
 refine Wp_cond rfl (fun hc157 => ?_) (fun hc157 => ?_)
 replace hm := bif_t hm hc157
 refine Wp_skip (Wp_seq (Wp_block (Wp_seq (Wp_region ?_))))
 refine Rg_op rfl (op_move (v := (Value.int .i64 v_3)) rfl ?_)
 replace hm := ck_some hm; obtain ⟨hc158, hm⟩ := hm
 refine Rg_op rfl (op_indexAddr (q := (rInt .i64)) ty22 ty3 rfl rfl Fc rfl hc158.1 hc158.2 ?_)
 intro p159 f160
 refine Rg_op rfl (op_loadP ty3 rfl f160 rfl ?_)
 intro v161 h162
 obtain ⟨rfl, Rh⟩ := un_int h162
 refine Rg_op rfl (op_assign (v := (Value.int .i64 v_3)) rfl ?_)
 refine Rg_op rfl (op_assign (v := (Value.int .i64 (slots.getD v_3.toNat default))) rfl ?_)
 refine Rg_nil ?_
 refine Wp_reset2 [4, 15, 16, 63, 64, 65, 66, 67, 68, 69, 70, 71, 72, 73, 74, 75, 76, 77, 78, 79, 80, 81, 82, 83] [] (updL ⟨ξ146, []⟩ [(4, (Value.slice Ae l_1.length Ce)), (11, (Value.pointer (some (⟨b69, 0, none⟩ : Addr)))), (12, (Value.func (.func 32) #[] #[(Value.pointer (some (⟨b69, 0, none⟩ : Addr))), (Value.pointer (some (⟨b28, 0, none⟩ : Addr)))])), (61, (Value.slice Ac slots.length Cc)), (62, (Value.int .i64 (slots.length : Int))), (63, (Value.int .i64 0))]) [(4, (Value.slice Ag l_2.length Cg)), (15, (Value.int .i64 v_3)), (16, (Value.int .i64 (slots.getD v_3.toNat default))), (63, (Value.int .i64 v_3))] (by repeat (first | with_reducible exact Out.refl _ _ | refine Out.upd ?_ rfl | refine Out.updL ?_ rfl | refine Out.mix' ?_ rfl | exact Out.refl _ _)) rfl ⟨rfl, rfl, rfl, rfl, trivial⟩ fun ξ164 => ?_
 replace hm := jn_elim hm; obtain ⟨k166, hk167, hm⟩ := hm
 refine Wp_seqJ [68, 69, 70, 71, 72, 73, 74, 75, 76] (fun fr w' => ∃ (v_4 : Bool) (Ebs : Ents), Ebs = [(k_g143, o_g143), (some b63, o_g145)] ∧ fr [] [(76, (Value.bool v_4))] ∧ Step (ks [(k_g143, o_g143), (some b63, o_g145)] O) w151 (ks Ebs O) w' ∧ St ⟨w, [], []⟩ O w' Ebs ∧ k166 v_4 = some x) ?_ ?_
 rintro ρ173 w169 ⟨v_4, Ebs, hEbs, hfr172, hst171, hs170, hm⟩
 replace hm := jnE1 hk167 hm
 subst hEbs; rw [hfr172.eq]; clear hfr172
 replace Fc := Fc.step hst171; replace f77 := f77.step hst171; replace f83 := f83.step hst171; replace Fg := Fg.step hst171; replace f160 := f160.step hst171; replace ch49 := ch49.trans hst171; replace ch103 := ch103.trans hst171; replace ch156 := ch156.trans hst171; clear hst171 hs152
 refine Wp_cond rfl (fun hc174 => ?_) (fun hc174 => ?_)
 replace hm := bif_t hm hc174
 clear f160
 refine Wp_region ?_
 refine Rg_op rfl (op_move (v := (Value.slice Ag l_2.length Cg)) rfl ?_)
 refine Rg_op rfl (op_move (v := (Value.func (.func 32) #[] #[(Value.pointer (some (⟨b69, 0, none⟩ : Addr))), (Value.pointer (some (⟨b28, 0, none⟩ : Addr)))])) rfl ?_)
 refine Rg_op rfl (op_move (v := (Value.int .i64 v_3)) rfl ?_)
 replace hm := bd hm; obtain ⟨cycles1_2, hv175, hm⟩ := hm
 obtain ⟨ho176, hb177, hh178, hp179⟩ := St.lendM (i := 1) hs170 rfl
 refine Rg_op rfl (op_callM (i := 1) (q := .i64) (m := mvB) (R := (vC (rSl (rInt .i64)))) (y := cycles1_2.1) (mp' := cycles1_2.2) (vs := [(Value.int .i64 v_3)]) rfl hs170 rfl ⟨32, #[], #[(Value.pointer (some (⟨b69, 0, none⟩ : Addr))), (Value.pointer (some (⟨b28, 0, none⟩ : Addr)))], rfl, Try.call32, c32_clearing_Cycles_1 (first := v_3) (fv0_ := map_3) (fv1_ := map_1) (x0 := cycles1_2.1) (mz := cycles1_2.2) ho176 Rg hb177 hh178 (f77.step hp179) M_g145 (f83.step hp179) hv175⟩ rfl ?_)
 intro v180 w181 o182 p183 hs184 M185 h186; clear ho176 hb177 hh178 hp179
 replace Fc := Fc.step p183; replace f77 := f77.step p183; replace f83 := f83.step p183; replace Fg := Fg.step p183; replace ch49 := ch49.trans p183; replace ch103 := ch103.trans p183; replace ch156 := ch156.trans p183; clear p183 hs170
 replace h186 : Vr.vd (vC (rSl (rInt .i64))) _ (ks [(k_g143, o_g143), (some b63, o182)] O) _ _ := h186
 obtain ⟨Ah, Ch, rfl, Fh⟩ := un_sl h186
 refine Rg_op rfl (op_buildSlice (cs := [(Value.slice Ah cycles1_2.1.length Ch)]) (parts := [(0, .tmp 80)]) ty23 ty22 hs184 (by decide) rfl ?_)
 intro b188 w189 hx192 p190 hs191
 replace Fc := Fc.step p190; replace f77 := f77.step p190; replace f83 := f83.step p190; replace Fg := Fg.step p190; replace Fh := Fh.step p190; replace ch49 := ch49.trans p190; replace ch103 := ch103.trans p190; replace ch156 := ch156.trans p190; clear p190 hs184
 replace hm := ck_some hm; obtain ⟨hc194, hm⟩ := hm
 refine Rg_op rfl (op_append (q := (rSl (rInt .i64))) (i := 1) (xs := l_2) (ys := [cycles1_2.1]) (news := [(Value.slice Ah cycles1_2.1.length Ch)]) ty23 ty22 rfl (by decide) hs191 rfl rfl Fg rfl (Src.owned' (len := 1) (hs191.get (i := 0) rfl) rfl) (show Els (rSl (rInt .i64)) _ _ [(Value.slice Ah cycles1_2.1.length Ch)] [cycles1_2.1] from ⟨_, _, rfl, (mk_sl Fh), Els.nil⟩) hc194 (by have := hc194; simp only [maxLen]; omega) ?_)
 intro a198 c199 k200 o201 w195 p196 hs197 f202
 replace Fc := Fc.step p196; replace f77 := f77.step p196; replace f83 := f83.step p196; replace Fh := Fh.step p196; replace ch49 := ch49.trans p196; replace ch103 := ch103.trans p196; replace ch156 := ch156.trans p196; clear p196 hs191
 have hs203 := hs197.drop 0
 replace Fc := Fc.step (hs197.dropS 0)
 replace f77 := f77.step (hs197.dropS 0)
 replace f83 := f83.step (hs197.dropS 0)
 replace Fh := Fh.step (hs197.dropS 0)
 replace f202 := f202.step (hs197.dropS 0)
 replace ch49 := ch49.trans (hs197.dropS 0)
 replace ch103 := ch103.trans (hs197.dropS 0)
 replace ch156 := ch156.trans (hs197.dropS 0); clear hs197
 refine Rg_op rfl (op_assign (v := (Value.slice a198 (l_2 ++ [cycles1_2.1]).length c199)) rfl ?_)
 refine Rg_nil ?_
 clear Fh
 refine Wp_region ?_
 refine Rg_op rfl (op_addw rfl rfl ?_)
 refine Rg_op rfl (op_move (v := (Value.int .i64 (IntKind.wrap .i64 (v_3 + 1)))) rfl ?_)
 refine Rg_nil ?_
 exact hK149 _ _ ⟨(l_2 ++ [cycles1_2.1]), (IntKind.wrap .i64 (v_3 + 1)), cycles1_2.2, a198, c199, k200, o201, o182, _, rfl, ⟨(by repeat (first | with_reducible exact Out.refl _ _ | refine Out.upd ?_ rfl | refine Out.updL ?_ rfl | refine Out.mix' ?_ rfl | exact Out.refl _ _)), rfl, rfl, rfl, trivial⟩, ch156, hs203, f202, (inK_wrap .i64 _), M185, jnE3 hsf148 hm⟩
 replace hm := bif_f hm hc174
 refine Wp_skip ?_
 clear f160
 refine Wp_region ?_
 refine Rg_op rfl (op_addw rfl rfl ?_)
 refine Rg_op rfl (op_move (v := (Value.int .i64 (IntKind.wrap .i64 (v_3 + 1)))) rfl ?_)
 refine Rg_nil ?_
 exact hK149 _ _ ⟨l_2, (IntKind.wrap .i64 (v_3 + 1)), map_3, Ag, Cg, k_g143, o_g143, o_g145, _, rfl, ⟨(by repeat (first | with_reducible exact Out.refl _ _ | refine Out.upd ?_ rfl | refine Out.updL ?_ rfl | refine Out.mix' ?_ rfl | exact Out.refl _ _)), rfl, rfl, rfl, trivial⟩, ch156, hs170, Fg, (inK_wrap .i64 _), M_g145, jnE3 hsf148 hm⟩
 intro K168 hK168
 have ch204 := Step.refl (ks [(k_g143, o_g143), (some b63, o_g145)] O) w151
 clear f160
 refine Wp_region ?_
 refine Rg_op rfl (op_move (v := (Value.int .i64 (slots.getD v_3.toNat default))) rfl ?_)
 refine Rg_op rfl (op_move (v := (Value.int .i64 v_3)) rfl ?_)
 refine Rg_op rfl (op_neq rfl rfl ?_)
 refine Rg_op rfl (op_move (v := (Value.bool (decide ((slots.getD v_3.toNat default) ≠ v_3)))) rfl ?_)
 refine Rg_case (fun hg205 => ?_) (fun hg205 => ?_)
 replace hm := bif_t hm hg205
 refine Rg_opg rfl rfl rfl (op_loadP ty39 rfl f77 rfl ?_)
 intro v206 h207
 obtain rfl := un_val h207
 refine Rg_opg rfl rfl rfl (op_move (v := (Value.int .i64 v_3)) rfl ?_)
 refine Rg_opg rfl rfl rfl (op_lookup (q := .i64) (m := mvB) (z := false) Try.underlying39 Try.underlying3 Try.zeroValue4 (hs152.get (i := 1) rfl) M_g145 rfl rfl ?_)
 refine Rg_opg rfl rfl rfl (op_not rfl ?_)
 refine Rg_op rfl (op_pick_t (v := (Value.bool (!((mget map_3 v_3).getD false)))) rfl rfl ?_)
 refine Rg_nil ?_
 exact hK168 _ _ ⟨(!((mget map_3 v_3).getD false)), _, rfl, ⟨(by repeat (first | with_reducible exact Out.refl _ _ | refine Out.upd ?_ rfl | refine Out.updL ?_ rfl | refine Out.mix' ?_ rfl | exact Out.refl _ _)), rfl, rfl, trivial⟩, ch204, hs152, hm⟩
 replace hm := bif_f hm hg205
 iterate 4 refine Rg_opx rfl (asB_ne rfl rfl) rfl ?_
 refine Rg_op rfl (op_pick_f (v := (Value.bool false)) rfl rfl ?_)
 refine Rg_nil ?_
 exact hK168 _ _ ⟨false, _, rfl, ⟨(by repeat (first | with_reducible exact Out.refl _ _ | refine Out.upd ?_ rfl | refine Out.updL ?_ rfl | refine Out.mix' ?_ rfl | exact Out.refl _ _)), rfl, rfl, trivial⟩, ch204, hs152, hm⟩
 replace hm := bif_f hm hc157
 refine Wp_exit (Wp_seq ?_)
 obtain ⟨hs208, p209⟩ := hs152.sub (bs' := [(k_g143, o_g143)]) (.cons_cons _ (.cons _ List.Sublist.slnil))
 clear Fc f77 f83
 replace Fg := Fg.step p209; replace ch49 := ch49.trans p209; replace ch103 := ch103.trans p209; replace ch156 := ch156.trans p209; clear p209 hs152
 refine Wp_region ?_
 refine Rg_op rfl (op_move (v := (Value.slice Ag l_2.length Cg)) rfl ?_)
 have F212 : CallsTo2 Try.prog w151 (ks [(k_g143, o_g143)] O) (Value.func (.func 34) #[] #[]) (vC (rSl (rInt .i64))) (vC (rSl (rInt .i64))) (vI .i64) (fun x210 x211 => m34_clearing_Cycles_2 x210 x211) := by
  intro w213 O214 st215 hO216 v219 v220 x210 x211 y217 h221 h222 hy218
  obtain ⟨Ai, Ci, rfl, Fi⟩ := un_sl h221
  obtain ⟨Aj, Cj, rfl, Fj⟩ := un_sl h222
  exact ⟨34, #[], #[], rfl, Try.call34, c34_clearing_Cycles_2 (a := x210) (b := x211) hO216 Fi Fj hy218⟩
 replace hm := bd hm; obtain ⟨sorted_1, hv225, hm⟩ := hm
 replace hm := ck_some hm; obtain ⟨hc226, hm⟩ := hm
 have F234 : CallsTo2 Try.prog w151 (ks [(k_g143, o_g143)] O) (Value.func (.func 34) #[] #[]) (vC (rSl (rInt .i64))) (vC (rSl (rInt .i64))) (vI .i64) (fun x232 x233 => m34_clearing_Cycles_2 x232 x233) := by
  intro w235 O236 st237 hO238 v241 v242 x232 x233 y239 h243 h244 hy240
  obtain ⟨Ak, Ck, rfl, Fk⟩ := un_sl h243
  obtain ⟨Al, Cl, rfl, Fl⟩ := un_sl h244
  exact ⟨34, #[], #[], rfl, Try.call34, c34_clearing_Cycles_2 (a := x232) (b := x233) hO238 Fk Fl hy240⟩
 refine Rg_op rfl (op_sortG (q := (rSl (rInt .i64))) (i := 0) (caps := #[]) sortL33 rfl Try.call33 rfl Try.call34 hs208 rfl Fg F212 hv225 hc226 rfl ?_)
 intro w227 o228 hs229 p230 f231
 replace F212 := F212.step p230; replace F234 := F234.step p230; replace ch49 := ch49.trans p230; replace ch103 := ch103.trans p230; replace ch156 := ch156.trans p230; clear p230 hs208
 refine Rg_nil (Wp_seq ?_)
 clear F212 F234
 refine Wp_region ?_
 refine Rg_op rfl (op_move (v := (Value.slice Ag sorted_1.length Cg)) (eqlen rfl (show l_2.length = sorted_1.length from by rw [sortM_len hv225])) ?_)
 refine Rg_op rfl (op_assign (v := (Value.slice Ag sorted_1.length Cg)) rfl ?_)
 refine Rg_op rfl (op_assign (v := (Value.int .i64 0)) rfl ?_)
 refine Rg_nil ?_
 refine Wp_ret ?_
 obtain ⟨hs248, p249, f247⟩ := Gs.publish (i := 0) hs229 rfl f231
 replace ch49 := ch49.trans p249; replace ch103 := ch103.trans p249; replace ch156 := ch156.trans p249; clear p249 hs229
 have hz := step_all hs248
 replace f247 := f247.step hz
 refine ⟨_, (show Closes [] _ _ from rfl), [(Value.slice Ag sorted_1.length Cg), (Value.int .i64 0)], ⟨rfl, rfl, trivial⟩, hs248.ext, ?_⟩
 exact Vr.eq (a := (vT2 (vC (rSl (rSl (rInt .i64)))) (vI .i64))) (x := (sorted_1, 0)) (mkT2 (mkC (mk_sl f247)) ⟨rfl, (show InK .i64 0 from by decide)⟩) (Option.some.inj hm)

def m16_overflightref37_SameInts_B0 (a : List Int) (b : List Int) (sf6 : Int → Option Bool) (i_1 : Int) : Option Bool :=
 bif (decide (i_1 < (a.length : Int))) then
  ck ((0 : Int) ≤ i_1 ∧ i_1 < (a.length : Int)) <|
  ck ((0 : Int) ≤ i_1 ∧ i_1 < (b.length : Int)) <|
  bif (decide ((a.getD i_1.toNat default) ≠ (b.getD i_1.toNat default))) then
   some false
  else
   sf6 (IntKind.wrap .i64 (i_1 + 1))
 else
  some true

def m16_overflightref37_SameInts (a : List Int) (b : List Int) : Option Bool :=
 bif (decide ((a.length : Int) ≠ (b.length : Int))) then
  some false
 else
  loop1 (m16_overflightref37_SameInts_B0 a b) (((a.length : Int) - 0).toNat + 1) 0

theorem c16_overflightref37_SameInts {w : World} {O : List Nat} {a : List Int} {b : List Int} {Aa : Option Addr} {Ca : Nat} {Ab : Option Addr} {Cb : Nat} (hO : ∀ k ∈ O, k < w.heap.size) (Fa : SlR (rInt .i64) w O Aa Ca a) (Fb : SlR (rInt .i64) w O Ab Cb b) {x : Bool} (hm : m16_overflightref37_SameInts a b = some x) :
 Ok Try.prog 16 [(Value.slice Aa a.length Ca), (Value.slice Ab b.length Cb)] w O vB x := by
 unfold m16_overflightref37_SameInts at hm
 refine Fn_of_Wp (n := 26) (xs := [.tmp 4]) Try.func16 rfl Try.ntmps16 Try.results16 rfl ?_
 have hs := St.start hO
 refine Wp_seq (Wp_region ?_)
 refine Rg_op rfl (op_assign (v := (Value.bool false)) rfl ?_)
 refine Rg_nil (Wp_seq (Wp_seq (Wp_region ?_)))
 refine Rg_op rfl (op_move (v := (Value.slice Aa a.length Ca)) rfl ?_)
 refine Rg_op rfl (op_len Try.underlying22 rfl ?_)
 have rl1 := inK_len Fa
 refine Rg_op rfl (op_move (v := (Value.slice Ab b.length Cb)) rfl ?_)
 refine Rg_op rfl (op_len Try.underlying22 rfl ?_)
 have rl2 := inK_len Fb
 refine Rg_op rfl (op_neq rfl rfl ?_)
 refine Rg_nil ?_
 refine Wp_cond rfl (fun hc3 => ?_) (fun hc3 => ?_)
 replace hm := bif_t hm hc3
 refine Wp_seq ?_
 clear Fa Fb
 refine Wp_region ?_
 refine Rg_op rfl (op_assign (v := (Value.bool false)) rfl ?_)
 refine Rg_nil ?_
 refine Wp_ret ?_
 have hz := step_all hs
 refine ⟨_, (show Closes [] _ _ from rfl), [(Value.bool false)], ⟨rfl, trivial⟩, hs.ext, ?_⟩
 exact Vr.eq (a := vB) (x := false) rfl (Option.some.inj hm)
 replace hm := bif_f hm hc3
 refine Wp_skip (Wp_seq (Wp_seq (Wp_region ?_)))
 refine Rg_op rfl (op_assign (v := (Value.int .i64 0)) rfl ?_)
 refine Rg_nil (Wp_block ?_)
 refine Wp_reset [] [(0, (Value.slice Aa a.length Ca)), (1, (Value.slice Ab b.length Cb)), (5, (Value.int .i64 0))] rfl ⟨rfl, rfl, rfl, trivial⟩ fun ξ5 => ?_
 refine Wp_loopM [4, 5, 11, 12, 13, 14, 15, 16, 17, 18, 19, 20, 21, 22, 23, 24, 25] (fun m fr w' => ∃ (i_1 : Int) (Ebs : Ents), Ebs = [] ∧ fr [] [(5, (Value.int .i64 i_1))] ∧ Step (ks [] O) w (ks Ebs O) w' ∧ St ⟨w, [], []⟩ O w' Ebs ∧ InK .i64 i_1 ∧ loop1 (m16_overflightref37_SameInts_B0 a b) m i_1 = some x) (((a.length : Int) - 0).toNat + 1) ⟨0, _, rfl, ⟨Out.refl _ _, rfl, rfl, trivial⟩, Step.refl _ _, hs, (show InK .i64 0 from by decide), hm⟩ ?_ ?_
 rintro _ _ ⟨_, _, _, _, _, _, _, hm⟩; exact loop1_z hm
 rintro m9 K8 hK8 ρ14 w10 ⟨i_1, Ebs, hEbs, hfr13, hst12, hs11, Ra, hm⟩
 obtain ⟨sf6, hsf7, hm⟩ := loop1_s hm; unfold m16_overflightref37_SameInts_B0 at hm
 subst hEbs; rw [hfr13.eq]; clear hfr13
 replace Fa := Fa.step hst12; replace Fb := Fb.step hst12
 have ch15 := hst12
 refine Wp_seq (Wp_seq (Wp_region ?_))
 refine Rg_op rfl (op_move (v := (Value.int .i64 i_1)) rfl ?_)
 refine Rg_op rfl (op_move (v := (Value.slice Aa a.length Ca)) rfl ?_)
 refine Rg_op rfl (op_len Try.underlying22 rfl ?_)
 have rl16 := inK_len Fa
 refine Rg_op rfl (op_lss rfl rfl ?_)
 refine Rg_nil ?_
 refine Wp_cond rfl (fun hc17 => ?_) (fun hc17 => ?_)
 replace hm := bif_t hm hc17
 refine Wp_skip (Wp_seq (Wp_block (Wp_seq ?_)))
 refine Wp_drawR (g0 := []) (m := 8) (fl := []) (TS_inv hs11) rfl (.inl rfl) rfl (by decide +kernel) ?_  -- 6
 refine Dw_eq (Value.slice Aa a.length Ca) (fun ρ18 w19 g hle hi ht => ?_) ?_
 obtain ⟨-, hst, -⟩ := hle
 refine StepOp_plain (op_move (v := (Value.slice Aa a.length Ca)) (ht 0 rfl) ?_)
 exact Goes.same hi rfl
 refine Dw_eq (Value.int .i64 i_1) (fun ρ21 w22 g hle hi ht => ?_) ?_
 obtain ⟨-, hst, -⟩ := hle
 refine StepOp_plain (op_move (v := (Value.int .i64 i_1)) (ht 5 rfl) ?_)
 exact Goes.same hi rfl
 replace hm := ck_some hm; obtain ⟨hc27, hm⟩ := hm
 refine Dw_op (VP O [] (rInt .i64) (a.getD i_1.toNat default)) (VP.stab _ _) (fun ρ24 w25 g hle hi ht => ?_) ?_
 obtain ⟨-, hst, -⟩ := hle
 replace Fa := Fa.step hst
 refine StepOp_plain (op_indexAddr (q := (rInt .i64)) ty22 ty3 (ht 17 rfl) (ht 18 rfl) Fa rfl hc27.1 hc27.2 ?_)
 intro p28 f29
 exact Goes.same hi ⟨_, rfl, f29⟩
 refine Dw_op (VD O [] (vI .i64) (a.getD i_1.toNat default)) (VD.stab _ _) (fun ρ30 w31 g hle hi ht => ?_) ?_
 obtain ⟨-, hst, -⟩ := hle
 obtain ⟨p33, q34, f35⟩ := ht 19 rfl
 refine StepOp_plain (op_loadP ty3 q34 f35 rfl ?_)
 intro v36 h37
 obtain ⟨rfl, Rb⟩ := un_int h37
 exact Goes.same hi (show Vr.vd (vI .i64) _ _ _ _ from ⟨rfl, Rb⟩)
 refine Dw_eq (Value.slice Ab b.length Cb) (fun ρ39 w40 g hle hi ht => ?_) ?_
 obtain ⟨-, hst, -⟩ := hle
 refine StepOp_plain (op_move (v := (Value.slice Ab b.length Cb)) (ht 1 rfl) ?_)
 exact Goes.same hi rfl
 refine Dw_eq (Value.int .i64 i_1) (fun ρ42 w43 g hle hi ht => ?_) ?_
 obtain ⟨-, hst, -⟩ := hle
 refine StepOp_plain (op_move (v := (Value.int .i64 i_1)) (ht 5 rfl) ?_)
 exact Goes.same hi rfl
 replace hm := ck_some hm; obtain ⟨hc48, hm⟩ := hm
 refine Dw_op (VP O [] (rInt .i64) (b.getD i_1.toNat default)) (VP.stab _ _) (fun ρ45 w46 g hle hi ht => ?_) ?_
 obtain ⟨-, hst, -⟩ := hle
 replace Fb := Fb.step hst
 refine StepOp_plain (op_indexAddr (q := (rInt .i64)) ty22 ty3 (ht 21 rfl) (ht 22 rfl) Fb rfl hc48.1 hc48.2 ?_)
 intro p49 f50
 exact Goes.same hi ⟨_, rfl, f50⟩
 refine Dw_op (VD O [] (vI .i64) (b.getD i_1.toNat default)) (VD.stab _ _) (fun ρ51 w52 g hle hi ht => ?_) ?_
 obtain ⟨-, hst, -⟩ := hle
 obtain ⟨p54, q55, f56⟩ := ht 23 rfl
 refine StepOp_plain (op_loadP ty3 q55 f56 rfl ?_)
 intro v57 h58
 obtain ⟨rfl, Rc⟩ := un_int h58
 exact Goes.same hi (show Vr.vd (vI .i64) _ _ _ _ from ⟨rfl, Rc⟩)
 refine Dw_nil fun w64 g65 hl66 hi67 => ?_
 obtain ⟨-, hst68, -⟩ := hl66
 obtain ⟨hs70, p69⟩ := Step.nx hi67
 rintro v71 h72
 replace h72 : Vr.vd (vI .i64) _ _ _ _ := h72
 obtain ⟨rfl, Rd⟩ := h72
 rintro _ ⟨p74, rfl, f75⟩
 rintro _ rfl
 rintro _ rfl
 rintro v76 h77
 replace h77 : Vr.vd (vI .i64) _ _ _ _ := h77
 obtain ⟨rfl, Re⟩ := h77
 rintro _ ⟨p79, rfl, f80⟩
 rintro _ rfl
 rintro _ rfl
 have p81 : Step (ks [] O) w10 (ks [] O) w64 := hst68.trans p69
 replace f75 := f75.step p69; replace f80 := f80.step p69; replace Fa := Fa.step p81; replace Fb := Fb.step p81; replace ch15 := ch15.trans p81; clear p81 hs11
 refine Rg_op rfl (op_neq rfl rfl ?_)
 refine Rg_nil ?_
 refine Wp_cond rfl (fun hc82 => ?_) (fun hc82 => ?_)
 replace hm := bif_t hm hc82
 refine Wp_seq ?_
 clear Fa Fb f75 f80
 refine Wp_region ?_
 refine Rg_op rfl (op_assign (v := (Value.bool false)) rfl ?_)
 refine Rg_nil ?_
 refine Wp_ret ?_
 have hz := step_all hs70
 refine ⟨_, (show Closes [] _ _ from rfl), [(Value.bool false)], ⟨rfl, trivial⟩, hs70.ext, ?_⟩
 exact Vr.eq (a := vB) (x := false) rfl (Option.some.inj hm)
 replace hm := bif_f hm hc82
 refine Wp_skip ?_
 clear f75 f80
 refine Wp_region ?_
 refine Rg_op rfl (op_move (v := (Value.int .i64 i_1)) rfl ?_)
 refine Rg_op rfl (op_addw rfl rfl ?_)
 refine Rg_op rfl (op_assign (v := (Value.int .i64 (IntKind.wrap .i64 (i_1 + 1)))) rfl ?_)
 refine Rg_nil ?_
 exact hK8 _ _ ⟨(IntKind.wrap .i64 (i_1 + 1)), _, rfl, ⟨(by repeat (first | with_reducible exact Out.refl _ _ | refine Out.upd ?_ rfl | refine Out.updL ?_ rfl | refine Out.mix' ?_ rfl | exact Out.refl _ _)), rfl, rfl, trivial⟩, ch15, hs70, (inK_wrap .i64 _), jnE1 hsf7 hm⟩
 replace hm := bif_f hm hc17
 refine Wp_exit (Wp_seq ?_)
 clear Fa Fb
 refine Wp_region ?_
 refine Rg_op rfl (op_assign (v := (Value.bool true)) rfl ?_)
 refine Rg_nil ?_
 refine Wp_ret ?_
 have hz := step_all hs11
 refine ⟨_, (show Closes [] _ _ from rfl), [(Value.bool true)], ⟨rfl, trivial⟩, hs11.ext, ?_⟩
 exact Vr.eq (a := vB) (x := true) rfl (Option.some.inj hm)

def m17_overflightref38_SameLists_B0 (a : List (List Int)) (b : List (List Int)) (sf6 : Int → Option Bool) (i_1 : Int) : Option Bool :=
 bif (decide (i_1 < (a.length : Int))) then
  ck ((0 : Int) ≤ i_1 ∧ i_1 < (a.length : Int)) <|
  ck ((0 : Int) ≤ i_1 ∧ i_1 < (b.length : Int)) <|
  (m16_overflightref37_SameInts (a.getD i_1.toNat default) (b.getD i_1.toNat default)).bind fun sameints_1 =>
  bif (!sameints_1) then
   some false
  else
   sf6 (IntKind.wrap .i64 (i_1 + 1))
 else
  some true

def m17_overflightref38_SameLists (a : List (List Int)) (b : List (List Int)) : Option Bool :=
 bif (decide ((a.length : Int) ≠ (b.length : Int))) then
  some false
 else
  loop1 (m17_overflightref38_SameLists_B0 a b) (((a.length : Int) - 0).toNat + 1) 0

theorem c17_overflightref38_SameLists {w : World} {O : List Nat} {a : List (List Int)} {b : List (List Int)} {Aa : Option Addr} {Ca : Nat} {Ab : Option Addr} {Cb : Nat} (hO : ∀ k ∈ O, k < w.heap.size) (Fa : SlR (rSl (rInt .i64)) w O Aa Ca a) (Fb : SlR (rSl (rInt .i64)) w O Ab Cb b) {x : Bool} (hm : m17_overflightref38_SameLists a b = some x) :
 Ok Try.prog 17 [(Value.slice Aa a.length Ca), (Value.slice Ab b.length Cb)] w O vB x := by
 unfold m17_overflightref38_SameLists at hm
 refine Fn_of_Wp (n := 27) (xs := [.tmp 4]) Try.func17 rfl Try.ntmps17 Try.results17 rfl ?_
 have hs := St.start hO
 refine Wp_seq (Wp_region ?_)
 refine Rg_op rfl (op_assign (v := (Value.bool false)) rfl ?_)
 refine Rg_nil (Wp_seq (Wp_seq (Wp_region ?_)))
 refine Rg_op rfl (op_move (v := (Value.slice Aa a.length Ca)) rfl ?_)
 refine Rg_op rfl (op_len Try.underlying23 rfl ?_)
 have rl1 := inK_len Fa
 refine Rg_op rfl (op_move (v := (Value.slice Ab b.length Cb)) rfl ?_)
 refine Rg_op rfl (op_len Try.underlying23 rfl ?_)
 have rl2 := inK_len Fb
 refine Rg_op rfl (op_neq rfl rfl ?_)
 refine Rg_nil ?_
 refine Wp_cond rfl (fun hc3 => ?_) (fun hc3 => ?_)
 replace hm := bif_t hm hc3
 refine Wp_seq ?_
 clear Fa Fb
 refine Wp_region ?_
 refine Rg_op rfl (op_assign (v := (Value.bool false)) rfl ?_)
 refine Rg_nil ?_
 refine Wp_ret ?_
 have hz := step_all hs
 refine ⟨_, (show Closes [] _ _ from rfl), [(Value.bool false)], ⟨rfl, trivial⟩, hs.ext, ?_⟩
 exact Vr.eq (a := vB) (x := false) rfl (Option.some.inj hm)
 replace hm := bif_f hm hc3
 refine Wp_skip (Wp_seq (Wp_seq (Wp_region ?_)))
 refine Rg_op rfl (op_assign (v := (Value.int .i64 0)) rfl ?_)
 refine Rg_nil (Wp_block ?_)
 refine Wp_reset [] [(0, (Value.slice Aa a.length Ca)), (1, (Value.slice Ab b.length Cb)), (5, (Value.int .i64 0))] rfl ⟨rfl, rfl, rfl, trivial⟩ fun ξ5 => ?_
 refine Wp_loopM [4, 5, 11, 12, 13, 14, 15, 16, 17, 18, 19, 20, 21, 22, 23, 24, 25, 26] (fun m fr w' => ∃ (i_1 : Int) (Ebs : Ents), Ebs = [] ∧ fr [] [(5, (Value.int .i64 i_1))] ∧ Step (ks [] O) w (ks Ebs O) w' ∧ St ⟨w, [], []⟩ O w' Ebs ∧ InK .i64 i_1 ∧ loop1 (m17_overflightref38_SameLists_B0 a b) m i_1 = some x) (((a.length : Int) - 0).toNat + 1) ⟨0, _, rfl, ⟨Out.refl _ _, rfl, rfl, trivial⟩, Step.refl _ _, hs, (show InK .i64 0 from by decide), hm⟩ ?_ ?_
 rintro _ _ ⟨_, _, _, _, _, _, _, hm⟩; exact loop1_z hm
 rintro m9 K8 hK8 ρ14 w10 ⟨i_1, Ebs, hEbs, hfr13, hst12, hs11, Ra, hm⟩
 obtain ⟨sf6, hsf7, hm⟩ := loop1_s hm; unfold m17_overflightref38_SameLists_B0 at hm
 subst hEbs; rw [hfr13.eq]; clear hfr13
 replace Fa := Fa.step hst12; replace Fb := Fb.step hst12
 have ch15 := hst12
 refine Wp_seq (Wp_seq (Wp_region ?_))
 refine Rg_op rfl (op_move (v := (Value.int .i64 i_1)) rfl ?_)
 refine Rg_op rfl (op_move (v := (Value.slice Aa a.length Ca)) rfl ?_)
 refine Rg_op rfl (op_len Try.underlying23 rfl ?_)
 have rl16 := inK_len Fa
 refine Rg_op rfl (op_lss rfl rfl ?_)
 refine Rg_nil ?_
 refine Wp_cond rfl (fun hc17 => ?_) (fun hc17 => ?_)
 replace hm := bif_t hm hc17
 refine Wp_skip (Wp_seq (Wp_block (Wp_seq ?_)))
 refine Wp_drawR (g0 := []) (m := 8) (fl := []) (TS_inv hs11) rfl (.inl rfl) rfl (by decide +kernel) ?_  -- 6
 refine Dw_eq (Value.slice Aa a.length Ca) (fun ρ18 w19 g hle hi ht => ?_) ?_
 obtain ⟨-, hst, -⟩ := hle
 refine StepOp_plain (op_move (v := (Value.slice Aa a.length Ca)) (ht 0 rfl) ?_)
 exact Goes.same hi rfl
 refine Dw_eq (Value.int .i64 i_1) (fun ρ21 w22 g hle hi ht => ?_) ?_
 obtain ⟨-, hst, -⟩ := hle
 refine StepOp_plain (op_move (v := (Value.int .i64 i_1)) (ht 5 rfl) ?_)
 exact Goes.same hi rfl
 replace hm := ck_some hm; obtain ⟨hc27, hm⟩ := hm
 refine Dw_op (VP O [] (rSl (rInt .i64)) (a.getD i_1.toNat default)) (VP.stab _ _) (fun ρ24 w25 g hle hi ht => ?_) ?_
 obtain ⟨-, hst, -⟩ := hle
 replace Fa := Fa.step hst
 refine StepOp_plain (op_indexAddr (q := (rSl (rInt .i64))) ty23 ty22 (ht 17 rfl) (ht 18 rfl) Fa rfl hc27.1 hc27.2 ?_)
 intro p28 f29
 exact Goes.same hi ⟨_, rfl, f29⟩
 refine Dw_op (VD O [] (vC (rSl (rInt .i64))) (a.getD i_1.toNat default)) (VD.stab _ _) (fun ρ30 w31 g hle hi ht => ?_) ?_
 obtain ⟨-, hst, -⟩ := hle
 obtain ⟨p33, q34, f35⟩ := ht 19 rfl
 refine StepOp_plain (op_loadP ty22 q34 f35 rfl ?_)
 intro v36 h37
 obtain ⟨Ac, Cc, rfl, Fc⟩ := un_sl h37
 exact Goes.same hi (show Vr.vd (vC (rSl (rInt .i64))) _ _ _ _ from (mkC (mk_sl Fc)))
 refine Dw_eq (Value.slice Ab b.length Cb) (fun ρ39 w40 g hle hi ht => ?_) ?_
 obtain ⟨-, hst, -⟩ := hle
 refine StepOp_plain (op_move (v := (Value.slice Ab b.length Cb)) (ht 1 rfl) ?_)
 exact Goes.same hi rfl
 refine Dw_eq (Value.int .i64 i_1) (fun ρ42 w43 g hle hi ht => ?_) ?_
 obtain ⟨-, hst, -⟩ := hle
 refine StepOp_plain (op_move (v := (Value.int .i64 i_1)) (ht 5 rfl) ?_)
 exact Goes.same hi rfl
 replace hm := ck_some hm; obtain ⟨hc48, hm⟩ := hm
 refine Dw_op (VP O [] (rSl (rInt .i64)) (b.getD i_1.toNat default)) (VP.stab _ _) (fun ρ45 w46 g hle hi ht => ?_) ?_
 obtain ⟨-, hst, -⟩ := hle
 replace Fb := Fb.step hst
 refine StepOp_plain (op_indexAddr (q := (rSl (rInt .i64))) ty23 ty22 (ht 21 rfl) (ht 22 rfl) Fb rfl hc48.1 hc48.2 ?_)
 intro p49 f50
 exact Goes.same hi ⟨_, rfl, f50⟩
 refine Dw_op (VD O [] (vC (rSl (rInt .i64))) (b.getD i_1.toNat default)) (VD.stab _ _) (fun ρ51 w52 g hle hi ht => ?_) ?_
 obtain ⟨-, hst, -⟩ := hle
 obtain ⟨p54, q55, f56⟩ := ht 23 rfl
 refine StepOp_plain (op_loadP ty22 q55 f56 rfl ?_)
 intro v57 h58
 obtain ⟨Ad, Cd, rfl, Fd⟩ := un_sl h58
 exact Goes.same hi (show Vr.vd (vC (rSl (rInt .i64))) _ _ _ _ from (mkC (mk_sl Fd)))
 refine Dw_nil fun w64 g65 hl66 hi67 => ?_
 obtain ⟨-, hst68, -⟩ := hl66
 obtain ⟨hs70, p69⟩ := Step.nx hi67
 rintro v71 h72
 replace h72 : Vr.vd (vC (rSl (rInt .i64))) _ _ _ _ := h72
 obtain ⟨Ae, Ce, rfl, Fe⟩ := un_sl h72
 rintro _ ⟨p74, rfl, f75⟩
 rintro _ rfl
 rintro _ rfl
 rintro v76 h77
 replace h77 : Vr.vd (vC (rSl (rInt .i64))) _ _ _ _ := h77
 obtain ⟨Af, Cf, rfl, Ff⟩ := un_sl h77
 rintro _ ⟨p79, rfl, f80⟩
 rintro _ rfl
 rintro _ rfl
 have p81 : Step (ks [] O) w10 (ks [] O) w64 := hst68.trans p69
 replace Fe := Fe.step p69; replace f75 := f75.step p69; replace Ff := Ff.step p69; replace f80 := f80.step p69; replace Fa := Fa.step p81; replace Fb := Fb.step p81; replace ch15 := ch15.trans p81; clear p81 hs11
 replace hm := bd hm; obtain ⟨sameints_1, hv82, hm⟩ := hm
 refine Rg_op rfl (op_call Try.call16 (c16_overflightref37_SameInts (a := (a.getD i_1.toNat default)) (b := (b.getD i_1.toNat default)) hs70.ltw Ff Fe hv82) rfl ?_)
 rintro v83 w84 ⟨hx85, h86⟩
 have hs87 := hs70.call hx85
 have p88 := Step.ext (O := ks [] O) hx85
 clear hx85
 replace Fa := Fa.step p88; replace Fb := Fb.step p88; replace Fe := Fe.step p88; replace f75 := f75.step p88; replace Ff := Ff.step p88; replace f80 := f80.step p88; replace ch15 := ch15.trans p88; clear p88 hs70
 obtain rfl := h86
 refine Rg_op rfl (op_not rfl ?_)
 refine Rg_nil ?_
 refine Wp_cond rfl (fun hc90 => ?_) (fun hc90 => ?_)
 replace hm := bif_t hm hc90
 refine Wp_seq ?_
 clear Fa Fb Fe f75 Ff f80
 refine Wp_region ?_
 refine Rg_op rfl (op_assign (v := (Value.bool false)) rfl ?_)
 refine Rg_nil ?_
 refine Wp_ret ?_
 have hz := step_all hs87
 refine ⟨_, (show Closes [] _ _ from rfl), [(Value.bool false)], ⟨rfl, trivial⟩, hs87.ext, ?_⟩
 exact Vr.eq (a := vB) (x := false) rfl (Option.some.inj hm)
 replace hm := bif_f hm hc90
 refine Wp_skip ?_
 clear Fe f75 Ff f80
 refine Wp_region ?_
 refine Rg_op rfl (op_move (v := (Value.int .i64 i_1)) rfl ?_)
 refine Rg_op rfl (op_addw rfl rfl ?_)
 refine Rg_op rfl (op_assign (v := (Value.int .i64 (IntKind.wrap .i64 (i_1 + 1)))) rfl ?_)
 refine Rg_nil ?_
 exact hK8 _ _ ⟨(IntKind.wrap .i64 (i_1 + 1)), _, rfl, ⟨(by repeat (first | with_reducible exact Out.refl _ _ | refine Out.upd ?_ rfl | refine Out.updL ?_ rfl | refine Out.mix' ?_ rfl | exact Out.refl _ _)), rfl, rfl, trivial⟩, ch15, hs87, (inK_wrap .i64 _), jnE1 hsf7 hm⟩
 replace hm := bif_f hm hc17
 refine Wp_exit (Wp_seq ?_)
 clear Fa Fb
 refine Wp_region ?_
 refine Rg_op rfl (op_assign (v := (Value.bool true)) rfl ?_)
 refine Rg_nil ?_
 refine Wp_ret ?_
 have hz := step_all hs11
 refine ⟨_, (show Closes [] _ _ from rfl), [(Value.bool true)], ⟨rfl, trivial⟩, hs11.ext, ?_⟩
 exact Vr.eq (a := vB) (x := true) rfl (Option.some.inj hm)

end Go.Fx
