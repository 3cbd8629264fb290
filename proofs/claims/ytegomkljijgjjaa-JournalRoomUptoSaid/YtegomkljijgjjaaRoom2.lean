/- Part 2 of the proof: journalRoom where what comes in is of bulk at most 1048576: a record is taken exactly if a sector is left and it has no more bytes than Room says. -/
import Derived.Test.YtegomkljijgjjaaRoom1
import Derived.ProofKit
import Derived.OpenShut
import Derived.ChangeOld
import Derived.Below
import Derived.SizedLaws
import Derived.Test.YtegomkljijgjjaaChecked
import Derived.Test.YtegomkljijgjjaaRows
import Derived.WalkKit
import Derived.ShutString
/- From what an argument reads as in a row to what it reads as here. No program in sight. -/
set_option linter.unusedSimpArgs false
set_option linter.unusedVariables false
namespace Go.Fx
open Go Go.RowKit Go.ChangeShapes

section
variable {H : Type} {enc : TypeId × Value → H} {P : Program} {w : World} {base : Nat} {spare : Nat → Bool} {held : Bool}
def SmT {α : Type} (_ : α) : Prop := True
/-- whatever is read as a datum of type t stands in cells as one of α -/
def Rd {α : Type} (enc : TypeId × Value → H) (P : Program) (w : World) (base : Nat) (spare : Nat → Bool) (held : Bool) (t : TypeId) (q : Rp α) (Sm : α → Prop) : Prop :=
  P.cellsOf t = q.n ∧ ∀ (fuel : Nat) (cs : List Value) (y : DataW H × List MemPlace), DataW.trod enc P w base spare held fuel t cs = some y → ∃ x, q.rd w [] cs x ∧ ((∀ n ∈ y.1.weights P t, n ≤ reachBytes) → Sm x)

theorem wf_inK {k : IntKind} {n : Int} (h : (Lit.int k n).wf = true) : k.min ≤ n ∧ n ≤ k.max := by
  simpa [Lit.wf, IntKind.has] using h
theorem Rd_int {t : TypeId} {k : IntKind} (ht : P.underlying t = some (.int k)) (hc : P.cellsOf t = 1) : Rd enc P w base spare held t (rInt k) (InK k) := by
  refine ⟨hc, fun fuel cs y h => ?_⟩
  obtain ⟨n, rfl, _, hw⟩ := DataW.trod_int ht h
  exact ⟨n, ⟨rfl, wf_inK hw⟩, fun _ => wf_inK hw⟩
theorem Rd_u8 {t : TypeId} (ht : P.underlying t = some (.int .u8)) (hc : P.cellsOf t = 1) : Rd enc P w base spare held t rU8 SmT := by
  refine ⟨hc, fun fuel cs y h => ?_⟩
  obtain ⟨n, rfl, _, hw⟩ := DataW.trod_int ht h
  exact ⟨UInt8.ofNat n.toNat, mk_u8 (wf_inK hw), fun _ => trivial⟩
theorem ptR_of_cells {α : Type} {q : Rp α} {a : Addr} {cs : List Value} {x : α} (hn : 0 < q.n) (hc : w.cells? base a q.n = some cs) (hr : q.rd w [] cs x) : PtR q w [] a x := by
  obtain ⟨_, hl, hg⟩ := World.cells?_some hc
  have h0 := hg 0 hn
  have hs0 : (cs[0]?).isSome := by simp; omega
  obtain ⟨v0, hv0⟩ := Option.isSome_iff_exists.1 hs0
  rw [hv0] at h0
  have hsp : a.spot = none := by have := World.cell?_spot h0; rwa [Addr.add_zero'] at this
  obtain ⟨b, off, sp⟩ := a
  simp only at hsp; subst hsp
  have hblk : ∃ c T fz, w.heap[b]? = some (.cells c T fz) := by
    simp only [Addr.add_lit, World.cell?, Option.isSome_none, Bool.false_eq_true, if_false] at h0
    cases hb : w.heap[b]? with
    | none => rw [hb] at h0; simp at h0
    | some o => cases o <;> simp [hb] at h0; exact ⟨_, _, _, rfl⟩
  obtain ⟨c, T, fz, hb⟩ := hblk
  have hget : ∀ i, i < q.n → c[off + i]? = cs[i]? := fun i hi => by
    have := hg i hi
    rw [Addr.add_lit, cell_at hb] at this
    exact this
  have hsz : off + q.n ≤ c.size := by
    have := hget (q.n - 1) (by omega)
    rw [List.getElem?_eq_getElem (by omega)] at this
    have := (Array.getElem?_eq_some_iff.1 this).1
    omega
  refine ⟨rfl, ⟨(Array.getElem?_eq_some_iff.1 hb).1, by simp⟩, c, T, fz, hb, hsz, ?_⟩
  have e : (c.toList.drop off).take q.n = cs := by
    apply List.ext_getElem?
    intro i
    rw [List.getElem?_take, List.getElem?_drop]
    split
    · rename_i hi; rw [← hget i hi]; simp
    · rw [List.getElem?_eq_none (by omega)]
  simp only [e]; exact hr
theorem rd_pair {α β : Type} {r : Rp α} {s : Rp β} {O : List Nat} {cs : List Value} {o : Nat} {x : α} {y : β} (h1 : r.rd w O ((cs.drop o).take r.n) x) (h2 : s.rd w O ((cs.drop (o + r.n)).take s.n) y) :
    (rPair r s).rd w O ((cs.drop o).take (rPair r s).n) (x, y) := by
  refine ⟨_, _, ?_, h1, h2⟩
  show (cs.drop o).take (r.n + s.n) = _
  rw [List.take_add, List.drop_drop]
theorem rd_all {α : Type} {q : Rp α} {O : List Nat} {cs : List Value} {x : α} (h : q.rd w O ((cs.drop 0).take q.n) x) (hl : cs.length = q.n) : q.rd w O cs x := by
  rwa [List.drop_zero, List.take_of_length_le (by omega)] at h
end
end Go.Fx



/- Windows: a slice of an array of one's own is handed to a function that writes into it. No program in sight. -/
set_option linter.unusedSimpArgs false
set_option linter.unusedVariables false
namespace Go.Fx
open Go Go.RowKit
theorem cons2 {α : Type} {a b : α} {l m : List α} (h1 : a = b) (h2 : l = m) : a :: l = b :: m := by rw [h1, h2]
theorem Els.rep {α : Type} {p : Rp α} {w : World} {O : List Nat} {v : Value} {x : α} (h : p.rd w O [v] x) : ∀ n, Els p w O (List.replicate n v) (List.replicate n x)
  | 0 => rfl
  | n + 1 => ⟨[v], List.replicate n v, rfl, h, Els.rep h n⟩
theorem inK_lenW {α : Type} {q : Rp α} {e : TypeId} {w : World} {O : List Nat} {a : Option Addr} {c : Nat} {pre xs post : List α} {kk : Option Nat} {o : Obj} (h : Gs q e w O a c (pre ++ xs ++ post) kk o) : InK .i64 (xs.length : Int) := by
  have := h.le
  have : maxLen = 9223372036854775807 := rfl
  simp only [List.length_append] at *
  constructor <;> simp [IntKind.min, IntKind.max, IntKind.bits, IntKind.signed] <;> omega
section
variable {α : Type} {q : Rp α} {e : TypeId} {w w' : World} {O O0 : List Nat} {c bl i : Nat} {xs xs' : List α} {o : Obj} {bs : Ents} {z : Zx}
/-- what a function that writes into a window comes to -/
def OkW (P : Program) (f : FuncId) (args : List Value) (w : World) (O : List Nat) (bl : Nat) (q : Rp α) (e : TypeId) (c : Nat) (xs' : List α) : Prop :=
  Fn P f args w fun _ w' => Loc [bl] w w' ∧ ∃ o', w'.heap[bl]? = some o' ∧ Gs q e w' (bl :: O) (some ⟨bl, 0, none⟩) c xs' (some bl) o'
theorem ents_perm (hi : bs[i]? = some (some bl, o)) : (bl :: (bs.eraseIdx i).filterMap Prod.fst).Perm (bs.filterMap Prod.fst) := by
  obtain ⟨h, e1⟩ := List.getElem?_eq_some_iff.1 hi
  have e2 : bs = bs.take i ++ (some bl, o) :: bs.drop (i + 1) := by
    rw [← e1, ← List.drop_eq_getElem_cons h, List.take_append_drop]
  have e3 : bs.filterMap Prod.fst = (bs.take i).filterMap Prod.fst ++ bl :: (bs.drop (i + 1)).filterMap Prod.fst := by
    conv => lhs; rw [e2]
    rw [List.filterMap_append]; rfl
  rw [e3, List.eraseIdx_eq_take_drop_succ, List.filterMap_append]
  exact List.perm_middle.symm
theorem St.lendW (hs : St z O0 w bs) (hi : bs[i]? = some (some bl, o)) (hG : Gs q e w (ks bs O0) (some ⟨bl, 0, none⟩) c xs (some bl) o) :
    (∀ k ∈ ks (bs.eraseIdx i) O0, k < w.heap.size) ∧ bl ∉ ks (bs.eraseIdx i) O0 ∧ w.heap[bl]? = some o ∧ Gs q e w (bl :: ks (bs.eraseIdx i) O0) (some ⟨bl, 0, none⟩) c xs (some bl) o := by
  have hp := ents_perm hi
  have hnd := hp.nodup_iff.2 hs.nd
  refine ⟨(hs.drop i).ltw, fun hm => ?_, hs.get hi, hG.step ⟨Nat.le_refl _, fun k hk hn => ⟨fun hm => hn ?_, rfl⟩⟩⟩
  · rcases List.mem_append.1 hm with hm | hm
    · exact (List.nodup_cons.1 hnd).1 hm
    · exact (hs.dj bl hm).2 (mem_keys.2 ⟨_, List.mem_of_getElem? hi, rfl⟩)
  · rcases List.mem_cons.1 hm with rfl | hm
    · exact List.mem_append_left _ (mem_keys.2 ⟨_, List.mem_of_getElem? hi, rfl⟩)
    · rcases List.mem_append.1 hm with hm | hm
      · exact List.mem_append_left _ (hp.mem_iff.1 (List.mem_cons_of_mem _ hm))
      · exact List.mem_append_right _ hm
/-- within: the block is one's own for the time being -/
theorem St.startW {w0 : World} (h : ∀ k ∈ O, k < w0.heap.size) (hb : bl ∉ O) (ho : w0.heap[bl]? = some o) : St ⟨w0, [bl], []⟩ O w0 [(some bl, o)] := by
  refine ⟨Loc.refl _ _, fun p hp b hb' => ?_, by simp, fun k hk => ⟨h k hk, fun hm => ?_⟩, List.nodup_nil, fun _ h => by cases h⟩
  · rcases List.mem_cons.1 hp with rfl | hp
    · cases hb'; exact ⟨.inl (by simp), ho⟩
    · cases hp
  · simp at hm; subst hm; exact hb hk
theorem St.endW {w0 : World} {ds : List Nat} {o' : Obj} (hs : St ⟨w0, [bl], ds⟩ O w' [(some bl, o')]) : Loc [bl] w0 w' ∧ w'.heap[bl]? = some o' := ⟨hs.below, hs.get (i := 0) rfl⟩
theorem St.backW {o' : Obj} (hs : St z O0 w bs) (hi : bs[i]? = some (some bl, o)) (hl : Loc [bl] w w') (ho : w'.heap[bl]? = some o') (hG : Gs q e w' (bl :: ks (bs.eraseIdx i) O0) (some ⟨bl, 0, none⟩) c xs' (some bl) o') :
    Step (ks bs O0) w (ks (bs.set i (some bl, o')) O0) w' ∧ St z O0 w' (bs.set i (some bl, o')) ∧ Gs q e w' (ks (bs.set i (some bl, o')) O0) (some ⟨bl, 0, none⟩) c xs' (some bl) o' := by
  have hown := (hs.own _ (List.mem_of_getElem? hi) bl rfl).1
  have hb : ∀ j, j < w.heap.size → some bl ≠ some j → w'.heap[j]? = w.heap[j]? := fun j hj hne => hl.block j hj (by simp; exact fun e => hne (by rw [e]))
  have h1 : St z O0 w' (bs.set i (some bl, o')) := hs.put hi (hs.below.trans' hl fun k hk => by simp at hk; subst hk; exact hown) hl.size (fun b hb => by cases hb; exact ⟨.inl rfl, ho⟩) hb
  have hi' : (bs.set i (some bl, o'))[i]? = some (some bl, o') := by
    have := (List.getElem?_eq_some_iff.1 hi).1
    simp [this]
  have hp := ents_perm hi
  have hp' := ents_perm hi'
  have he : (bs.set i (some bl, o')).eraseIdx i = bs.eraseIdx i := by rw [List.eraseIdx_set_eq]
  rw [he] at hp'
  refine ⟨Step.put hi hl.size (fun b hb => by cases hb; exact .inl rfl) hb, h1, hG.step ⟨Nat.le_refl _, fun k hk hn => ⟨fun hm => hn ?_, rfl⟩⟩⟩
  rcases List.mem_append.1 hm with hm | hm
  · rcases List.mem_cons.1 (hp'.mem_iff.2 hm) with rfl | hm
    · exact List.mem_cons_self
    · exact List.mem_cons_of_mem _ (List.mem_append_left _ hm)
  · exact List.mem_cons_of_mem _ (List.mem_append_right _ hm)
end
/-- xs with ys in place of what stands from l to h -/
def setw {α : Type} (xs : List α) (l h : Nat) (ys : List α) : List α := xs.take l ++ ys ++ xs.drop h
theorem winval {α : Type} {xs : List α} {bl l h c : Nat} (h1 : l < h) (h2 : h ≤ xs.length) (h3 : xs.length ≤ c) :
    Value.slice (some ⟨bl, if c = l then 0 else 0 + l * 1, none⟩) (h - l) (c - l) = .slice (some ⟨bl, (xs.take l).length, none⟩) ((xs.drop l).take (h - l)).length (c - l) := by
  rw [if_neg (by omega), List.length_take, List.length_take, List.length_drop, Nat.min_eq_left (by omega), Nat.min_eq_left (by omega), Nat.zero_add, Nat.mul_one]
theorem winsplit {α : Type} {xs : List α} {l h : Nat} (h1 : l ≤ h) (h2 : h ≤ xs.length) : xs.take l ++ (xs.drop l).take (h - l) ++ xs.drop h = xs := by
  have e : xs.drop h = (xs.drop l).drop (h - l) := by rw [List.drop_drop, show l + (h - l) = h by omega]
  rw [e, List.append_assoc, List.take_append_drop, List.take_append_drop]
theorem winG {α : Type} {q : Rp α} {e : TypeId} {w : World} {O : List Nat} {a : Option Addr} {c l h : Nat} {xs : List α} {kk : Option Nat} {o : Obj} (hG : Gs q e w O a c xs kk o) (h1 : l ≤ h) (h2 : h ≤ xs.length) : Gs q e w O a c (xs.take l ++ (xs.drop l).take (h - l) ++ xs.drop h) kk o := by
  rw [winsplit h1 h2]; exact hG
theorem SlR.win {α : Type} {q : Rp α} {w : World} {O : List Nat} {bl c l h : Nat} {xs : List α} (hq : q.n = 1) (hS : SlR q w O (some ⟨bl, 0, none⟩) c xs) (h1 : l < h) (h2 : h ≤ xs.length) :
    SlR q w O (some ⟨bl, if c = l then 0 else 0 + l * 1, none⟩) (c - l) ((xs.drop l).take (h - l)) := by
  have := hS.sub (l := l) (hi := h) (mx := c) (by omega) h2 (by have := hS.le; omega) (Nat.le_refl _)
  have hc := hS.le
  have hne : ¬ c = l := by omega
  rw [if_neg hne] at this ⊢
  rw [hq] at this
  simpa [Addr.add_lit] using this
section ops
variable {P : Program} {r : Option Nat} {ρ : Env} {w : World} {O0 : List Nat} {bs : Ents} {w0 : Zx} {d : Option Nat} {ty : TypeId} {pos : String} {aft : Array Edge} {g : Option (Nat × Bool)} {V : Value → World → Prop} {t : TypeId} {x y : Operand} {td : TypeDesc} {n b : Nat} {z : List Value} {ag : Bool} {m : Int}
theorem op_callW {α : Type} {q : Rp α} {e : TypeId} {c bl i : Nat} {o : Obj} {xs' : List α} {f : FuncId} {args : Array Operand} {us : Array TypeId} {vs : List Value} (hc : ∀ (args : Array Value) (w : World), (callFunc f args).run P w = .ok (.enter f args) w)
    (hs : St w0 O0 w bs) (hi : bs[i]? = some (some bl, o)) (h : OkW P f vs w (ks (bs.eraseIdx i) O0) bl q e c xs') (ha : args.toList.map (ev ρ) = vs)
    (k : ∀ v w' o', Step (ks bs O0) w (ks (bs.set i (some bl, o')) O0) w' → St w0 O0 w' (bs.set i (some bl, o')) → Gs q e w' (ks (bs.set i (some bl, o')) O0) (some ⟨bl, 0, none⟩) c xs' (some bl) o' → V v w') :
    Run1 P r ρ w ⟨d, .call ⟨.value (.func f), args, us⟩, ty, pos, aft, g⟩ V := by
  refine op_call hc h ha ?_
  rintro v w' ⟨hl, o', ho, hG⟩
  obtain ⟨h1, h2, h3⟩ := hs.backW hi hl ho hG
  exact k v w' o' h1 h2 h3
theorem op_storeW {α : Type} {p : Rp α} {pre xs post : List α} {e : TypeId} {a : Option Addr} {c bl i : Nat} {o : Obj} {v : Value} {vs : List Value} {yv : α} (T : Ty P t td 1 b z ag) (hp : p.n = 1) (hs : St w0 O0 w bs) (hi : bs[i]? = some (some bl, o))
    (hx : ev ρ x = .pointer (some ⟨bl, pre.length + m.toNat * 1, none⟩)) (hy : ev ρ y = v) (hv : v.cells = vs.toArray) (h : Gs p e w (ks bs O0) a c (pre ++ xs ++ post) (some bl) o) (h0 : 0 ≤ m ∧ m < xs.length) (hr : p.rd w (ks bs O0) vs yv)
    (k : ∀ w' o', Step (ks bs O0) w (ks (bs.set i (some bl, o')) O0) w' → St w0 O0 w' (bs.set i (some bl, o')) → Gs p e w' (ks (bs.set i (some bl, o')) O0) a c (pre ++ xs.set m.toNat yv ++ post) (some bl) o' → V undef w') :
    Run1 P r ρ w ⟨d, .store t x y, ty, pos, aft, g⟩ V := by
  have em : ((pre.length + m.toNat : Nat) : Int).toNat = pre.length + m.toNat := Int.toNat_natCast _
  refine op_storeG (m := ((pre.length + m.toNat : Nat) : Int)) T hp hs hi (by rw [em, Nat.mul_one]; rw [Nat.mul_one] at hx; exact hx) hy hv h (by simp only [List.length_append]; omega) hr ?_
  intro w' o' h1 h2 h3
  refine k w' o' h1 h2 ?_
  rw [em, List.append_assoc, List.set_append_right _ _ (by omega), show pre.length + m.toNat - pre.length = m.toNat by omega, List.set_append_left _ _ (by omega), ← List.append_assoc] at h3
  exact h3
end ops
theorem freeze_same {w : World} {bl n : Nat} {cs : Array Value} {e : TypeId} (h : w.heap[bl]? = some (.cells cs e (0, 0))) : (w.freeze ⟨bl, n, none⟩ 1).heap[bl]? = some (.cells cs e (n, n + 1)) := by
  unfold World.freeze
  rw [if_neg (by decide)]
  simp [Array.getElem?_modify, h]
theorem freeze_other {w : World} {bl n j : Nat} (h : bl ≠ j) : (w.freeze ⟨bl, n, none⟩ 1).heap[j]? = w.heap[j]? := by
  unfold World.freeze
  rw [if_neg (by decide)]
  simp [Array.getElem?_modify, h]
theorem freeze_size {w : World} {bl n : Nat} : (w.freeze ⟨bl, n, none⟩ 1).heap.size = w.heap.size := by
  unfold World.freeze
  rw [if_neg (by decide)]; simp
theorem St.frz {z : Zx} {O0 : List Nat} {w : World} {bs : Ents} (hs : St z O0 w bs) {i bl n : Nat} {cs : Array Value} {e : TypeId} (hi : bs[i]? = some (some bl, .cells cs e (0, 0))) :
    St z O0 (w.freeze ⟨bl, n, none⟩ 1) (bs.set i (some bl, .cells cs e (n, n + 1))) ∧ Step (ks bs O0) w (ks (bs.set i (some bl, .cells cs e (n, n + 1))) O0) (w.freeze ⟨bl, n, none⟩ 1) := by
  have hg := hs.get hi
  have ho : ∀ j, j < w.heap.size → some bl ≠ some j → (w.freeze ⟨bl, n, none⟩ 1).heap[j]? = w.heap[j]? := fun j _ hj => freeze_other (fun e => hj (by rw [e]))
  have hb := (hs.own _ (List.mem_of_getElem? hi) bl rfl).1
  have e1 : (w.freeze ⟨bl, n, none⟩ 1).os = w.os ∧ (w.freeze ⟨bl, n, none⟩ 1).tape = w.tape ∧ (w.freeze ⟨bl, n, none⟩ 1).output = w.output ∧ (w.freeze ⟨bl, n, none⟩ 1).drawn = w.drawn := by
    unfold World.freeze; rw [if_neg (by decide)]; exact ⟨rfl, rfl, rfl, rfl⟩
  refine ⟨hs.put hi ⟨e1.1.trans hs.below.os, e1.2.1.trans hs.below.tape, e1.2.2.1.trans hs.below.output, by rw [freeze_size]; exact hs.below.size, fun k hk hn => ?_, by rw [e1.2.2.2]; exact hs.below.drawn⟩ (by rw [freeze_size]; exact Nat.le_refl _) (fun j hj => ?_) ho, Step.put hi (by rw [freeze_size]; exact Nat.le_refl _) (fun j hj => .inl hj) ho⟩
  · rw [freeze_other (by rintro rfl; rcases hb with h | h <;> first | exact hn h | omega)]; exact hs.below.block k hk hn
  · cases hj; exact ⟨.inl rfl, freeze_same hg⟩
theorem op_convB {P : Program} {r : Option Nat} {ρ : Env} {w : World} {O0 : List Nat} {bs : Ents} {w0 : Zx} {d : Option Nat} {ty : TypeId} {pos : String} {aft : Array Edge} {g : Option (Nat × Bool)} {V : Value → World → Prop} {t te : TypeId} {x : Operand} {i bl n c m : Nat} {cs : List Value} {e : TypeId} (T : P.underlying t = some (.slice te)) (E : P.underlying te = some (.int .u8))
    (hs : St w0 O0 w bs) (hi : bs[i]? = some (some bl, .cells cs.toArray e (0, 0))) (hm : cs.length = m) (hx : ev ρ x = .slice (some ⟨bl, 0, none⟩) n c)
    (k : ∀ w', Step (ks bs O0) w (ks (bs.set i (some bl, .cells cs.toArray e (m, m + 1))) O0) w' → St w0 O0 w' (bs.set i (some bl, .cells cs.toArray e (m, m + 1))) → V (.slice (some ⟨bl, 0, none⟩) n c) w') :
    Run1 P r ρ w ⟨d, .convert t t x, ty, pos, aft, g⟩ V := by
  subst hm
  have h1 : w.shape? bl = some (e, cs.length) := by unfold World.shape?; rw [hs.get hi]; simp
  obtain ⟨h2, h3⟩ := hs.frz (n := cs.length) hi
  refine run1_value (v := .slice (some ⟨bl, 0, none⟩) n c) (w' := w.freeze ⟨bl, cs.length, none⟩ 1) (by simp) ?_ (k _ h3 h2)
  simp [execOp, hx, convert, run_underlying T, run_underlying E, markStringish, h1]
theorem op_max3 {P : Program} {r : Option Nat} {ρ : Env} {w : World} {d : Option Nat} {ty : TypeId} {pos : String} {aft : Array Edge} {g : Option (Nat × Bool)} {V : Value → World → Prop} {x y z : Operand} {q : IntKind} {m j l : Int} {us : Array TypeId} (hx : ev ρ x = .int q m) (hy : ev ρ y = .int q j) (hz : ev ρ z = .int q l) (h : V (.int q (max (max m j) l)) w) : Run1 P r ρ w ⟨d, .call ⟨.builtin .max, #[x, y, z], us⟩, ty, pos, aft, g⟩ V := by
  have e1 : ∀ m j : Int, (if m < j then j else m) = max m j := fun m j => by split <;> omega
  exact run1_value (v := .int q (max (max m j) l)) (by simp) (by simp [execOp, resolve, invoke, builtin, Builtin.max_, Builtin.max2, hx, hy, hz, e1]) h
end Go.Fx



set_option linter.unusedVariables false
set_option linter.unusedSimpArgs false
set_option maxRecDepth 100000
set_option maxHeartbeats 0
namespace Go.Fx
open Go Go.RowKit Go.Proofs
structure XWrite where
  at_ : Int
  data : List UInt8
  deriving Inhabited, DecidableEq
def rXWrite : Rp XWrite := rVia (fun d => (d.at_, d.data)) (rPair (rInt .i64) (rSl rU8))
structure XDisk where
  sectors : List (List UInt8)
  pending : List XWrite
  left : Int
  stopped : Bool
  deriving Inhabited, DecidableEq
def rXDisk : Rp XDisk := rVia (fun d => (d.sectors, d.pending, d.left, d.stopped)) (rPair (rSl (rSl rU8)) (rPair (rSl rXWrite) (rPair (rInt .i64) rBool)))
structure XJournal where
  records : List (List UInt8)
  many : Int
  synced : Int
  deriving Inhabited, DecidableEq
def rXJournal : Rp XJournal := rVia (fun d => (d.records, d.many, d.synced)) (rPair (rSl (rSl rU8)) (rPair (rInt .i64) (rInt .i64)))
theorem ty22 : Ty Try.prog 22 (.slice 41) 1 24 [(.slice none 0 0)] false :=
  ⟨Try.underlying22, ⟨Try.t22, info_of Try.type22, rfl, rfl, _, rfl, rfl⟩, Try.isAgg22, rfl⟩
theorem ty41 : Ty Try.prog 41 (.slice 5) 1 24 [(.slice none 0 0)] false :=
  ⟨Try.underlying41, ⟨Try.t41, info_of Try.type41, rfl, rfl, _, rfl, rfl⟩, Try.isAgg41, rfl⟩
theorem ty25 : Ty Try.prog 25 (.struct #[{ name := "Sectors", type := 22, offset := 0, embedded := false, tag := "", pkgPath := "", byteOffset := 0 }, { name := "Pending", type := 23, offset := 1, embedded := false, tag := "", pkgPath := "", byteOffset := 24 }, { name := "Left", type := 3, offset := 2, embedded := false, tag := "", pkgPath := "", byteOffset := 48 }, { name := "Stopped", type := 4, offset := 3, embedded := false, tag := "", pkgPath := "", byteOffset := 56 }]) 4 64 [(.slice none 0 0), (.slice none 0 0), (.int .i64 0), (.bool false)] true :=
  ⟨Try.underlying25, ⟨Try.t25, info_of Try.type25, rfl, rfl, _, rfl, rfl⟩, Try.isAgg25, rfl⟩
theorem ty5 : Ty Try.prog 5 (.int .u8) 1 1 [(.int .u8 0)] false :=
  ⟨Try.underlying5, ⟨Try.t5, info_of Try.type5, rfl, rfl, _, rfl, rfl⟩, Try.isAgg5, rfl⟩
theorem ty73 : Ty Try.prog 73 (.struct #[{ name := "At", type := 3, offset := 0, embedded := false, tag := "", pkgPath := "", byteOffset := 0 }, { name := "Data", type := 41, offset := 1, embedded := false, tag := "", pkgPath := "", byteOffset := 8 }]) 2 32 [(.int .i64 0), (.slice none 0 0)] true :=
  ⟨Try.underlying73, ⟨Try.t73, info_of Try.type73, rfl, rfl, _, rfl, rfl⟩, Try.isAgg73, rfl⟩
theorem ty3 : Ty Try.prog 3 (.int .i64) 1 8 [(.int .i64 0)] false :=
  ⟨Try.underlying3, ⟨Try.t3, info_of Try.type3, rfl, rfl, _, rfl, rfl⟩, Try.isAgg3, rfl⟩
theorem ty23 : Ty Try.prog 23 (.slice 73) 1 24 [(.slice none 0 0)] false :=
  ⟨Try.underlying23, ⟨Try.t23, info_of Try.type23, rfl, rfl, _, rfl, rfl⟩, Try.isAgg23, rfl⟩
theorem ty105 : Ty Try.prog 105 (.array 128 5) 128 128 (List.replicate 128 (.int .u8 0)) true :=
  ⟨Try.underlying105, ⟨Try.t105, info_of Try.type105, rfl, rfl, _, rfl, rfl⟩, Try.isAgg105, rfl⟩
theorem ty52 : Ty Try.prog 52 (.struct #[{ name := "Records", type := 22, offset := 0, embedded := false, tag := "", pkgPath := "", byteOffset := 0 }, { name := "Many", type := 3, offset := 1, embedded := false, tag := "", pkgPath := "", byteOffset := 24 }, { name := "Synced", type := 3, offset := 2, embedded := false, tag := "", pkgPath := "", byteOffset := 32 }]) 3 40 [(.slice none 0 0), (.int .i64 0), (.int .i64 0)] true :=
  ⟨Try.underlying52, ⟨Try.t52, info_of Try.type52, rfl, rfl, _, rfl, rfl⟩, Try.isAgg52, rfl⟩
theorem ty4 : Ty Try.prog 4 .bool 1 1 [(.bool false)] false :=
  ⟨Try.underlying4, ⟨Try.t4, info_of Try.type4, rfl, rfl, _, rfl, rfl⟩, Try.isAgg4, rfl⟩
theorem pl25 : Places Try.prog #[{ name := "Sectors", type := 22, offset := 0, embedded := false, tag := "", pkgPath := "", byteOffset := 0 }, { name := "Pending", type := 23, offset := 1, embedded := false, tag := "", pkgPath := "", byteOffset := 24 }, { name := "Left", type := 3, offset := 2, embedded := false, tag := "", pkgPath := "", byteOffset := 48 }, { name := "Stopped", type := 4, offset := 3, embedded := false, tag := "", pkgPath := "", byteOffset := 56 }] [(0, 1), (1, 1), (2, 1), (3, 1)] := fun w => by simp [ty22.runSize, ty23.runSize, ty3.runSize, ty4.runSize]
theorem pl52 : Places Try.prog #[{ name := "Records", type := 22, offset := 0, embedded := false, tag := "", pkgPath := "", byteOffset := 0 }, { name := "Many", type := 3, offset := 1, embedded := false, tag := "", pkgPath := "", byteOffset := 24 }, { name := "Synced", type := 3, offset := 2, embedded := false, tag := "", pkgPath := "", byteOffset := 32 }] [(0, 1), (1, 1), (2, 1)] := fun w => by simp [ty22.runSize, ty3.runSize, ty3.runSize]
theorem pl73 : Places Try.prog #[{ name := "At", type := 3, offset := 0, embedded := false, tag := "", pkgPath := "", byteOffset := 0 }, { name := "Data", type := 41, offset := 1, embedded := false, tag := "", pkgPath := "", byteOffset := 8 }] [(0, 1), (1, 1)] := fun w => by simp [ty3.runSize, ty41.runSize]

end Go.Fx



/- What the arguments read as. -/
namespace Go.Fx
open Go Go.Proofs Go.ChangeShapes Go.WideShapes Go.ChangeAt Go.RowKit Go.Fx
open Go.ChangeMaps (open_string shut_string)
set_option linter.unusedVariables false
set_option maxRecDepth 100000
theorem rd5 {H : Type} {enc : TypeId × Value → H} {w : World} {base : Nat} {spare : Nat → Bool} {held : Bool} : Rd enc Try.prog w base spare held 5 rU8 SmT := Rd_u8 Try.underlying5 (by kernel_rfl)
theorem rd3 {H : Type} {enc : TypeId × Value → H} {w : World} {base : Nat} {spare : Nat → Bool} {held : Bool} : Rd enc Try.prog w base spare held 3 (rInt .i64) (InK .i64) := Rd_int Try.underlying3 (by kernel_rfl)
end Go.Fx



/- What is read is of bounded bulk: reading with a measure. -/
set_option linter.unusedVariables false
namespace Go.Fx
open Go Go.RowKit
theorem sum_le : ∀ {l m : List Nat}, l.length = m.length → (∀ (i : Nat) (h1 : i < l.length) (h2 : i < m.length), l[i] ≤ m[i]) → l.sum ≤ m.sum
  | [], [], _, _ => Nat.le_refl _
  | [], _ :: _, h, _ => by simp at h
  | _ :: _, [], h, _ => by simp at h
  | a :: l, b :: m, h, k => by
    have h0 := k 0 (by simp) (by simp)
    have h1 := sum_le (l := l) (m := m) (by simpa using h) fun i h1 h2 => by
      have := k (i + 1) (by simp; omega) (by simp; omega)
      simpa using this
    simp only [List.getElem_cons_zero] at h0
    simp only [List.sum_cons]; omega
section
variable {H : Type} {enc : TypeId × Value → H} {P : Program} {w : World} {base : Nat} {spare : Nat → Bool} {held : Bool} {B : DataW H → Nat}
/-- whatever is read as a datum of type t stands in cells as one of α, whose measure is no more than the bulk -/
def RdB {α : Type} (B : DataW H → Nat) (enc : TypeId × Value → H) (P : Program) (w : World) (base : Nat) (spare : Nat → Bool) (held : Bool) (t : TypeId) (q : Rp α) (bk : α → Nat) : Prop :=
  P.cellsOf t = q.n ∧ ∀ (fuel : Nat) (cs : List Value) (y : DataW H × List MemPlace), DataW.trod enc P w base spare held fuel t cs = some y → ∃ x, q.rd w [] cs x ∧ bk x ≤ B y.1
theorem RdB.of {α : Type} {q : Rp α} {Sm : α → Prop} {t : TypeId} (h1 : ∀ d, 1 ≤ B d) (R : Rd enc P w base spare held t q Sm) : RdB B enc P w base spare held t q (fun _ => 1) :=
  ⟨R.1, fun fuel cs y h => by obtain ⟨x, hx, _⟩ := R.2 fuel cs y h; exact ⟨x, hx, h1 _⟩⟩
theorem RdB_slice {α : Type} {q : Rp α} {bk : α → Nat} {t e : TypeId} (h1 : ∀ d, 1 ≤ B d) (hB : ∀ e s : List (DataW H), 1 + (e.map B).sum ≤ B (.slice e s)) (ht : P.underlying t = some (.slice e)) (hc : P.cellsOf t = 1) (hn : 0 < q.n)
    (R : RdB B enc P w base spare held e q bk) : RdB B enc P w base spare held t (rSl q) (fun xs => 1 + (xs.map bk).sum) := by
  refine ⟨hc, fun fuel cs y h => ?_⟩
  rcases DataW.trod_slice ht h with ⟨rfl, _⟩ | ⟨a, len, cap, elems, rest, n, _, rfl, hy, hb, hl, hm, hlen, hel, _, _⟩
  · exact ⟨[], ⟨none, 0, rfl, SlR.nil_⟩, by simpa using h1 y.1⟩
  · have hex : ∀ i (hi : i < elems.length), ∃ x, PtR q w [] (a.add (i * q.n)) x ∧ bk x ≤ B elems[i].1 := fun i hi => by
      have h1 := hel i (by omega)
      rw [List.getElem?_eq_getElem hi, Option.bind_eq_some_iff] at h1
      obtain ⟨cs, h2, h3⟩ := h1
      obtain ⟨x, hx, hs⟩ := R.2 _ _ _ h3
      rw [R.1] at h2
      exact ⟨x, ptR_of_cells hn h2 hx, hs⟩
    have key : ∀ k, k ≤ elems.length → ∃ xs : List α, xs.length = k ∧ ∀ i (h : i < xs.length) (hi : i < elems.length), PtR q w [] (a.add (i * q.n)) xs[i] ∧ bk xs[i] ≤ B elems[i].1 := by
      intro k
      induction k with
      | zero => exact fun _ => ⟨[], rfl, by simp⟩
      | succ k ih =>
        intro hk
        obtain ⟨xs, h1, h2⟩ := ih (by omega)
        obtain ⟨x, hx⟩ := hex k (by omega)
        refine ⟨xs ++ [x], by simp [h1], fun i hi hi2 => ?_⟩
        by_cases hik : i < xs.length
        · rw [List.getElem_append_left hik]; exact h2 i hik hi2
        · have : i = k := by simp at hi; omega
          subst this
          rw [List.getElem_append_right (by omega)]; simpa [h1] using hx
    obtain ⟨xs, h1, h2⟩ := key elems.length (Nat.le_refl _)
    refine ⟨xs, ⟨some a, cap, by rw [h1, hlen], ⟨by omega, hm, (fun h => by cases h), fun ad he i hi => by cases he; exact (h2 i hi (by omega)).1⟩⟩, ?_⟩
    rw [hy]
    refine Nat.le_trans ?_ (hB _ _)
    refine Nat.add_le_add_left (sum_le (by simp [h1]) fun i h3 h4 => ?_) _
    simp only [List.getElem_map]
    simp only [List.length_map] at h3 h4
    exact (h2 i h3 h4).2
theorem fldB {α : Type} {q : Rp α} {bk : α → Nat} {fs : Array Field} {cs : List Value} {xs : List (DataW H × List MemPlace)} {n i : Nat} {f : Field} {t : TypeId} {y : DataW H × List MemPlace} (hA : ∀ (l : List (DataW H)), ∀ d ∈ l, B d ≤ B (.agg l)) (ht : P.underlying t = some (.struct fs))
    (h : ∀ (i : Nat) (f : Field), fs[i]? = some f → DataW.trod enc P w base spare held n f.type ((cs.drop f.offset).take (P.cellsOf f.type)) = xs[i]?) (hl : xs.length = fs.size) (hy : y = (.agg (xs.map (·.1)), xs.flatMap (·.2))) (hf : fs[i]? = some f)
    (R : RdB B enc P w base spare held f.type q bk) : ∃ x, q.rd w [] ((cs.drop f.offset).take q.n) x ∧ bk x ≤ B y.1 := by
  have h1 := h i f hf
  have hi : i < xs.length := by rw [hl]; exact (Array.getElem?_eq_some_iff.1 hf).1
  rw [List.getElem?_eq_getElem hi] at h1
  obtain ⟨x, hx, hs⟩ := R.2 _ _ _ h1
  rw [R.1] at hx
  refine ⟨x, hx, Nat.le_trans hs ?_⟩
  rw [hy]
  exact hA _ _ (List.mem_map.2 ⟨xs[i], List.getElem_mem hi, rfl⟩)
end
end Go.Fx



set_option linter.unusedVariables false
set_option linter.unusedSimpArgs false
set_option maxRecDepth 100000
set_option maxHeartbeats 0
namespace Go.Fx
open Go Go.RowKit Go.Proofs
end Go.Fx



set_option linter.unusedVariables false
set_option linter.unusedSimpArgs false
set_option maxRecDepth 100000
set_option maxHeartbeats 0
namespace Go.Fx
open Go Go.RowKit Go.Proofs
def m74_bits_Mul64 (x_ : Int) (y : Int) : Option (Int × Int) :=
 some ((IntKind.wrap .u64 ((IntKind.wrap .u64 ((IntKind.wrap .u64 ((x_ / 2 ^ min 32 (IntKind.bits .u64)) * (y / 2 ^ min 32 (IntKind.bits .u64)))) + ((IntKind.wrap .u64 ((IntKind.wrap .u64 ((x_ / 2 ^ min 32 (IntKind.bits .u64)) * (Go.bits .and .u64 y 4294967295))) + ((IntKind.wrap .u64 ((Go.bits .and .u64 x_ 4294967295) * (Go.bits .and .u64 y 4294967295))) / 2 ^ min 32 (IntKind.bits .u64)))) / 2 ^ min 32 (IntKind.bits .u64)))) + ((IntKind.wrap .u64 ((Go.bits .and .u64 (IntKind.wrap .u64 ((IntKind.wrap .u64 ((x_ / 2 ^ min 32 (IntKind.bits .u64)) * (Go.bits .and .u64 y 4294967295))) + ((IntKind.wrap .u64 ((Go.bits .and .u64 x_ 4294967295) * (Go.bits .and .u64 y 4294967295))) / 2 ^ min 32 (IntKind.bits .u64)))) 4294967295) + (IntKind.wrap .u64 ((Go.bits .and .u64 x_ 4294967295) * (y / 2 ^ min 32 (IntKind.bits .u64)))))) / 2 ^ min 32 (IntKind.bits .u64)))), (IntKind.wrap .u64 (x_ * y)))

theorem c74_bits_Mul64 {w : World} {O : List Nat} {x_ : Int} {y : Int} (hO : ∀ k ∈ O, k < w.heap.size) (r_x_ : InK .u64 x_) (r_y : InK .u64 y) {x : Int × Int} (hm : m74_bits_Mul64 x_ y = some x) :
  Ok Try.prog 74 [(Value.int .u64 x_), (Value.int .u64 y)] w O (vT2 (vI .u64) (vI .u64)) x := by
 unfold m74_bits_Mul64 at hm
 refine Fn_of_Wp (n := 51) (xs := [.tmp 4, .tmp 5]) Try.func74 rfl Try.ntmps74 Try.results74 rfl ?_
 have hs := St.start hO
 refine Wp_seq ?_
 refine Wp_region ?_
 refine Rg_op rfl (op_assign (v := (Value.int .u64 0)) rfl ?_)
 refine Rg_op rfl (op_assign (v := (Value.int .u64 0)) rfl ?_)
 refine Rg_nil ?_
 refine Wp_seq ?_
 refine Wp_region ?_
 refine Rg_op rfl (op_move (v := (Value.int .u64 x_)) rfl ?_)
 refine Rg_op rfl (op_and rfl rfl ?_)
 refine Rg_op rfl (op_assign (v := (Value.int .u64 (Go.bits .and .u64 x_ 4294967295))) rfl ?_)
 refine Rg_nil ?_
 refine Wp_seq ?_
 refine Wp_region ?_
 refine Rg_op rfl (op_move (v := (Value.int .u64 x_)) rfl ?_)
 refine Rg_op rfl (op_shr rfl rfl (by decide) ?_)
 refine Rg_op rfl (op_assign (v := (Value.int .u64 (x_ / 2 ^ min 32 (IntKind.bits .u64)))) rfl ?_)
 refine Rg_nil ?_
 refine Wp_seq ?_
 refine Wp_region ?_
 refine Rg_op rfl (op_move (v := (Value.int .u64 y)) rfl ?_)
 refine Rg_op rfl (op_and rfl rfl ?_)
 refine Rg_op rfl (op_assign (v := (Value.int .u64 (Go.bits .and .u64 y 4294967295))) rfl ?_)
 refine Rg_nil ?_
 refine Wp_seq ?_
 refine Wp_region ?_
 refine Rg_op rfl (op_move (v := (Value.int .u64 y)) rfl ?_)
 refine Rg_op rfl (op_shr rfl rfl (by decide) ?_)
 refine Rg_op rfl (op_assign (v := (Value.int .u64 (y / 2 ^ min 32 (IntKind.bits .u64)))) rfl ?_)
 refine Rg_nil ?_
 refine Wp_seq ?_
 refine Wp_region ?_
 refine Rg_op rfl (op_move (v := (Value.int .u64 (Go.bits .and .u64 x_ 4294967295))) rfl ?_)
 refine Rg_op rfl (op_move (v := (Value.int .u64 (Go.bits .and .u64 y 4294967295))) rfl ?_)
 refine Rg_op rfl (op_mulw rfl rfl ?_)
 refine Rg_op rfl (op_assign (v := (Value.int .u64 (IntKind.wrap .u64 ((Go.bits .and .u64 x_ 4294967295) * (Go.bits .and .u64 y 4294967295))))) rfl ?_)
 refine Rg_nil ?_
 refine Wp_seq ?_
 refine Wp_region ?_
 refine Rg_op rfl (op_move (v := (Value.int .u64 (x_ / 2 ^ min 32 (IntKind.bits .u64)))) rfl ?_)
 refine Rg_op rfl (op_move (v := (Value.int .u64 (Go.bits .and .u64 y 4294967295))) rfl ?_)
 refine Rg_op rfl (op_mulw rfl rfl ?_)
 refine Rg_op rfl (op_move (v := (Value.int .u64 (IntKind.wrap .u64 ((Go.bits .and .u64 x_ 4294967295) * (Go.bits .and .u64 y 4294967295))))) rfl ?_)
 refine Rg_op rfl (op_shr rfl rfl (by decide) ?_)
 refine Rg_op rfl (op_addw rfl rfl ?_)
 refine Rg_op rfl (op_assign (v := (Value.int .u64 (IntKind.wrap .u64 ((IntKind.wrap .u64 ((x_ / 2 ^ min 32 (IntKind.bits .u64)) * (Go.bits .and .u64 y 4294967295))) + ((IntKind.wrap .u64 ((Go.bits .and .u64 x_ 4294967295) * (Go.bits .and .u64 y 4294967295))) / 2 ^ min 32 (IntKind.bits .u64)))))) rfl ?_)
 refine Rg_nil ?_
 refine Wp_seq ?_
 refine Wp_reset [] [(0, (Value.int .u64 x_)), (1, (Value.int .u64 y)), (6, (Value.int .u64 (Go.bits .and .u64 x_ 4294967295))), (7, (Value.int .u64 (x_ / 2 ^ min 32 (IntKind.bits .u64)))), (9, (Value.int .u64 (y / 2 ^ min 32 (IntKind.bits .u64)))), (11, (Value.int .u64 (IntKind.wrap .u64 ((IntKind.wrap .u64 ((x_ / 2 ^ min 32 (IntKind.bits .u64)) * (Go.bits .and .u64 y 4294967295))) + ((IntKind.wrap .u64 ((Go.bits .and .u64 x_ 4294967295) * (Go.bits .and .u64 y 4294967295))) / 2 ^ min 32 (IntKind.bits .u64))))))] rfl ⟨rfl, rfl, rfl, rfl, rfl, rfl, trivial⟩ fun ξ1 => ?_
 refine Wp_region ?_
 refine Rg_op rfl (op_move (v := (Value.int .u64 (IntKind.wrap .u64 ((IntKind.wrap .u64 ((x_ / 2 ^ min 32 (IntKind.bits .u64)) * (Go.bits .and .u64 y 4294967295))) + ((IntKind.wrap .u64 ((Go.bits .and .u64 x_ 4294967295) * (Go.bits .and .u64 y 4294967295))) / 2 ^ min 32 (IntKind.bits .u64)))))) rfl ?_)
 refine Rg_op rfl (op_and rfl rfl ?_)
 refine Rg_op rfl (op_assign (v := (Value.int .u64 (Go.bits .and .u64 (IntKind.wrap .u64 ((IntKind.wrap .u64 ((x_ / 2 ^ min 32 (IntKind.bits .u64)) * (Go.bits .and .u64 y 4294967295))) + ((IntKind.wrap .u64 ((Go.bits .and .u64 x_ 4294967295) * (Go.bits .and .u64 y 4294967295))) / 2 ^ min 32 (IntKind.bits .u64)))) 4294967295))) rfl ?_)
 refine Rg_nil ?_
 refine Wp_seq ?_
 refine Wp_region ?_
 refine Rg_op rfl (op_move (v := (Value.int .u64 (IntKind.wrap .u64 ((IntKind.wrap .u64 ((x_ / 2 ^ min 32 (IntKind.bits .u64)) * (Go.bits .and .u64 y 4294967295))) + ((IntKind.wrap .u64 ((Go.bits .and .u64 x_ 4294967295) * (Go.bits .and .u64 y 4294967295))) / 2 ^ min 32 (IntKind.bits .u64)))))) rfl ?_)
 refine Rg_op rfl (op_shr rfl rfl (by decide) ?_)
 refine Rg_op rfl (op_assign (v := (Value.int .u64 ((IntKind.wrap .u64 ((IntKind.wrap .u64 ((x_ / 2 ^ min 32 (IntKind.bits .u64)) * (Go.bits .and .u64 y 4294967295))) + ((IntKind.wrap .u64 ((Go.bits .and .u64 x_ 4294967295) * (Go.bits .and .u64 y 4294967295))) / 2 ^ min 32 (IntKind.bits .u64)))) / 2 ^ min 32 (IntKind.bits .u64)))) rfl ?_)
 refine Rg_nil ?_
 refine Wp_seq ?_
 refine Wp_region ?_
 refine Rg_op rfl (op_move (v := (Value.int .u64 (Go.bits .and .u64 (IntKind.wrap .u64 ((IntKind.wrap .u64 ((x_ / 2 ^ min 32 (IntKind.bits .u64)) * (Go.bits .and .u64 y 4294967295))) + ((IntKind.wrap .u64 ((Go.bits .and .u64 x_ 4294967295) * (Go.bits .and .u64 y 4294967295))) / 2 ^ min 32 (IntKind.bits .u64)))) 4294967295))) rfl ?_)
 refine Rg_op rfl (op_move (v := (Value.int .u64 (Go.bits .and .u64 x_ 4294967295))) rfl ?_)
 refine Rg_op rfl (op_move (v := (Value.int .u64 (y / 2 ^ min 32 (IntKind.bits .u64)))) rfl ?_)
 refine Rg_op rfl (op_mulw rfl rfl ?_)
 refine Rg_op rfl (op_addw rfl rfl ?_)
 refine Rg_op rfl (op_assign (v := (Value.int .u64 (IntKind.wrap .u64 ((Go.bits .and .u64 (IntKind.wrap .u64 ((IntKind.wrap .u64 ((x_ / 2 ^ min 32 (IntKind.bits .u64)) * (Go.bits .and .u64 y 4294967295))) + ((IntKind.wrap .u64 ((Go.bits .and .u64 x_ 4294967295) * (Go.bits .and .u64 y 4294967295))) / 2 ^ min 32 (IntKind.bits .u64)))) 4294967295) + (IntKind.wrap .u64 ((Go.bits .and .u64 x_ 4294967295) * (y / 2 ^ min 32 (IntKind.bits .u64)))))))) rfl ?_)
 refine Rg_nil ?_
 refine Wp_seq ?_
 refine Wp_region ?_
 refine Rg_op rfl (op_move (v := (Value.int .u64 (x_ / 2 ^ min 32 (IntKind.bits .u64)))) rfl ?_)
 refine Rg_op rfl (op_move (v := (Value.int .u64 (y / 2 ^ min 32 (IntKind.bits .u64)))) rfl ?_)
 refine Rg_op rfl (op_mulw rfl rfl ?_)
 refine Rg_op rfl (op_move (v := (Value.int .u64 ((IntKind.wrap .u64 ((IntKind.wrap .u64 ((x_ / 2 ^ min 32 (IntKind.bits .u64)) * (Go.bits .and .u64 y 4294967295))) + ((IntKind.wrap .u64 ((Go.bits .and .u64 x_ 4294967295) * (Go.bits .and .u64 y 4294967295))) / 2 ^ min 32 (IntKind.bits .u64)))) / 2 ^ min 32 (IntKind.bits .u64)))) rfl ?_)
 refine Rg_op rfl (op_addw rfl rfl ?_)
 refine Rg_op rfl (op_move (v := (Value.int .u64 (IntKind.wrap .u64 ((Go.bits .and .u64 (IntKind.wrap .u64 ((IntKind.wrap .u64 ((x_ / 2 ^ min 32 (IntKind.bits .u64)) * (Go.bits .and .u64 y 4294967295))) + ((IntKind.wrap .u64 ((Go.bits .and .u64 x_ 4294967295) * (Go.bits .and .u64 y 4294967295))) / 2 ^ min 32 (IntKind.bits .u64)))) 4294967295) + (IntKind.wrap .u64 ((Go.bits .and .u64 x_ 4294967295) * (y / 2 ^ min 32 (IntKind.bits .u64)))))))) rfl ?_)
 refine Rg_op rfl (op_shr rfl rfl (by decide) ?_)
 refine Rg_op rfl (op_addw rfl rfl ?_)
 refine Rg_op rfl (op_assign (v := (Value.int .u64 (IntKind.wrap .u64 ((IntKind.wrap .u64 ((IntKind.wrap .u64 ((x_ / 2 ^ min 32 (IntKind.bits .u64)) * (y / 2 ^ min 32 (IntKind.bits .u64)))) + ((IntKind.wrap .u64 ((IntKind.wrap .u64 ((x_ / 2 ^ min 32 (IntKind.bits .u64)) * (Go.bits .and .u64 y 4294967295))) + ((IntKind.wrap .u64 ((Go.bits .and .u64 x_ 4294967295) * (Go.bits .and .u64 y 4294967295))) / 2 ^ min 32 (IntKind.bits .u64)))) / 2 ^ min 32 (IntKind.bits .u64)))) + ((IntKind.wrap .u64 ((Go.bits .and .u64 (IntKind.wrap .u64 ((IntKind.wrap .u64 ((x_ / 2 ^ min 32 (IntKind.bits .u64)) * (Go.bits .and .u64 y 4294967295))) + ((IntKind.wrap .u64 ((Go.bits .and .u64 x_ 4294967295) * (Go.bits .and .u64 y 4294967295))) / 2 ^ min 32 (IntKind.bits .u64)))) 4294967295) + (IntKind.wrap .u64 ((Go.bits .and .u64 x_ 4294967295) * (y / 2 ^ min 32 (IntKind.bits .u64)))))) / 2 ^ min 32 (IntKind.bits .u64)))))) rfl ?_)
 refine Rg_nil ?_
 refine Wp_seq ?_
 refine Wp_region ?_
 refine Rg_op rfl (op_move (v := (Value.int .u64 x_)) rfl ?_)
 refine Rg_op rfl (op_move (v := (Value.int .u64 y)) rfl ?_)
 refine Rg_op rfl (op_mulw rfl rfl ?_)
 refine Rg_op rfl (op_assign (v := (Value.int .u64 (IntKind.wrap .u64 (x_ * y)))) rfl ?_)
 refine Rg_nil ?_
 refine Wp_ret ?_
 have hz := step_all hs
 refine ⟨_, (show Closes [] _ _ from rfl), [(Value.int .u64 (IntKind.wrap .u64 ((IntKind.wrap .u64 ((IntKind.wrap .u64 ((x_ / 2 ^ min 32 (IntKind.bits .u64)) * (y / 2 ^ min 32 (IntKind.bits .u64)))) + ((IntKind.wrap .u64 ((IntKind.wrap .u64 ((x_ / 2 ^ min 32 (IntKind.bits .u64)) * (Go.bits .and .u64 y 4294967295))) + ((IntKind.wrap .u64 ((Go.bits .and .u64 x_ 4294967295) * (Go.bits .and .u64 y 4294967295))) / 2 ^ min 32 (IntKind.bits .u64)))) / 2 ^ min 32 (IntKind.bits .u64)))) + ((IntKind.wrap .u64 ((Go.bits .and .u64 (IntKind.wrap .u64 ((IntKind.wrap .u64 ((x_ / 2 ^ min 32 (IntKind.bits .u64)) * (Go.bits .and .u64 y 4294967295))) + ((IntKind.wrap .u64 ((Go.bits .and .u64 x_ 4294967295) * (Go.bits .and .u64 y 4294967295))) / 2 ^ min 32 (IntKind.bits .u64)))) 4294967295) + (IntKind.wrap .u64 ((Go.bits .and .u64 x_ 4294967295) * (y / 2 ^ min 32 (IntKind.bits .u64)))))) / 2 ^ min 32 (IntKind.bits .u64))))), (Value.int .u64 (IntKind.wrap .u64 (x_ * y)))], ⟨rfl, rfl, trivial⟩, hs.ext, ?_⟩
 exact Vr.eq (a := (vT2 (vI .u64) (vI .u64))) (x := ((IntKind.wrap .u64 ((IntKind.wrap .u64 ((IntKind.wrap .u64 ((x_ / 2 ^ min 32 (IntKind.bits .u64)) * (y / 2 ^ min 32 (IntKind.bits .u64)))) + ((IntKind.wrap .u64 ((IntKind.wrap .u64 ((x_ / 2 ^ min 32 (IntKind.bits .u64)) * (Go.bits .and .u64 y 4294967295))) + ((IntKind.wrap .u64 ((Go.bits .and .u64 x_ 4294967295) * (Go.bits .and .u64 y 4294967295))) / 2 ^ min 32 (IntKind.bits .u64)))) / 2 ^ min 32 (IntKind.bits .u64)))) + ((IntKind.wrap .u64 ((Go.bits .and .u64 (IntKind.wrap .u64 ((IntKind.wrap .u64 ((x_ / 2 ^ min 32 (IntKind.bits .u64)) * (Go.bits .and .u64 y 4294967295))) + ((IntKind.wrap .u64 ((Go.bits .and .u64 x_ 4294967295) * (Go.bits .and .u64 y 4294967295))) / 2 ^ min 32 (IntKind.bits .u64)))) 4294967295) + (IntKind.wrap .u64 ((Go.bits .and .u64 x_ 4294967295) * (y / 2 ^ min 32 (IntKind.bits .u64)))))) / 2 ^ min 32 (IntKind.bits .u64)))), (IntKind.wrap .u64 (x_ * y)))) (mkT2 ⟨rfl, (inK_wrap .u64 _)⟩ ⟨rfl, (inK_wrap .u64 _)⟩) (Option.some.inj hm)

end Go.Fx



set_option linter.unusedVariables false
set_option linter.unusedSimpArgs false
set_option maxRecDepth 100000
set_option maxHeartbeats 0
namespace Go.Fx
open Go Go.RowKit Go.Proofs
def m64_bits_Mul (x_ : Int) (y : Int) : Option (Int × Int) :=
 (m74_bits_Mul64 x_ y).bind fun mul64_1 =>
 some (mul64_1.1, mul64_1.2)

theorem c64_bits_Mul {w : World} {O : List Nat} {x_ : Int} {y : Int} (hO : ∀ k ∈ O, k < w.heap.size) (r_x_ : InK .u64 x_) (r_y : InK .u64 y) {x : Int × Int} (hm : m64_bits_Mul x_ y = some x) :
  Ok Try.prog 64 [(Value.int .u64 x_), (Value.int .u64 y)] w O (vT2 (vI .u64) (vI .u64)) x := by
 unfold m64_bits_Mul at hm
 refine Fn_of_Wp (n := 30) (xs := [.tmp 4, .tmp 5]) Try.func64 rfl Try.ntmps64 Try.results64 rfl ?_
 have hs := St.start hO
 refine Wp_seq ?_
 refine Wp_region ?_
 refine Rg_op rfl (op_assign (v := (Value.int .u64 0)) rfl ?_)
 refine Rg_op rfl (op_assign (v := (Value.int .u64 0)) rfl ?_)
 refine Rg_nil ?_
 refine Wp_seq ?_
 refine Wp_cond_f rfl ?_
 refine Wp_skip ?_
 refine Wp_seq ?_
 refine Wp_region ?_
 refine Rg_op rfl (op_move (v := (Value.int .u64 x_)) rfl ?_)
 refine Rg_op rfl (op_move (v := (Value.int .u64 y)) rfl ?_)
 replace hm := bd hm; obtain ⟨mul64_1, hv1, hm⟩ := hm
 refine Rg_op rfl (op_call Try.call74 (c74_bits_Mul64 (x_ := x_) (y := y) hs.ltw r_x_ r_y hv1) rfl ?_)
 rintro v2 w3 ⟨hx4, h5⟩
 have hs6 := hs.call hx4
 have p7 := Step.ext (O := ks [] O) hx4
 clear hx4
 clear p7
 obtain ⟨v8, v9, rfl, h10, h11⟩ := h5
 obtain ⟨rfl, r_y12⟩ := h10
 obtain ⟨rfl, r_y13⟩ := h11
 refine Rg_op rfl (op_move (v := (Value.tuple [(Value.int .u64 mul64_1.1), (Value.int .u64 mul64_1.2)].toArray)) rfl ?_)
 refine Rg_op rfl (op_extract (v := (Value.int .u64 mul64_1.1)) rfl rfl ?_)
 refine Rg_op rfl (op_extract (v := (Value.int .u64 mul64_1.2)) rfl rfl ?_)
 refine Rg_op rfl (op_assign (v := (Value.int .u64 mul64_1.1)) rfl ?_)
 refine Rg_op rfl (op_assign (v := (Value.int .u64 mul64_1.2)) rfl ?_)
 refine Rg_nil ?_
 refine Wp_seq ?_
 refine Wp_region ?_
 refine Rg_op rfl (op_move (v := (Value.int .u64 mul64_1.1)) rfl ?_)
 refine Rg_op rfl (op_move (v := (Value.int .u64 mul64_1.2)) rfl ?_)
 refine Rg_op rfl (op_assign (v := (Value.int .u64 mul64_1.1)) rfl ?_)
 refine Rg_op rfl (op_assign (v := (Value.int .u64 mul64_1.2)) rfl ?_)
 refine Rg_nil ?_
 refine Wp_ret ?_
 have hz := step_all hs6
 refine ⟨_, (show Closes [] _ _ from rfl), [(Value.int .u64 mul64_1.1), (Value.int .u64 mul64_1.2)], ⟨rfl, rfl, trivial⟩, hs6.ext, ?_⟩
 exact Vr.eq (a := (vT2 (vI .u64) (vI .u64))) (x := (mul64_1.1, mul64_1.2)) (mkT2 ⟨rfl, r_y12⟩ ⟨rfl, r_y13⟩) (Option.some.inj hm)

end Go.Fx



set_option linter.unusedVariables false
set_option linter.unusedSimpArgs false
set_option maxRecDepth 100000
set_option maxHeartbeats 0
namespace Go.Fx
open Go Go.RowKit Go.Proofs
def m41_slices_Repeatbyte_byte__B0 (sf43 : (List (List UInt8)) → Int → Option (List (List UInt8))) (newslice_1 : List (List UInt8)) (n_1 : Int) : Option (List (List UInt8)) :=
 bif (decide (n_1 < (newslice_1.length : Int))) then
  ck ((0 : Int) ≤ n_1 ∧ n_1 < (newslice_1.length : Int) ∧ (newslice_1.length : Int) ≤ (newslice_1.length : Int)) <|
  ck ((0 : Int) ≤ (0 : Int) ∧ (0 : Int) < n_1 ∧ n_1 ≤ (newslice_1.length : Int)) <|
  ck (n_1.toNat < newslice_1.length) <|
  sf43 (newslice_1.take n_1.toNat ++ (((newslice_1.drop 0).take (n_1.toNat - 0)).take (newslice_1.length - n_1.toNat) ++ (newslice_1.drop n_1.toNat).drop (min ((newslice_1.drop 0).take (n_1.toNat - 0)).length (newslice_1.length - n_1.toNat)))) (IntKind.wrap .i64 (n_1 + ((min ((newslice_1.drop 0).take (n_1.toNat - 0)).length (newslice_1.length - n_1.toNat) : Nat) : Int)))
 else
  some newslice_1

def m41_slices_Repeatbyte_byte_ (x_ : List (List UInt8)) (count : Int) : Option (List (List UInt8)) :=
 bif (decide (count < 0)) then
  none
 else
  (m64_bits_Mul (IntKind.wrap .u64 (x_.length : Int)) (IntKind.wrap .u64 count)).bind fun mul_1 =>
  jn (fun (v_1 : Bool) =>
   bif v_1 then
    none
   else
    ck ((0 : Int) ≤ (IntKind.wrap .i64 mul_1.2) ∧ (IntKind.wrap .i64 mul_1.2) ≤ (IntKind.wrap .i64 mul_1.2) ∧ (24 : Int) * (IntKind.wrap .i64 mul_1.2) ≤ 281474976710656 ∧ (IntKind.wrap .i64 mul_1.2) ≤ 281474976710656) <|
    ck (0 < (List.replicate (IntKind.wrap .i64 mul_1.2).toNat ([] : List UInt8)).length) <|
    loop2 m41_slices_Repeatbyte_byte__B0 (1000000) (x_.take (List.replicate (IntKind.wrap .i64 mul_1.2).toNat ([] : List UInt8)).length ++ (List.replicate (IntKind.wrap .i64 mul_1.2).toNat ([] : List UInt8)).drop x_.length) ((min x_.length (List.replicate (IntKind.wrap .i64 mul_1.2).toNat ([] : List UInt8)).length : Nat) : Int))
  (fun k18 =>
   bif (decide (0 < mul_1.1)) then
    k18 true
   else
    k18 (decide (9223372036854775807 < mul_1.2)))

theorem g41_slices_Repeatbyte_byte_ {w : World} {O : List Nat} {x_ : List (List UInt8)} {count : Int} {a_x_ : Option Addr} {c_x_ : Nat} (hO : ∀ k ∈ O, k < w.heap.size) (f_x_ : SlR (rSl rU8) w O a_x_ c_x_ x_) (r_count : InK .i64 count) {x : (List (List UInt8))} (hm : m41_slices_Repeatbyte_byte_ x_ count = some x) :
  OkG Try.prog 41 [(Value.slice a_x_ x_.length c_x_), (Value.int .i64 count)] w O (rSl rU8) 41 x := by
 unfold m41_slices_Repeatbyte_byte_ at hm
 refine Fn_of_Wp (n := 48) (xs := [.tmp 4]) Try.func41 rfl Try.ntmps41 Try.results41 rfl ?_
 have hs := St.start hO
 refine Wp_seq ?_
 refine Wp_region ?_
 refine Rg_op rfl (op_assign (v := (Value.slice none 0 0)) rfl ?_)
 refine Rg_nil ?_
 refine Wp_seq ?_
 refine Wp_seq ?_
 refine Wp_region ?_
 refine Rg_op rfl (op_move (v := (Value.int .i64 count)) rfl ?_)
 refine Rg_op rfl (op_lss rfl rfl ?_)
 refine Rg_nil ?_
 refine Wp_cond rfl (fun hc1 => ?_) (fun hc1 => ?_)
 ·
  replace hm := bif_t hm hc1
  refine Wp_region ?_
  cases hm
 ·
  replace hm := bif_f hm hc1
  refine Wp_skip ?_
  refine Wp_seq ?_
  refine Wp_region ?_
  refine Rg_op rfl (op_move (v := (Value.slice a_x_ x_.length c_x_)) rfl ?_)
  refine Rg_op rfl (op_len Try.underlying22 rfl ?_)
  have rl2 := inK_len f_x_
  refine Rg_op rfl (op_conv Try.underlying3 Try.underlying65 rfl ?_)
  refine Rg_op rfl (op_move (v := (Value.int .i64 count)) rfl ?_)
  refine Rg_op rfl (op_conv Try.underlying3 Try.underlying65 rfl ?_)
  replace hm := bd hm; obtain ⟨mul_1, hv3, hm⟩ := hm
  refine Rg_op rfl (op_call Try.call64 (c64_bits_Mul (x_ := (IntKind.wrap .u64 (x_.length : Int))) (y := (IntKind.wrap .u64 count)) hs.ltw (inK_wrap .u64 _) (inK_wrap .u64 _) hv3) rfl ?_)
  rintro v4 w5 ⟨hx6, h7⟩
  have hs8 := hs.call hx6
  have p9 := Step.ext (O := ks [] O) hx6
  clear hx6
  replace f_x_ := f_x_.step p9; clear p9
  obtain ⟨v10, v11, rfl, h12, h13⟩ := h7
  obtain ⟨rfl, r_y14⟩ := h12
  obtain ⟨rfl, r_y15⟩ := h13
  refine Rg_op rfl (op_move (v := (Value.tuple [(Value.int .u64 mul_1.1), (Value.int .u64 mul_1.2)].toArray)) rfl ?_)
  refine Rg_op rfl (op_extract (v := (Value.int .u64 mul_1.1)) rfl rfl ?_)
  refine Rg_op rfl (op_extract (v := (Value.int .u64 mul_1.2)) rfl rfl ?_)
  refine Rg_op rfl (op_assign (v := (Value.int .u64 mul_1.1)) rfl ?_)
  refine Rg_op rfl (op_assign (v := (Value.int .u64 mul_1.2)) rfl ?_)
  refine Rg_nil ?_
  refine Wp_seq ?_
  refine Wp_reset [] [(0, (Value.slice a_x_ x_.length c_x_)), (5, (Value.int .u64 mul_1.1)), (6, (Value.int .u64 mul_1.2))] rfl ⟨rfl, rfl, rfl, trivial⟩ fun ξ16 => ?_
  replace hm := jn_elim hm; obtain ⟨k18, hk19, hm⟩ := hm
  refine Wp_seqJ [21, 22, 23, 24, 25, 26] (fun fr w' => ∃ (v_1 : Bool) (Ebs : Ents), Ebs = [] ∧ fr [] [(26, (Value.bool v_1))] ∧ Step (ks [] O) w5 (ks Ebs O) w' ∧ St ⟨w, [], []⟩ O w' Ebs ∧ k18 v_1 = some x) ?_ ?_
  ·
   rintro ρ25 w21 ⟨v_1, Ebs, hEbs, hfr24, hst23, hs22, hm⟩
   replace hm := jnE1 hk19 hm
   subst hEbs; rw [hfr24.eq]; clear hfr24
   replace f_x_ := f_x_.step hst23; clear hst23 hs8
   refine Wp_cond rfl (fun hc26 => ?_) (fun hc26 => ?_)
   ·
    replace hm := bif_t hm hc26
    refine Wp_region ?_
    cases hm
   ·
    replace hm := bif_f hm hc26
    refine Wp_skip ?_
    refine Wp_seq ?_
    refine Wp_region ?_
    refine Rg_op rfl (op_move (v := (Value.int .u64 mul_1.2)) rfl ?_)
    refine Rg_op rfl (op_conv Try.underlying65 Try.underlying3 rfl ?_)
    replace hm := ck_some hm; obtain ⟨hc27, hm⟩ := hm
    refine Rg_op rfl (op_makeSliceI (q := (rSl rU8)) (v := (Value.slice none 0 0)) (x0 := ([] : List UInt8)) ty22 ty41 hs22 rfl rfl hc27 rfl (fun _ _ => (mk_sl SlR.nil_)) ?_)
    intro b28 w29 hx33 p30 hs31 f32
    replace f_x_ := f_x_.step p30; clear p30 hs22
    refine Rg_op rfl (op_assign (v := (Value.slice (some ⟨b28, 0, none⟩) (List.replicate (IntKind.wrap .i64 mul_1.2).toNat ([] : List UInt8)).length ((IntKind.wrap .i64 mul_1.2).toNat))) rfl ?_)
    refine Rg_nil ?_
    refine Wp_seq ?_
    refine Wp_region ?_
    refine Rg_op rfl (op_move (v := (Value.slice (some ⟨b28, 0, none⟩) (List.replicate (IntKind.wrap .i64 mul_1.2).toNat ([] : List UInt8)).length ((IntKind.wrap .i64 mul_1.2).toNat))) rfl ?_)
    refine Rg_op rfl (op_move (v := (Value.slice a_x_ x_.length c_x_)) rfl ?_)
    replace hm := ck_some hm; obtain ⟨hc35, hm⟩ := hm
    refine Rg_op rfl (op_copyG (p := (rSl rU8)) (i := 0) ty22 ty41 rfl hs31 rfl rfl f32 rfl f_x_ hc35 ?_)
    intro o39 w36 p37 hs38 f40
    replace f_x_ := f_x_.step p37; clear p37 hs31
    refine Rg_op rfl (op_assign (v := (Value.int .i64 ((min x_.length (List.replicate (IntKind.wrap .i64 mul_1.2).toNat ([] : List UInt8)).length : Nat) : Int))) rfl ?_)
    refine Rg_nil ?_
    refine Wp_seq ?_
    refine Wp_block ?_
    refine Wp_loopM [7, 8, 34, 35, 36, 37, 38, 39, 40, 41, 42, 43, 44, 45, 46] (fun m fr w' => ∃ (newslice_1 : List (List UInt8)) (n_1 : Int) (a_g41 : Option Addr) (c_g41 : Nat) (k_g41 : Option Nat) (o_g41 : Obj) (Ebs : Ents), Ebs = [(k_g41, o_g41)] ∧ fr [] [(7, (Value.slice a_g41 newslice_1.length c_g41)), (8, (Value.int .i64 n_1))] ∧ Step (ks [(some b28, o39)] O) w36 (ks Ebs O) w' ∧ St ⟨w, [], []⟩ O w' Ebs ∧ Gs (rSl rU8) 41 w' (ks Ebs O) a_g41 c_g41 newslice_1 k_g41 o_g41 ∧ InK .i64 n_1 ∧ loop2 m41_slices_Repeatbyte_byte__B0 m newslice_1 n_1 = some x) (1000000) ⟨(x_.take (List.replicate (IntKind.wrap .i64 mul_1.2).toNat ([] : List UInt8)).length ++ (List.replicate (IntKind.wrap .i64 mul_1.2).toNat ([] : List UInt8)).drop x_.length), ((min x_.length (List.replicate (IntKind.wrap .i64 mul_1.2).toNat ([] : List UInt8)).length : Nat) : Int), (some ⟨b28, 0, none⟩), (IntKind.wrap .i64 mul_1.2).toNat, (some b28), o39, _, rfl, ⟨Out.refl _ _, rfl, (eqlenV (show (List.replicate (IntKind.wrap .i64 mul_1.2).toNat ([] : List UInt8)).length = (x_.take (List.replicate (IntKind.wrap .i64 mul_1.2).toNat ([] : List UInt8)).length ++ (List.replicate (IntKind.wrap .i64 mul_1.2).toNat ([] : List UInt8)).drop x_.length).length from by first | (simp; done) | (simp; omega))), rfl, trivial⟩, Step.refl _ _, hs38, f40, (inK_minlen f_x_), hm⟩ ?_ ?_
    · rintro _ _ ⟨_, _, _, _, _, _, _, _, _, _, _, _, _, hm⟩; exact loop2_z hm
    ·
     rintro m46 K45 hK45 ρ51 w47 ⟨newslice_1, n_1, a_g41, c_g41, k_g41, o_g41, Ebs, hEbs, hfr50, hst49, hs48, f_g41, r_y42, hm⟩
     obtain ⟨sf43, hsf44, hm⟩ := loop2_s hm; unfold m41_slices_Repeatbyte_byte__B0 at hm
     subst hEbs; rw [hfr50.eq]; clear hfr50
     replace f_x_ := f_x_.step hst49; replace f40 := f40.step hst49
     have ch52 := hst49
     refine Wp_seq ?_
     refine Wp_seq ?_
     clear f_x_ f40
     refine Wp_region ?_
     refine Rg_op rfl (op_move (v := (Value.int .i64 n_1)) rfl ?_)
     refine Rg_op rfl (op_move (v := (Value.slice a_g41 newslice_1.length c_g41)) rfl ?_)
     refine Rg_op rfl (op_len Try.underlying22 rfl ?_)
     have rl53 := inK_lenG f_g41
     refine Rg_op rfl (op_lss rfl rfl ?_)
     refine Rg_nil ?_
     refine Wp_cond rfl (fun hc54 => ?_) (fun hc54 => ?_)
     ·
      replace hm := bif_t hm hc54
      refine Wp_skip ?_
      refine Wp_block ?_
      refine Wp_drawR (g0 := []) (m := 7) (fl := [0]) (TS_inv hs48) rfl (.inl rfl) rfl (by decide +kernel) ?_  -- 9
      refine Dw_eq (Value.int .i64 n_1) (fun ρ55 w56 g hle hi ht => ?_) ?_
      ·
       obtain ⟨-, hst, -⟩ := hle
       refine StepOp_plain (op_move (v := (Value.int .i64 n_1)) (ht 8 rfl) ?_)
       exact Goes.same hi rfl
      refine Dw_eq (Value.slice a_g41 newslice_1.length c_g41) (fun ρ58 w59 g hle hi ht => ?_) ?_
      ·
       obtain ⟨-, hst, -⟩ := hle
       refine StepOp_plain (op_move (v := (Value.slice a_g41 newslice_1.length c_g41)) (ht 7 rfl) ?_)
       exact Goes.same hi rfl
      refine Dw_eq (Value.int .i64 n_1) (fun ρ61 w62 g hle hi ht => ?_) ?_
      ·
       obtain ⟨-, hst, -⟩ := hle
       refine StepOp_plain (op_move (v := (Value.int .i64 n_1)) (ht 8 rfl) ?_)
       exact Goes.same hi rfl
      replace hm := ck_some hm; obtain ⟨hc67, hm⟩ := hm
      obtain ⟨b68, rfl, rfl⟩ := f_g41.at_ (by omega)
      refine Dw_eq (Value.slice (some ⟨b68, if c_g41 = n_1.toNat then 0 else 0 + n_1.toNat * 1, none⟩) (newslice_1.length - n_1.toNat) (c_g41 - n_1.toNat)) (fun ρ64 w65 g hle hi ht => ?_) ?_
      ·
       obtain ⟨-, hst, -⟩ := hle
       replace f_g41 := f_g41.step hst
       refine StepOp_plain (op_sliceO (l := n_1.toNat) (h := newslice_1.length) (m := c_g41) ty22 ty41 (ht 39 rfl) (bndI (ht 40 rfl) (by omega)) rfl rfl (by decide) (by omega) (by have := f_g41.le; omega) (Nat.le_refl _) ?_)
       exact Goes.same hi rfl
      refine Dw_eq (Value.slice (some ⟨b68, 0, none⟩) newslice_1.length c_g41) (fun ρ69 w70 g hle hi ht => ?_) ?_
      ·
       obtain ⟨-, hst, -⟩ := hle
       refine StepOp_plain (op_move (v := (Value.slice (some ⟨b68, 0, none⟩) newslice_1.length c_g41)) (ht 7 rfl) ?_)
       exact Goes.same hi rfl
      refine Dw_eq (Value.int .i64 n_1) (fun ρ72 w73 g hle hi ht => ?_) ?_
      ·
       obtain ⟨-, hst, -⟩ := hle
       refine StepOp_plain (op_move (v := (Value.int .i64 n_1)) (ht 8 rfl) ?_)
       exact Goes.same hi rfl
      replace hm := ck_some hm; obtain ⟨hc78, hm⟩ := hm
      refine Dw_eq (Value.slice (some ⟨b68, if c_g41 = 0 then 0 else 0 + 0 * 1, none⟩) (n_1.toNat - 0) (c_g41 - 0)) (fun ρ75 w76 g hle hi ht => ?_) ?_
      ·
       obtain ⟨-, hst, -⟩ := hle
       replace f_g41 := f_g41.step hst
       refine StepOp_plain (op_sliceO (l := 0) (h := n_1.toNat) (m := c_g41) ty22 ty41 (ht 42 rfl) rfl (bndI (ht 43 rfl) (by omega)) rfl (by decide) (by omega) (by have := f_g41.le; omega) (Nat.le_refl _) ?_)
       exact Goes.same hi rfl
      refine Dw_nil fun w83 g84 hl85 hi86 => ?_
      obtain ⟨-, hst87, -⟩ := hl85
      obtain ⟨hs89, p88⟩ := Step.nx hi86
      rintro _ rfl
      rintro _ rfl
      rintro _ rfl
      rintro _ rfl
      rintro _ rfl
      rintro _ rfl
      rintro _ rfl
      have p90 : Step (ks [(some b68, o_g41)] O) w47 (ks [(some b68, o_g41)] O) w83 := hst87.trans p88
      replace f_g41 := f_g41.step p90; replace ch52 := ch52.trans p90; clear p90 hs48
      replace hm := ck_some hm; obtain ⟨hc91, hm⟩ := hm
      obtain ⟨ns92, he93, hr94⟩ := Gs.win (i := 0) (l := 0) (h := n_1.toNat) rfl hs89 rfl f_g41 (by omega) (by omega)
      refine Rg_op rfl (op_copyW (p := (rSl rU8)) (xs := newslice_1) (i := 0) (l := n_1.toNat) (h := newslice_1.length) ty22 ty41 rfl hs89 rfl rfl f_g41 (eqlen rfl (show n_1.toNat - 0 = ((newslice_1.drop 0).take (n_1.toNat - 0)).length from by simp; omega)) he93 hr94 hc91 (by omega) ?_)
      intro o98 w95 p96 hs97 f99
      replace ch52 := ch52.trans p96; clear p96 hs89
      have r100 : InK .i64 ((min ((newslice_1.drop 0).take (n_1.toNat - 0)).length (newslice_1.length - n_1.toNat) : Nat) : Int) := inK_of (by have := f99.le; have hm : maxLen = 9223372036854775807 := rfl; simp at this ⊢; omega)
      refine Rg_op rfl (op_addw rfl rfl ?_)
      refine Rg_op rfl (op_assign (v := (Value.int .i64 (IntKind.wrap .i64 (n_1 + ((min ((newslice_1.drop 0).take (n_1.toNat - 0)).length (newslice_1.length - n_1.toNat) : Nat) : Int))))) rfl ?_)
      refine Rg_nil ?_
      exact hK45 _ _ ⟨(newslice_1.take n_1.toNat ++ (((newslice_1.drop 0).take (n_1.toNat - 0)).take (newslice_1.length - n_1.toNat) ++ (newslice_1.drop n_1.toNat).drop (min ((newslice_1.drop 0).take (n_1.toNat - 0)).length (newslice_1.length - n_1.toNat)))), (IntKind.wrap .i64 (n_1 + ((min ((newslice_1.drop 0).take (n_1.toNat - 0)).length (newslice_1.length - n_1.toNat) : Nat) : Int))), (some ⟨b68, 0, none⟩), c_g41, (some b68), o98, _, rfl, ⟨(by repeat (first | with_reducible exact Out.refl _ _ | refine Out.upd ?_ rfl | refine Out.updL ?_ rfl | refine Out.mix' ?_ rfl | exact Out.refl _ _)), rfl, (eqlenV (show newslice_1.length = (newslice_1.take n_1.toNat ++ (((newslice_1.drop 0).take (n_1.toNat - 0)).take (newslice_1.length - n_1.toNat) ++ (newslice_1.drop n_1.toNat).drop (min ((newslice_1.drop 0).take (n_1.toNat - 0)).length (newslice_1.length - n_1.toNat)))).length from by first | (simp; done) | (simp; omega))), rfl, trivial⟩, ch52, hs97, f99, (inK_wrap .i64 _), jnE2 hsf44 hm⟩
     ·
      replace hm := bif_f hm hc54
      refine Wp_exit ?_
      refine Wp_seq ?_
      refine Wp_region ?_
      refine Rg_op rfl (op_move (v := (Value.slice a_g41 newslice_1.length c_g41)) rfl ?_)
      refine Rg_op rfl (op_assign (v := (Value.slice a_g41 newslice_1.length c_g41)) rfl ?_)
      refine Rg_nil ?_
      refine Wp_ret ?_
      refine ⟨_, (show Closes [] _ _ from rfl), [(Value.slice a_g41 newslice_1.length c_g41)], ⟨rfl, trivial⟩, hs48.ext, ?_⟩
      exact OkG.mk (i := 0) hs48 rfl f_g41 (Option.some.inj hm)
  ·
   intro K20 hK20
   have ch101 := Step.refl (ks [] O) w5
   refine Wp_region ?_
   refine Rg_op rfl (op_move (v := (Value.int .u64 mul_1.1)) rfl ?_)
   refine Rg_op rfl (op_gtr rfl rfl ?_)
   refine Rg_op rfl (op_move (v := (Value.bool (decide (0 < mul_1.1)))) rfl ?_)
   refine Rg_case (fun hg102 => ?_) (fun hg102 => ?_)
   ·
    replace hm := bif_t hm hg102
    iterate 2 refine Rg_opx rfl (asB_ne rfl rfl) rfl ?_
    refine Rg_op rfl (op_pick_t (v := (Value.bool true)) rfl rfl ?_)
    refine Rg_nil ?_
    exact hK20 _ _ ⟨true, _, rfl, ⟨(by repeat (first | with_reducible exact Out.refl _ _ | refine Out.upd ?_ rfl | refine Out.updL ?_ rfl | refine Out.mix' ?_ rfl | exact Out.refl _ _)), rfl, rfl, trivial⟩, ch101, hs8, hm⟩
   ·
    replace hm := bif_f hm hg102
    refine Rg_opg rfl rfl rfl (op_move (v := (Value.int .u64 mul_1.2)) rfl ?_)
    refine Rg_opg rfl rfl rfl (op_gtr rfl rfl ?_)
    refine Rg_op rfl (op_pick_f (v := (Value.bool (decide (9223372036854775807 < mul_1.2)))) rfl rfl ?_)
    refine Rg_nil ?_
    exact hK20 _ _ ⟨(decide (9223372036854775807 < mul_1.2)), _, rfl, ⟨(by repeat (first | with_reducible exact Out.refl _ _ | refine Out.upd ?_ rfl | refine Out.updL ?_ rfl | refine Out.mix' ?_ rfl | exact Out.refl _ _)), rfl, rfl, trivial⟩, ch101, hs8, hm⟩
end Go.Fx



set_option linter.unusedVariables false
set_option linter.unusedSimpArgs false
set_option maxRecDepth 100000
set_option maxHeartbeats 0
namespace Go.Fx
open Go Go.RowKit Go.Proofs
def m15_disk_New (sectors : Int) : Option (XDisk × Int) :=
 jn (fun (v_1 : Bool) =>
  bif v_1 then
   some ((⟨([] : List (List UInt8)), ([] : List XWrite), 0, false⟩ : XDisk), 1)
  else
   ck ((0 : Int) ≤ (128 : Int) ∧ (128 : Int) ≤ (128 : Int) ∧ (1 : Int) * 128 ≤ 281474976710656 ∧ (128 : Int) ≤ 281474976710656) <|
   (m41_slices_Repeatbyte_byte_ [(List.replicate 128 (0 : UInt8))] sectors).bind fun repeat_1 =>
   some ((⟨repeat_1, ([] : List XWrite), (-1), false⟩ : XDisk), 0))
 (fun k8 =>
  bif (decide (sectors < 1)) then
   k8 true
  else
   k8 (decide (4096 < sectors)))

theorem c15_disk_New {w : World} {O : List Nat} {sectors : Int} (hO : ∀ k ∈ O, k < w.heap.size) (r_sectors : InK .i64 sectors) {x : XDisk × Int} (hm : m15_disk_New sectors = some x) :
  Ok Try.prog 15 [(Value.int .i64 sectors)] w O (vT2 (vA rXDisk) (vI .i64)) x := by
 unfold m15_disk_New at hm
 refine Fn_of_Wp (n := 18) (xs := [.cell 2 25, .tmp 3]) Try.func15 rfl Try.ntmps15 Try.results15 rfl ?_
 have hs := St.start hO
 refine Wp_seq ?_
 refine Wp_region ?_
 refine Rg_op rfl (op_alloc ty25 hs ?_)
 intro b1 w2 _ p3 hs4
 clear p3
 refine Rg_op rfl (op_assign (v := (Value.int .i64 0)) rfl ?_)
 refine Rg_nil ?_
 refine Wp_seq ?_
 refine Wp_reset [] [(0, (Value.int .i64 sectors)), (2, (Value.pointer (some ⟨b1, 0, none⟩)))] rfl ⟨rfl, rfl, trivial⟩ fun ξ6 => ?_
 replace hm := jn_elim hm; obtain ⟨k8, hk9, hm⟩ := hm
 refine Wp_seqJ [5, 6, 7, 8, 9, 10] (fun fr w' => ∃ (v_1 : Bool) (Ebs : Ents), Ebs = [(some b1, Obj.cells [(Value.slice none 0 0), (Value.slice none 0 0), (Value.int .i64 0), (Value.bool false)].toArray 25)] ∧ fr [] [(10, (Value.bool v_1))] ∧ Step (ks [(some b1, Obj.cells [(Value.slice none 0 0), (Value.slice none 0 0), (Value.int .i64 0), (Value.bool false)].toArray 25)] O) w2 (ks Ebs O) w' ∧ St ⟨w, [], []⟩ O w' Ebs ∧ k8 v_1 = some x) ?_ ?_
 ·
  rintro ρ15 w11 ⟨v_1, Ebs, hEbs, hfr14, hst13, hs12, hm⟩
  replace hm := jnE1 hk9 hm
  subst hEbs; rw [hfr14.eq]; clear hfr14
  clear hst13 hs4
  refine Wp_cond rfl (fun hc16 => ?_) (fun hc16 => ?_)
  ·
   replace hm := bif_t hm hc16
   refine Wp_seq ?_
   refine Wp_region ?_
   refine Rg_op rfl (op_loadA (cs := [(Value.slice none 0 0), (Value.slice none 0 0), (Value.int .i64 0), (Value.bool false)]) (vs := [(Value.slice none 0 0), (Value.slice none 0 0), (Value.int .i64 0), (Value.bool false)]) (i := 0) ty25 hs12 rfl rfl rfl rfl ?_)
   refine Rg_op_ (op_store (cs := [(Value.slice none 0 0), (Value.slice none 0 0), (Value.int .i64 0), (Value.bool false)]) (vs := [(Value.slice none 0 0), (Value.slice none 0 0), (Value.int .i64 0), (Value.bool false)]) (cs' := [(Value.slice none 0 0), (Value.slice none 0 0), (Value.int .i64 0), (Value.bool false)]) (bs' := [(some b1, Obj.cells [(Value.slice none 0 0), (Value.slice none 0 0), (Value.int .i64 0), (Value.bool false)].toArray 25)]) (i := 0) ty25 hs12 rfl rfl rfl rfl rfl (le_lit rfl) rfl rfl rfl ?_)
   intro w17 p18 hs19
   clear p18 hs12
   refine Rg_op rfl (op_assign (v := (Value.int .i64 1)) rfl ?_)
   refine Rg_nil ?_
   refine Wp_ret ?_
   have hz := step_all hs19
   refine ⟨_, (show Closes [] _ _ from rfl), [(Value.agg [(Value.slice none 0 0), (Value.slice none 0 0), (Value.int .i64 0), (Value.bool false)].toArray), (Value.int .i64 1)], ⟨resA (cs := [(Value.slice none 0 0), (Value.slice none 0 0), (Value.int .i64 0), (Value.bool false)]) (vs := [(Value.slice none 0 0), (Value.slice none 0 0), (Value.int .i64 0), (Value.bool false)]) ty25 (i := 0) hs19 rfl rfl rfl rfl, rfl, trivial⟩, hs19.ext, ?_⟩
   exact Vr.eq (a := (vT2 (vA rXDisk) (vI .i64))) (x := ((⟨([] : List (List UInt8)), ([] : List XWrite), 0, false⟩ : XDisk), 1)) (mkT2 (mkA (mkVia (mk_pair (mk_sl SlR.nil_) (mk_pair (mk_sl SlR.nil_) (mk_pair (mk_int (show InK .i64 0 from by decide)) mkBool))))) ⟨rfl, (show InK .i64 1 from by decide)⟩) (Option.some.inj hm)
  ·
   replace hm := bif_f hm hc16
   refine Wp_skip ?_
   refine Wp_seq ?_
   refine Wp_region ?_
   replace hm := ck_some hm; obtain ⟨hc20, hm⟩ := hm
   refine Rg_op rfl (op_makeSliceI (q := rU8) (v := (Value.int .u8 0)) (x0 := (0 : UInt8)) ty41 ty5 hs12 rfl rfl hc20 rfl (fun _ _ => (mk_u8 (show InK .u8 0 from by decide))) ?_)
   intro b21 w22 hx26 p23 hs24 f25
   clear p23 hs12
   refine Rg_op rfl (op_assign (v := (Value.slice (some ⟨b21, 0, none⟩) (List.replicate 128 (0 : UInt8)).length 128)) rfl ?_)
   refine Rg_nil ?_
   refine Wp_seq ?_
   refine Wp_region ?_
   refine Rg_op rfl (op_move (v := (Value.slice (some ⟨b21, 0, none⟩) (List.replicate 128 (0 : UInt8)).length 128)) rfl ?_)
   obtain ⟨hs29, p30, f28⟩ := Gs.publish (i := 0) hs24 rfl f25
   clear p30 hs24
   refine Rg_op rfl (op_buildSlice (cs := [(Value.slice (some ⟨b21, 0, none⟩) (List.replicate 128 (0 : UInt8)).length 128)]) (parts := [(0, .tmp 13)]) ty22 ty41 hs29 (by decide) rfl ?_)
   intro b31 w32 hx35 p33 hs34
   replace f28 := f28.step p33; clear p33 hs29
   refine Rg_op rfl (op_move (v := (Value.int .i64 sectors)) rfl ?_)
   obtain ⟨hs38, p39, f37⟩ := St.publish (i := 0) (o := 0) (c := 1) (xs := [(List.replicate 128 (0 : UInt8))]) hs34 rfl (show Els (rSl rU8) _ _ [(Value.slice (some ⟨b21, 0, none⟩) (List.replicate 128 (0 : UInt8)).length 128)] [(List.replicate 128 (0 : UInt8))] from ⟨_, _, rfl, (mk_sl f28), Els.nil⟩) (le_lit rfl) (le_lit rfl) (le_lit rfl)
   replace f28 := f28.step p39; clear p39 hs34
   replace hm := bd hm; obtain ⟨repeat_1, hv40, hm⟩ := hm
   refine Rg_op rfl (op_call Try.call41 (g41_slices_Repeatbyte_byte_ (x_ := [(List.replicate 128 (0 : UInt8))]) (count := sectors) hs38.ltw f37 r_sectors hv40) rfl ?_)
   rintro _ w42 ⟨hx43, a46, c47, k48, o49, rfl, hk50, f51⟩
   obtain ⟨hs45, p52⟩ := hs38.callG (o := o49) hx43 hk50
   rw [← ks_cons (o := o49)] at f51
   replace f28 := f28.step p52; replace f37 := f37.step p52; clear p52 hs38
   refine Rg_op rfl (op_build (vs := [(Value.slice a46 repeat_1.length c47), (Value.slice none 0 0), (Value.int .i64 (-1)), (Value.bool false)]) (parts := [(0, .tmp 16), (2, .const (.int .i64 (-1)))]) ty25 pl25 rfl ?_)
   refine Rg_op_ (op_store (cs := [(Value.slice none 0 0), (Value.slice none 0 0), (Value.int .i64 0), (Value.bool false)]) (vs := [(Value.slice a46 repeat_1.length c47), (Value.slice none 0 0), (Value.int .i64 (-1)), (Value.bool false)]) (cs' := [(Value.slice a46 repeat_1.length c47), (Value.slice none 0 0), (Value.int .i64 (-1)), (Value.bool false)]) (bs' := [(k48, o49), (some b1, Obj.cells [(Value.slice a46 repeat_1.length c47), (Value.slice none 0 0), (Value.int .i64 (-1)), (Value.bool false)].toArray 25)]) (i := 1) ty25 hs45 rfl rfl rfl rfl rfl (le_lit rfl) rfl rfl rfl ?_)
   intro w54 p55 hs56
   replace f28 := f28.step p55; replace f37 := f37.step p55; replace f51 := f51.step p55; clear p55 hs45
   refine Rg_op rfl (op_assign (v := (Value.int .i64 0)) rfl ?_)
   refine Rg_nil ?_
   refine Wp_ret ?_
   obtain ⟨hs58, p59, f57⟩ := Gs.publish (i := 0) hs56 rfl f51
   replace f28 := f28.step p59; replace f37 := f37.step p59; clear p59 hs56
   have hz := step_all hs58
   replace f28 := f28.step hz; replace f37 := f37.step hz; replace f57 := f57.step hz
   refine ⟨_, (show Closes [] _ _ from rfl), [(Value.agg [(Value.slice a46 repeat_1.length c47), (Value.slice none 0 0), (Value.int .i64 (-1)), (Value.bool false)].toArray), (Value.int .i64 0)], ⟨resA (cs := [(Value.slice a46 repeat_1.length c47), (Value.slice none 0 0), (Value.int .i64 (-1)), (Value.bool false)]) (vs := [(Value.slice a46 repeat_1.length c47), (Value.slice none 0 0), (Value.int .i64 (-1)), (Value.bool false)]) ty25 (i := 0) hs58 rfl rfl rfl rfl, rfl, trivial⟩, hs58.ext, ?_⟩
   exact Vr.eq (a := (vT2 (vA rXDisk) (vI .i64))) (x := ((⟨repeat_1, ([] : List XWrite), (-1), false⟩ : XDisk), 0)) (mkT2 (mkA (mkVia (mk_pair (mk_sl f57) (mk_pair (mk_sl SlR.nil_) (mk_pair (mk_int (show InK .i64 (-1) from by decide)) mkBool))))) ⟨rfl, (show InK .i64 0 from by decide)⟩) (Option.some.inj hm)
 ·
  intro K10 hK10
  have ch60 := Step.refl (ks [(some b1, Obj.cells [(Value.slice none 0 0), (Value.slice none 0 0), (Value.int .i64 0), (Value.bool false)].toArray 25)] O) w2
  refine Wp_region ?_
  refine Rg_op rfl (op_move (v := (Value.int .i64 sectors)) rfl ?_)
  refine Rg_op rfl (op_lss rfl rfl ?_)
  refine Rg_op rfl (op_move (v := (Value.bool (decide (sectors < 1)))) rfl ?_)
  refine Rg_case (fun hg61 => ?_) (fun hg61 => ?_)
  ·
   replace hm := bif_t hm hg61
   iterate 2 refine Rg_opx rfl (asB_ne rfl rfl) rfl ?_
   refine Rg_op rfl (op_pick_t (v := (Value.bool true)) rfl rfl ?_)
   refine Rg_nil ?_
   exact hK10 _ _ ⟨true, _, rfl, ⟨(by repeat (first | with_reducible exact Out.refl _ _ | refine Out.upd ?_ rfl | refine Out.updL ?_ rfl | refine Out.mix' ?_ rfl | exact Out.refl _ _)), rfl, rfl, trivial⟩, ch60, hs4, hm⟩
  ·
   replace hm := bif_f hm hg61
   refine Rg_opg rfl rfl rfl (op_move (v := (Value.int .i64 sectors)) rfl ?_)
   refine Rg_opg rfl rfl rfl (op_gtr rfl rfl ?_)
   refine Rg_op rfl (op_pick_f (v := (Value.bool (decide (4096 < sectors)))) rfl rfl ?_)
   refine Rg_nil ?_
   exact hK10 _ _ ⟨(decide (4096 < sectors)), _, rfl, ⟨(by repeat (first | with_reducible exact Out.refl _ _ | refine Out.upd ?_ rfl | refine Out.updL ?_ rfl | refine Out.mix' ?_ rfl | exact Out.refl _ _)), rfl, rfl, trivial⟩, ch60, hs4, hm⟩

end Go.Fx



set_option linter.unusedVariables false
set_option linter.unusedSimpArgs false
set_option maxRecDepth 100000
set_option maxHeartbeats 0
namespace Go.Fx
open Go Go.RowKit Go.Proofs
def m54_journal_sectors (b : List UInt8) : Option Int :=
 some (max 1 (IntKind.wrap .i64 ((IntKind.wrap .i64 ((IntKind.wrap .i64 ((b.length : Int) + 112)) - 1)).tdiv 112)))

theorem c54_journal_sectors {w : World} {O : List Nat} {b : List UInt8} {a_b : Option Addr} {c_b : Nat} (hO : ∀ k ∈ O, k < w.heap.size) (f_b : SlR rU8 w O a_b c_b b) {x : Int} (hm : m54_journal_sectors b = some x) :
  Ok Try.prog 54 [(Value.slice a_b b.length c_b)] w O (vI .i64) x := by
 unfold m54_journal_sectors at hm
 refine Fn_of_Wp (n := 9) (xs := [.tmp 2]) Try.func54 rfl Try.ntmps54 Try.results54 rfl ?_
 have hs := St.start hO
 refine Wp_seq ?_
 refine Wp_region ?_
 refine Rg_op rfl (op_assign (v := (Value.int .i64 0)) rfl ?_)
 refine Rg_nil ?_
 refine Wp_seq ?_
 refine Wp_region ?_
 refine Rg_op rfl (op_move (v := (Value.slice a_b b.length c_b)) rfl ?_)
 refine Rg_op rfl (op_len Try.underlying41 rfl ?_)
 have rl1 := inK_len f_b
 refine Rg_op rfl (op_addw rfl rfl ?_)
 refine Rg_op rfl (op_subw rfl rfl ?_)
 refine Rg_op rfl (op_quo rfl rfl (by decide) ?_)
 refine Rg_op rfl (op_max rfl rfl ?_)
 refine Rg_op rfl (op_assign (v := (Value.int .i64 (max 1 (IntKind.wrap .i64 ((IntKind.wrap .i64 ((IntKind.wrap .i64 ((b.length : Int) + 112)) - 1)).tdiv 112))))) rfl ?_)
 refine Rg_nil ?_
 refine Wp_ret ?_
 have hz := step_all hs
 replace f_b := f_b.step hz
 refine ⟨_, (show Closes [] _ _ from rfl), [(Value.int .i64 (max 1 (IntKind.wrap .i64 ((IntKind.wrap .i64 ((IntKind.wrap .i64 ((b.length : Int) + 112)) - 1)).tdiv 112))))], ⟨rfl, trivial⟩, hs.ext, ?_⟩
 exact Vr.eq (a := (vI .i64)) (x := (max 1 (IntKind.wrap .i64 ((IntKind.wrap .i64 ((IntKind.wrap .i64 ((b.length : Int) + 112)) - 1)).tdiv 112)))) ⟨rfl, (inK_max (show InK .i64 1 from by decide) (inK_wrap .i64 _))⟩ (Option.some.inj hm)

end Go.Fx



set_option linter.unusedVariables false
set_option linter.unusedSimpArgs false
set_option maxRecDepth 100000
set_option maxHeartbeats 0
namespace Go.Fx
open Go Go.RowKit Go.Proofs
def m55_journal_used_B0 (l : List (List UInt8)) (sf5 : Int → Int → Option Int) (n_1 : Int) (v_1 : Int) : Option Int :=
 bif (decide (v_1 < (l.length : Int))) then
  ck ((0 : Int) ≤ v_1 ∧ v_1 < (l.length : Int)) <|
  (m54_journal_sectors (l.getD v_1.toNat default)).bind fun sectors_1 =>
  sf5 (IntKind.wrap .i64 (n_1 + sectors_1)) (IntKind.wrap .i64 (v_1 + 1))
 else
  some n_1

def m55_journal_used (l : List (List UInt8)) : Option Int :=
 loop2 (m55_journal_used_B0 l) (((l.length : Int) - 0).toNat + 1) 0 0

theorem c55_journal_used {w : World} {O : List Nat} {l : List (List UInt8)} {a_l : Option Addr} {c_l : Nat} (hO : ∀ k ∈ O, k < w.heap.size) (f_l : SlR (rSl rU8) w O a_l c_l l) {x : Int} (hm : m55_journal_used l = some x) :
  Ok Try.prog 55 [(Value.slice a_l l.length c_l)] w O (vI .i64) x := by
 unfold m55_journal_used at hm
 refine Fn_of_Wp (n := 17) (xs := [.tmp 2]) Try.func55 rfl Try.ntmps55 Try.results55 rfl ?_
 have hs := St.start hO
 refine Wp_seq ?_
 refine Wp_region ?_
 refine Rg_op rfl (op_assign (v := (Value.int .i64 0)) rfl ?_)
 refine Rg_nil ?_
 refine Wp_seq ?_
 refine Wp_seq ?_
 refine Wp_region ?_
 refine Rg_op rfl (op_move (v := (Value.slice a_l l.length c_l)) rfl ?_)
 refine Rg_op rfl (op_len Try.underlying22 rfl ?_)
 have rl1 := inK_len f_l
 refine Rg_op rfl (op_move (v := (Value.int .i64 0)) rfl ?_)
 refine Rg_nil ?_
 refine Wp_block ?_
 refine Wp_reset [] [(2, (Value.int .i64 0)), (5, (Value.slice a_l l.length c_l)), (6, (Value.int .i64 (l.length : Int))), (7, (Value.int .i64 0))] rfl ⟨rfl, rfl, rfl, rfl, trivial⟩ fun ξ4 => ?_
 refine Wp_loopM [2, 4, 7, 8, 9, 10, 11, 12, 13, 14, 15] (fun m fr w' => ∃ (n_1 : Int) (v_1 : Int) (Ebs : Ents), Ebs = [] ∧ fr [] [(2, (Value.int .i64 n_1)), (7, (Value.int .i64 v_1))] ∧ Step (ks [] O) w (ks Ebs O) w' ∧ St ⟨w, [], []⟩ O w' Ebs ∧ InK .i64 n_1 ∧ InK .i64 v_1 ∧ loop2 (m55_journal_used_B0 l) m n_1 v_1 = some x) (((l.length : Int) - 0).toNat + 1) ⟨0, 0, _, rfl, ⟨Out.refl _ _, rfl, rfl, rfl, trivial⟩, Step.refl _ _, hs, (show InK .i64 0 from by decide), (show InK .i64 0 from by decide), hm⟩ ?_ ?_
 · rintro _ _ ⟨_, _, _, _, _, _, _, _, _, hm⟩; exact loop2_z hm
 ·
  rintro m8 K7 hK7 ρ13 w9 ⟨n_1, v_1, Ebs, hEbs, hfr12, hst11, hs10, r_y2, r_y3, hm⟩
  obtain ⟨sf5, hsf6, hm⟩ := loop2_s hm; unfold m55_journal_used_B0 at hm
  subst hEbs; rw [hfr12.eq]; clear hfr12
  replace f_l := f_l.step hst11
  have ch14 := hst11
  refine Wp_seq ?_
  refine Wp_region ?_
  refine Rg_op rfl (op_lss rfl rfl ?_)
  refine Rg_nil ?_
  refine Wp_seq ?_
  refine Wp_cond rfl (fun hc15 => ?_) (fun hc15 => ?_)
  ·
   replace hm := bif_t hm hc15
   refine Wp_skip ?_
   refine Wp_seq ?_
   refine Wp_block ?_
   refine Wp_seq ?_
   refine Wp_region ?_
   replace hm := ck_some hm; obtain ⟨hc16, hm⟩ := hm
   refine Rg_op rfl (op_indexAddr (q := (rSl rU8)) ty22 ty41 rfl rfl f_l rfl hc16.1 hc16.2 ?_)
   intro p17 f18
   refine Rg_op rfl (op_loadP ty41 rfl f18 rfl ?_)
   intro v19 h20
   obtain ⟨a_y21, c_y21, rfl, f_y21⟩ := un_sl h20
   refine Rg_op rfl (op_assign (v := (Value.slice a_y21 (l.getD v_1.toNat default).length c_y21)) rfl ?_)
   refine Rg_nil ?_
   clear f18
   refine Wp_region ?_
   refine Rg_op rfl (op_move (v := (Value.int .i64 n_1)) rfl ?_)
   refine Rg_op rfl (op_move (v := (Value.slice a_y21 (l.getD v_1.toNat default).length c_y21)) rfl ?_)
   replace hm := bd hm; obtain ⟨sectors_1, hv22, hm⟩ := hm
   refine Rg_op rfl (op_call Try.call54 (c54_journal_sectors (b := (l.getD v_1.toNat default)) hs10.ltw f_y21 hv22) rfl ?_)
   rintro v23 w24 ⟨hx25, h26⟩
   have hs27 := hs10.call hx25
   have p28 := Step.ext (O := ks [] O) hx25
   clear hx25
   replace f_l := f_l.step p28; replace f_y21 := f_y21.step p28; replace ch14 := ch14.trans p28; clear p28 hs10
   obtain ⟨rfl, r_y29⟩ := h26
   refine Rg_op rfl (op_addw rfl rfl ?_)
   refine Rg_op rfl (op_assign (v := (Value.int .i64 (IntKind.wrap .i64 (n_1 + sectors_1)))) rfl ?_)
   refine Rg_nil ?_
   clear f_y21
   refine Wp_region ?_
   refine Rg_op rfl (op_addw rfl rfl ?_)
   refine Rg_op rfl (op_move (v := (Value.int .i64 (IntKind.wrap .i64 (v_1 + 1)))) rfl ?_)
   refine Rg_nil ?_
   exact hK7 _ _ ⟨(IntKind.wrap .i64 (n_1 + sectors_1)), (IntKind.wrap .i64 (v_1 + 1)), _, rfl, ⟨(by repeat (first | with_reducible exact Out.refl _ _ | refine Out.upd ?_ rfl | refine Out.updL ?_ rfl | refine Out.mix' ?_ rfl | exact Out.refl _ _)), rfl, rfl, rfl, trivial⟩, ch14, hs27, (inK_wrap .i64 _), (inK_wrap .i64 _), jnE2 hsf6 hm⟩
  ·
   replace hm := bif_f hm hc15
   refine Wp_exit ?_
   refine Wp_seq ?_
   clear f_l
   refine Wp_region ?_
   refine Rg_op rfl (op_move (v := (Value.int .i64 n_1)) rfl ?_)
   refine Rg_op rfl (op_assign (v := (Value.int .i64 n_1)) rfl ?_)
   refine Rg_nil ?_
   refine Wp_ret ?_
   have hz := step_all hs10
   refine ⟨_, (show Closes [] _ _ from rfl), [(Value.int .i64 n_1)], ⟨rfl, trivial⟩, hs10.ext, ?_⟩
   exact Vr.eq (a := (vI .i64)) (x := n_1) ⟨rfl, r_y2⟩ (Option.some.inj hm)

end Go.Fx



set_option linter.unusedVariables false
set_option linter.unusedSimpArgs false
set_option maxRecDepth 100000
set_option maxHeartbeats 0
namespace Go.Fx
open Go Go.RowKit Go.Proofs
def m32_journal_Check (l : XJournal) : Option Int :=
 jn (fun (v_1 : Bool) =>
  bif v_1 then
   some 1
  else
   some 0)
 (fun k8 =>
  bif (decide (l.many < 1)) then
   k8 true
  else
   bif (decide (4096 < l.many)) then
    k8 true
   else
    bif (decide (l.synced < 0)) then
     k8 true
    else
     bif (decide ((l.records.length : Int) < l.synced)) then
      k8 true
     else
      (m55_journal_used l.records).bind fun used_1 =>
      k8 (decide (l.many < used_1)))

theorem c32_journal_Check {w : World} {O : List Nat} {l : XJournal} {a_l_records : Option Addr} {c_l_records : Nat} (hO : ∀ k ∈ O, k < w.heap.size) (f_l_records : SlR (rSl rU8) w O a_l_records c_l_records l.records) (r_l_many : InK .i64 l.many) (r_l_synced : InK .i64 l.synced) {x : Int} (hm : m32_journal_Check l = some x) :
  Ok Try.prog 32 [(Value.agg [(Value.slice a_l_records l.records.length c_l_records), (Value.int .i64 l.many), (Value.int .i64 l.synced)].toArray)] w O (vI .i64) x := by
 unfold m32_journal_Check at hm
 refine Fn_of_Wp (n := 32) (xs := [.tmp 2]) Try.func32 rfl Try.ntmps32 Try.results32 rfl ?_
 have hs := St.start hO
 refine Wp_seq ?_
 refine Wp_region ?_
 refine Rg_op rfl (op_box (cs := [(Value.slice a_l_records l.records.length c_l_records), (Value.int .i64 l.many), (Value.int .i64 l.synced)]) hs rfl rfl ?_)
 intro b1 w2 _ p3 hs4
 replace f_l_records := f_l_records.step p3; clear p3
 refine Rg_op rfl (op_assign (v := (Value.int .i64 0)) rfl ?_)
 refine Rg_nil ?_
 refine Wp_seq ?_
 refine Wp_reset [] [(1, (Value.pointer (some ⟨b1, 0, none⟩)))] rfl ⟨rfl, trivial⟩ fun ξ6 => ?_
 replace hm := jn_elim hm; obtain ⟨k8, hk9, hm⟩ := hm
 refine Wp_seqJ [3, 4, 5, 6, 7, 8, 9, 10, 11, 12, 13, 14, 15, 16, 17, 18, 19, 20, 21, 22, 23, 24, 25, 26, 27, 28, 29, 30, 31] (fun fr w' => ∃ (v_1 : Bool) (Ebs : Ents), Ebs = [(some b1, Obj.cells [(Value.slice a_l_records l.records.length c_l_records), (Value.int .i64 l.many), (Value.int .i64 l.synced)].toArray 52)] ∧ fr [] [(31, (Value.bool v_1))] ∧ Step (ks [(some b1, Obj.cells [(Value.slice a_l_records l.records.length c_l_records), (Value.int .i64 l.many), (Value.int .i64 l.synced)].toArray 52)] O) w2 (ks Ebs O) w' ∧ St ⟨w, [], []⟩ O w' Ebs ∧ k8 v_1 = some x) ?_ ?_
 ·
  rintro ρ15 w11 ⟨v_1, Ebs, hEbs, hfr14, hst13, hs12, hm⟩
  replace hm := jnE1 hk9 hm
  subst hEbs; rw [hfr14.eq]; clear hfr14
  replace f_l_records := f_l_records.step hst13; clear hst13 hs4
  refine Wp_cond rfl (fun hc16 => ?_) (fun hc16 => ?_)
  ·
   replace hm := bif_t hm hc16
   refine Wp_seq ?_
   obtain ⟨hs17, p18⟩ := hs12.sub (bs' := []) (.cons _ List.Sublist.slnil)
   clear f_l_records
   clear p18 hs12
   refine Wp_region ?_
   refine Rg_op rfl (op_assign (v := (Value.int .i64 1)) rfl ?_)
   refine Rg_nil ?_
   refine Wp_ret ?_
   have hz := step_all hs17
   refine ⟨_, (show Closes [] _ _ from rfl), [(Value.int .i64 1)], ⟨rfl, trivial⟩, hs17.ext, ?_⟩
   exact Vr.eq (a := (vI .i64)) (x := 1) ⟨rfl, (show InK .i64 1 from by decide)⟩ (Option.some.inj hm)
  ·
   replace hm := bif_f hm hc16
   refine Wp_skip ?_
   refine Wp_seq ?_
   obtain ⟨hs19, p20⟩ := hs12.sub (bs' := []) (.cons _ List.Sublist.slnil)
   clear f_l_records
   clear p20 hs12
   refine Wp_region ?_
   refine Rg_op rfl (op_assign (v := (Value.int .i64 0)) rfl ?_)
   refine Rg_nil ?_
   refine Wp_ret ?_
   have hz := step_all hs19
   refine ⟨_, (show Closes [] _ _ from rfl), [(Value.int .i64 0)], ⟨rfl, trivial⟩, hs19.ext, ?_⟩
   exact Vr.eq (a := (vI .i64)) (x := 0) ⟨rfl, (show InK .i64 0 from by decide)⟩ (Option.some.inj hm)
 ·
  intro K10 hK10
  have ch21 := Step.refl (ks [(some b1, Obj.cells [(Value.slice a_l_records l.records.length c_l_records), (Value.int .i64 l.many), (Value.int .i64 l.synced)].toArray 52)] O) w2
  refine Wp_drawR (g0 := []) (m := 27) (fl := []) (TS_inv hs4) rfl (.inl rfl) rfl (by decide +kernel) ?_  -- 1
  refine Dw_eq (Value.pointer (some ⟨b1, 1, none⟩)) (fun ρ22 w23 g hle hi ht => ?_) ?_
  ·
   obtain ⟨-, hst, -⟩ := hle
   refine StepOp_plain (op_fieldAddr ty52 rfl ty3 (by decide) (ht 1 rfl) (rfl : _ = (⟨_, 1, none⟩ : Addr)) ?_)
   exact Goes.same hi rfl
  refine Dw_eq (Value.int .i64 l.many) (fun ρ25 w26 g hle hi ht => ?_) ?_
  ·
   obtain ⟨-, hst, -⟩ := hle
   have hsn := (Step.nx hi).1
   refine StepOp_plain (op_load (cs := [(Value.slice a_l_records l.records.length c_l_records), (Value.int .i64 l.many), (Value.int .i64 l.synced)]) (i := 0) ty3 hsn (ht 3 rfl) rfl rfl ?_)
   exact Goes.same hi rfl
  refine Dw_eq (Value.bool (decide (l.many < 1))) (fun ρ28 w29 g hle hi ht => ?_) ?_
  ·
   obtain ⟨-, hst, -⟩ := hle
   refine StepOp_plain (op_lss (ht 4 rfl) rfl ?_)
   exact Goes.same hi rfl
  refine Dw_opB (decide (l.many < 1)) (fun ρ31 w32 g hle hi ht => ?_) (fun hg34 => ?_) (fun hg34 => ?_)
  ·
   obtain ⟨-, hst, -⟩ := hle
   refine StepOp_plain (op_move (v := (Value.bool (decide (l.many < 1)))) (ht 5 rfl) ?_)
   exact Goes.same hi rfl
  ·
   replace hm := bif_t hm hg34
   refine Dw_skip (fun _ _ _ ht => wanted_x rfl (ht 6 rfl) rfl) ?_
   refine Dw_skip (fun _ _ _ ht => wanted_x rfl (ht 6 rfl) rfl) ?_
   refine Dw_skip (fun _ _ _ ht => wanted_x rfl (ht 6 rfl) rfl) ?_
   refine Dw_eq (Value.bool true) (fun ρ35 w36 g hle hi ht => ?_) ?_
   ·
    obtain ⟨-, hst, -⟩ := hle
    refine StepOp_plain (op_pick_t (v := (Value.bool true)) (ht 6 rfl) rfl ?_)
    exact Goes.same hi rfl
   refine Dw_eq (Value.bool true) (fun ρ38 w39 g hle hi ht => ?_) ?_
   ·
    obtain ⟨-, hst, -⟩ := hle
    refine StepOp_plain (op_move (v := (Value.bool true)) (ht 10 rfl) ?_)
    exact Goes.same hi rfl
   refine Dw_skip (fun _ _ _ ht => wanted_x rfl (ht 11 rfl) rfl) ?_
   refine Dw_skip (fun _ _ _ ht => wanted_x rfl (ht 11 rfl) rfl) ?_
   refine Dw_skip (fun _ _ _ ht => wanted_x rfl (ht 11 rfl) rfl) ?_
   refine Dw_eq (Value.bool true) (fun ρ41 w42 g hle hi ht => ?_) ?_
   ·
    obtain ⟨-, hst, -⟩ := hle
    refine StepOp_plain (op_pick_t (v := (Value.bool true)) (ht 11 rfl) rfl ?_)
    exact Goes.same hi rfl
   refine Dw_eq (Value.bool true) (fun ρ44 w45 g hle hi ht => ?_) ?_
   ·
    obtain ⟨-, hst, -⟩ := hle
    refine StepOp_plain (op_move (v := (Value.bool true)) (ht 15 rfl) ?_)
    exact Goes.same hi rfl
   refine Dw_skip (fun _ _ _ ht => wanted_x rfl (ht 16 rfl) rfl) ?_
   refine Dw_skip (fun _ _ _ ht => wanted_x rfl (ht 16 rfl) rfl) ?_
   refine Dw_skip (fun _ _ _ ht => wanted_x rfl (ht 16 rfl) rfl) ?_
   refine Dw_skip (fun _ _ _ ht => wanted_x rfl (ht 16 rfl) rfl) ?_
   refine Dw_skip (fun _ _ _ ht => wanted_x rfl (ht 16 rfl) rfl) ?_
   refine Dw_skip (fun _ _ _ ht => wanted_x rfl (ht 16 rfl) rfl) ?_
   refine Dw_eq (Value.bool true) (fun ρ47 w48 g hle hi ht => ?_) ?_
   ·
    obtain ⟨-, hst, -⟩ := hle
    refine StepOp_plain (op_pick_t (v := (Value.bool true)) (ht 16 rfl) rfl ?_)
    exact Goes.same hi rfl
   refine Dw_eq (Value.bool true) (fun ρ50 w51 g hle hi ht => ?_) ?_
   ·
    obtain ⟨-, hst, -⟩ := hle
    refine StepOp_plain (op_move (v := (Value.bool true)) (ht 23 rfl) ?_)
    exact Goes.same hi rfl
   refine Dw_skip (fun _ _ _ ht => wanted_x rfl (ht 24 rfl) rfl) ?_
   refine Dw_skip (fun _ _ _ ht => wanted_x rfl (ht 24 rfl) rfl) ?_
   refine Dw_skip (fun _ _ _ ht => wanted_x rfl (ht 24 rfl) rfl) ?_
   refine Dw_skip (fun _ _ _ ht => wanted_x rfl (ht 24 rfl) rfl) ?_
   refine Dw_skip (fun _ _ _ ht => wanted_x rfl (ht 24 rfl) rfl) ?_
   refine Dw_nil fun w57 g58 hl59 hi60 => ?_
   obtain ⟨-, hst61, -⟩ := hl59
   obtain ⟨hs63, p62⟩ := Step.nx hi60
   rintro _ rfl
   rintro _ rfl
   rintro _ rfl
   rintro _ rfl
   rintro _ rfl
   rintro _ rfl
   rintro _ rfl
   rintro _ rfl
   rintro _ rfl
   rintro _ rfl
   rintro _ rfl
   rintro _ rfl
   rintro _ rfl
   rintro _ rfl
   rintro _ rfl
   rintro _ rfl
   rintro _ rfl
   rintro _ rfl
   rintro _ rfl
   rintro _ rfl
   rintro _ rfl
   rintro _ rfl
   rintro _ rfl
   rintro _ rfl
   rintro _ rfl
   rintro _ rfl
   rintro _ rfl
   have p64 : Step (ks [(some b1, Obj.cells [(Value.slice a_l_records l.records.length c_l_records), (Value.int .i64 l.many), (Value.int .i64 l.synced)].toArray 52)] O) w2 (ks [(some b1, Obj.cells [(Value.slice a_l_records l.records.length c_l_records), (Value.int .i64 l.many), (Value.int .i64 l.synced)].toArray 52)] O) w57 := hst61.trans p62
   replace f_l_records := f_l_records.step p64; replace ch21 := ch21.trans p64; clear p64 hs4
   refine Rg_opx rfl (asB_ne rfl rfl) rfl ?_
   refine Rg_op rfl (op_pick_t (v := (Value.bool true)) rfl rfl ?_)
   refine Rg_nil ?_
   exact hK10 _ _ ⟨true, _, rfl, ⟨(by repeat (first | with_reducible exact Out.refl _ _ | refine Out.upd ?_ rfl | refine Out.updL ?_ rfl | refine Out.mix' ?_ rfl | exact Out.refl _ _)), rfl, rfl, trivial⟩, ch21, hs63, hm⟩
  ·
   replace hm := bif_f hm hg34
   refine Dw_eq (Value.pointer (some ⟨b1, 1, none⟩)) (fun ρ65 w66 g hle hi ht => ?_) ?_
   ·
    obtain ⟨-, hst, -⟩ := hle
    refine StepOp_g rfl (ht 6 rfl) (op_fieldAddr ty52 rfl ty3 (by decide) (ht 1 rfl) (rfl : _ = (⟨_, 1, none⟩ : Addr)) ?_)
    exact Goes.same hi rfl
   refine Dw_eq (Value.int .i64 l.many) (fun ρ68 w69 g hle hi ht => ?_) ?_
   ·
    obtain ⟨-, hst, -⟩ := hle
    have hsn := (Step.nx hi).1
    refine StepOp_g rfl (ht 6 rfl) (op_load (cs := [(Value.slice a_l_records l.records.length c_l_records), (Value.int .i64 l.many), (Value.int .i64 l.synced)]) (i := 0) ty3 hsn (ht 7 rfl) rfl rfl ?_)
    exact Goes.same hi rfl
   refine Dw_eq (Value.bool (decide (4096 < l.many))) (fun ρ71 w72 g hle hi ht => ?_) ?_
   ·
    obtain ⟨-, hst, -⟩ := hle
    refine StepOp_g rfl (ht 6 rfl) (op_gtr (ht 8 rfl) rfl ?_)
    exact Goes.same hi rfl
   refine Dw_eq (Value.bool (decide (4096 < l.many))) (fun ρ74 w75 g hle hi ht => ?_) ?_
   ·
    obtain ⟨-, hst, -⟩ := hle
    refine StepOp_plain (op_pick_f (v := (Value.bool (decide (4096 < l.many)))) (ht 6 rfl) (ht 9 rfl) ?_)
    exact Goes.same hi rfl
   refine Dw_opB (decide (4096 < l.many)) (fun ρ77 w78 g hle hi ht => ?_) (fun hg80 => ?_) (fun hg80 => ?_)
   ·
    obtain ⟨-, hst, -⟩ := hle
    refine StepOp_plain (op_move (v := (Value.bool (decide (4096 < l.many)))) (ht 10 rfl) ?_)
    exact Goes.same hi rfl
   ·
    replace hm := bif_t hm hg80
    refine Dw_skip (fun _ _ _ ht => wanted_x rfl (ht 11 rfl) rfl) ?_
    refine Dw_skip (fun _ _ _ ht => wanted_x rfl (ht 11 rfl) rfl) ?_
    refine Dw_skip (fun _ _ _ ht => wanted_x rfl (ht 11 rfl) rfl) ?_
    refine Dw_eq (Value.bool true) (fun ρ81 w82 g hle hi ht => ?_) ?_
    ·
     obtain ⟨-, hst, -⟩ := hle
     refine StepOp_plain (op_pick_t (v := (Value.bool true)) (ht 11 rfl) rfl ?_)
     exact Goes.same hi rfl
    refine Dw_eq (Value.bool true) (fun ρ84 w85 g hle hi ht => ?_) ?_
    ·
     obtain ⟨-, hst, -⟩ := hle
     refine StepOp_plain (op_move (v := (Value.bool true)) (ht 15 rfl) ?_)
     exact Goes.same hi rfl
    refine Dw_skip (fun _ _ _ ht => wanted_x rfl (ht 16 rfl) rfl) ?_
    refine Dw_skip (fun _ _ _ ht => wanted_x rfl (ht 16 rfl) rfl) ?_
    refine Dw_skip (fun _ _ _ ht => wanted_x rfl (ht 16 rfl) rfl) ?_
    refine Dw_skip (fun _ _ _ ht => wanted_x rfl (ht 16 rfl) rfl) ?_
    refine Dw_skip (fun _ _ _ ht => wanted_x rfl (ht 16 rfl) rfl) ?_
    refine Dw_skip (fun _ _ _ ht => wanted_x rfl (ht 16 rfl) rfl) ?_
    refine Dw_eq (Value.bool true) (fun ρ87 w88 g hle hi ht => ?_) ?_
    ·
     obtain ⟨-, hst, -⟩ := hle
     refine StepOp_plain (op_pick_t (v := (Value.bool true)) (ht 16 rfl) rfl ?_)
     exact Goes.same hi rfl
    refine Dw_eq (Value.bool true) (fun ρ90 w91 g hle hi ht => ?_) ?_
    ·
     obtain ⟨-, hst, -⟩ := hle
     refine StepOp_plain (op_move (v := (Value.bool true)) (ht 23 rfl) ?_)
     exact Goes.same hi rfl
    refine Dw_skip (fun _ _ _ ht => wanted_x rfl (ht 24 rfl) rfl) ?_
    refine Dw_skip (fun _ _ _ ht => wanted_x rfl (ht 24 rfl) rfl) ?_
    refine Dw_skip (fun _ _ _ ht => wanted_x rfl (ht 24 rfl) rfl) ?_
    refine Dw_skip (fun _ _ _ ht => wanted_x rfl (ht 24 rfl) rfl) ?_
    refine Dw_skip (fun _ _ _ ht => wanted_x rfl (ht 24 rfl) rfl) ?_
    refine Dw_nil fun w97 g98 hl99 hi100 => ?_
    obtain ⟨-, hst101, -⟩ := hl99
    obtain ⟨hs103, p102⟩ := Step.nx hi100
    rintro _ rfl
    rintro _ rfl
    rintro _ rfl
    rintro _ rfl
    rintro _ rfl
    rintro _ rfl
    rintro _ rfl
    rintro _ rfl
    rintro _ rfl
    rintro _ rfl
    rintro _ rfl
    rintro _ rfl
    rintro _ rfl
    rintro _ rfl
    rintro _ rfl
    rintro _ rfl
    rintro _ rfl
    rintro _ rfl
    rintro _ rfl
    rintro _ rfl
    rintro _ rfl
    rintro _ rfl
    rintro _ rfl
    rintro _ rfl
    rintro _ rfl
    rintro _ rfl
    rintro _ rfl
    have p104 : Step (ks [(some b1, Obj.cells [(Value.slice a_l_records l.records.length c_l_records), (Value.int .i64 l.many), (Value.int .i64 l.synced)].toArray 52)] O) w2 (ks [(some b1, Obj.cells [(Value.slice a_l_records l.records.length c_l_records), (Value.int .i64 l.many), (Value.int .i64 l.synced)].toArray 52)] O) w97 := hst101.trans p102
    replace f_l_records := f_l_records.step p104; replace ch21 := ch21.trans p104; clear p104 hs4
    refine Rg_opx rfl (asB_ne rfl rfl) rfl ?_
    refine Rg_op rfl (op_pick_t (v := (Value.bool true)) rfl rfl ?_)
    refine Rg_nil ?_
    exact hK10 _ _ ⟨true, _, rfl, ⟨(by repeat (first | with_reducible exact Out.refl _ _ | refine Out.upd ?_ rfl | refine Out.updL ?_ rfl | refine Out.mix' ?_ rfl | exact Out.refl _ _)), rfl, rfl, trivial⟩, ch21, hs103, hm⟩
   ·
    replace hm := bif_f hm hg80
    refine Dw_eq (Value.pointer (some ⟨b1, 2, none⟩)) (fun ρ105 w106 g hle hi ht => ?_) ?_
    ·
     obtain ⟨-, hst, -⟩ := hle
     refine StepOp_g rfl (ht 11 rfl) (op_fieldAddr ty52 rfl ty3 (by decide) (ht 1 rfl) (rfl : _ = (⟨_, 2, none⟩ : Addr)) ?_)
     exact Goes.same hi rfl
    refine Dw_eq (Value.int .i64 l.synced) (fun ρ108 w109 g hle hi ht => ?_) ?_
    ·
     obtain ⟨-, hst, -⟩ := hle
     have hsn := (Step.nx hi).1
     refine StepOp_g rfl (ht 11 rfl) (op_load (cs := [(Value.slice a_l_records l.records.length c_l_records), (Value.int .i64 l.many), (Value.int .i64 l.synced)]) (i := 0) ty3 hsn (ht 12 rfl) rfl rfl ?_)
     exact Goes.same hi rfl
    refine Dw_eq (Value.bool (decide (l.synced < 0))) (fun ρ111 w112 g hle hi ht => ?_) ?_
    ·
     obtain ⟨-, hst, -⟩ := hle
     refine StepOp_g rfl (ht 11 rfl) (op_lss (ht 13 rfl) rfl ?_)
     exact Goes.same hi rfl
    refine Dw_eq (Value.bool (decide (l.synced < 0))) (fun ρ114 w115 g hle hi ht => ?_) ?_
    ·
     obtain ⟨-, hst, -⟩ := hle
     refine StepOp_plain (op_pick_f (v := (Value.bool (decide (l.synced < 0)))) (ht 11 rfl) (ht 14 rfl) ?_)
     exact Goes.same hi rfl
    refine Dw_opB (decide (l.synced < 0)) (fun ρ117 w118 g hle hi ht => ?_) (fun hg120 => ?_) (fun hg120 => ?_)
    ·
     obtain ⟨-, hst, -⟩ := hle
     refine StepOp_plain (op_move (v := (Value.bool (decide (l.synced < 0)))) (ht 15 rfl) ?_)
     exact Goes.same hi rfl
    ·
     replace hm := bif_t hm hg120
     refine Dw_skip (fun _ _ _ ht => wanted_x rfl (ht 16 rfl) rfl) ?_
     refine Dw_skip (fun _ _ _ ht => wanted_x rfl (ht 16 rfl) rfl) ?_
     refine Dw_skip (fun _ _ _ ht => wanted_x rfl (ht 16 rfl) rfl) ?_
     refine Dw_skip (fun _ _ _ ht => wanted_x rfl (ht 16 rfl) rfl) ?_
     refine Dw_skip (fun _ _ _ ht => wanted_x rfl (ht 16 rfl) rfl) ?_
     refine Dw_skip (fun _ _ _ ht => wanted_x rfl (ht 16 rfl) rfl) ?_
     refine Dw_eq (Value.bool true) (fun ρ121 w122 g hle hi ht => ?_) ?_
     ·
      obtain ⟨-, hst, -⟩ := hle
      refine StepOp_plain (op_pick_t (v := (Value.bool true)) (ht 16 rfl) rfl ?_)
      exact Goes.same hi rfl
     refine Dw_eq (Value.bool true) (fun ρ124 w125 g hle hi ht => ?_) ?_
     ·
      obtain ⟨-, hst, -⟩ := hle
      refine StepOp_plain (op_move (v := (Value.bool true)) (ht 23 rfl) ?_)
      exact Goes.same hi rfl
     refine Dw_skip (fun _ _ _ ht => wanted_x rfl (ht 24 rfl) rfl) ?_
     refine Dw_skip (fun _ _ _ ht => wanted_x rfl (ht 24 rfl) rfl) ?_
     refine Dw_skip (fun _ _ _ ht => wanted_x rfl (ht 24 rfl) rfl) ?_
     refine Dw_skip (fun _ _ _ ht => wanted_x rfl (ht 24 rfl) rfl) ?_
     refine Dw_skip (fun _ _ _ ht => wanted_x rfl (ht 24 rfl) rfl) ?_
     refine Dw_nil fun w131 g132 hl133 hi134 => ?_
     obtain ⟨-, hst135, -⟩ := hl133
     obtain ⟨hs137, p136⟩ := Step.nx hi134
     rintro _ rfl
     rintro _ rfl
     rintro _ rfl
     rintro _ rfl
     rintro _ rfl
     rintro _ rfl
     rintro _ rfl
     rintro _ rfl
     rintro _ rfl
     rintro _ rfl
     rintro _ rfl
     rintro _ rfl
     rintro _ rfl
     rintro _ rfl
     rintro _ rfl
     rintro _ rfl
     rintro _ rfl
     rintro _ rfl
     rintro _ rfl
     rintro _ rfl
     rintro _ rfl
     rintro _ rfl
     rintro _ rfl
     rintro _ rfl
     rintro _ rfl
     rintro _ rfl
     rintro _ rfl
     have p138 : Step (ks [(some b1, Obj.cells [(Value.slice a_l_records l.records.length c_l_records), (Value.int .i64 l.many), (Value.int .i64 l.synced)].toArray 52)] O) w2 (ks [(some b1, Obj.cells [(Value.slice a_l_records l.records.length c_l_records), (Value.int .i64 l.many), (Value.int .i64 l.synced)].toArray 52)] O) w131 := hst135.trans p136
     replace f_l_records := f_l_records.step p138; replace ch21 := ch21.trans p138; clear p138 hs4
     refine Rg_opx rfl (asB_ne rfl rfl) rfl ?_
     refine Rg_op rfl (op_pick_t (v := (Value.bool true)) rfl rfl ?_)
     refine Rg_nil ?_
     exact hK10 _ _ ⟨true, _, rfl, ⟨(by repeat (first | with_reducible exact Out.refl _ _ | refine Out.upd ?_ rfl | refine Out.updL ?_ rfl | refine Out.mix' ?_ rfl | exact Out.refl _ _)), rfl, rfl, trivial⟩, ch21, hs137, hm⟩
    ·
     replace hm := bif_f hm hg120
     refine Dw_eq (Value.pointer (some ⟨b1, 2, none⟩)) (fun ρ139 w140 g hle hi ht => ?_) ?_
     ·
      obtain ⟨-, hst, -⟩ := hle
      refine StepOp_g rfl (ht 16 rfl) (op_fieldAddr ty52 rfl ty3 (by decide) (ht 1 rfl) (rfl : _ = (⟨_, 2, none⟩ : Addr)) ?_)
      exact Goes.same hi rfl
     refine Dw_eq (Value.int .i64 l.synced) (fun ρ142 w143 g hle hi ht => ?_) ?_
     ·
      obtain ⟨-, hst, -⟩ := hle
      have hsn := (Step.nx hi).1
      refine StepOp_g rfl (ht 16 rfl) (op_load (cs := [(Value.slice a_l_records l.records.length c_l_records), (Value.int .i64 l.many), (Value.int .i64 l.synced)]) (i := 0) ty3 hsn (ht 17 rfl) rfl rfl ?_)
      exact Goes.same hi rfl
     refine Dw_eq (Value.pointer (some ⟨b1, 0, none⟩)) (fun ρ145 w146 g hle hi ht => ?_) ?_
     ·
      obtain ⟨-, hst, -⟩ := hle
      refine StepOp_g rfl (ht 16 rfl) (op_fieldAddr ty52 rfl ty22 (by decide) (ht 1 rfl) (rfl : _ = (⟨_, 0, none⟩ : Addr)) ?_)
      exact Goes.same hi rfl
     refine Dw_eq (Value.slice a_l_records l.records.length c_l_records) (fun ρ148 w149 g hle hi ht => ?_) ?_
     ·
      obtain ⟨-, hst, -⟩ := hle
      have hsn := (Step.nx hi).1
      refine StepOp_g rfl (ht 16 rfl) (op_load (cs := [(Value.slice a_l_records l.records.length c_l_records), (Value.int .i64 l.many), (Value.int .i64 l.synced)]) (i := 0) ty22 hsn (ht 19 rfl) rfl rfl ?_)
      exact Goes.same hi rfl
     refine Dw_eq (Value.int .i64 (l.records.length : Int)) (fun ρ151 w152 g hle hi ht => ?_) ?_
     ·
      obtain ⟨-, hst, -⟩ := hle
      refine StepOp_g rfl (ht 16 rfl) (op_len Try.underlying22 (ht 20 rfl) ?_)
      exact Goes.same hi rfl
     refine Dw_eq (Value.bool (decide ((l.records.length : Int) < l.synced))) (fun ρ154 w155 g hle hi ht => ?_) ?_
     ·
      obtain ⟨-, hst, -⟩ := hle
      refine StepOp_g rfl (ht 16 rfl) (op_gtr (ht 18 rfl) (ht 21 rfl) ?_)
      exact Goes.same hi rfl
     refine Dw_eq (Value.bool (decide ((l.records.length : Int) < l.synced))) (fun ρ157 w158 g hle hi ht => ?_) ?_
     ·
      obtain ⟨-, hst, -⟩ := hle
      refine StepOp_plain (op_pick_f (v := (Value.bool (decide ((l.records.length : Int) < l.synced)))) (ht 16 rfl) (ht 22 rfl) ?_)
      exact Goes.same hi rfl
     refine Dw_opB (decide ((l.records.length : Int) < l.synced)) (fun ρ160 w161 g hle hi ht => ?_) (fun hg163 => ?_) (fun hg163 => ?_)
     ·
      obtain ⟨-, hst, -⟩ := hle
      refine StepOp_plain (op_move (v := (Value.bool (decide ((l.records.length : Int) < l.synced)))) (ht 23 rfl) ?_)
      exact Goes.same hi rfl
     ·
      replace hm := bif_t hm hg163
      refine Dw_skip (fun _ _ _ ht => wanted_x rfl (ht 24 rfl) rfl) ?_
      refine Dw_skip (fun _ _ _ ht => wanted_x rfl (ht 24 rfl) rfl) ?_
      refine Dw_skip (fun _ _ _ ht => wanted_x rfl (ht 24 rfl) rfl) ?_
      refine Dw_skip (fun _ _ _ ht => wanted_x rfl (ht 24 rfl) rfl) ?_
      refine Dw_skip (fun _ _ _ ht => wanted_x rfl (ht 24 rfl) rfl) ?_
      refine Dw_nil fun w168 g169 hl170 hi171 => ?_
      obtain ⟨-, hst172, -⟩ := hl170
      obtain ⟨hs174, p173⟩ := Step.nx hi171
      rintro _ rfl
      rintro _ rfl
      rintro _ rfl
      rintro _ rfl
      rintro _ rfl
      rintro _ rfl
      rintro _ rfl
      rintro _ rfl
      rintro _ rfl
      rintro _ rfl
      rintro _ rfl
      rintro _ rfl
      rintro _ rfl
      rintro _ rfl
      rintro _ rfl
      rintro _ rfl
      rintro _ rfl
      rintro _ rfl
      rintro _ rfl
      rintro _ rfl
      rintro _ rfl
      rintro _ rfl
      rintro _ rfl
      rintro _ rfl
      rintro _ rfl
      rintro _ rfl
      rintro _ rfl
      have p175 : Step (ks [(some b1, Obj.cells [(Value.slice a_l_records l.records.length c_l_records), (Value.int .i64 l.many), (Value.int .i64 l.synced)].toArray 52)] O) w2 (ks [(some b1, Obj.cells [(Value.slice a_l_records l.records.length c_l_records), (Value.int .i64 l.many), (Value.int .i64 l.synced)].toArray 52)] O) w168 := hst172.trans p173
      replace f_l_records := f_l_records.step p175; replace ch21 := ch21.trans p175; clear p175 hs4
      refine Rg_opx rfl (asB_ne rfl rfl) rfl ?_
      refine Rg_op rfl (op_pick_t (v := (Value.bool true)) rfl rfl ?_)
      refine Rg_nil ?_
      exact hK10 _ _ ⟨true, _, rfl, ⟨(by repeat (first | with_reducible exact Out.refl _ _ | refine Out.upd ?_ rfl | refine Out.updL ?_ rfl | refine Out.mix' ?_ rfl | exact Out.refl _ _)), rfl, rfl, trivial⟩, ch21, hs174, hm⟩
     ·
      replace hm := bif_f hm hg163
      refine Dw_eq (Value.pointer (some ⟨b1, 0, none⟩)) (fun ρ176 w177 g hle hi ht => ?_) ?_
      ·
       obtain ⟨-, hst, -⟩ := hle
       refine StepOp_g rfl (ht 24 rfl) (op_fieldAddr ty52 rfl ty22 (by decide) (ht 1 rfl) (rfl : _ = (⟨_, 0, none⟩ : Addr)) ?_)
       exact Goes.same hi rfl
      refine Dw_eq (Value.slice a_l_records l.records.length c_l_records) (fun ρ179 w180 g hle hi ht => ?_) ?_
      ·
       obtain ⟨-, hst, -⟩ := hle
       have hsn := (Step.nx hi).1
       refine StepOp_g rfl (ht 24 rfl) (op_load (cs := [(Value.slice a_l_records l.records.length c_l_records), (Value.int .i64 l.many), (Value.int .i64 l.synced)]) (i := 0) ty22 hsn (ht 25 rfl) rfl rfl ?_)
       exact Goes.same hi rfl
      replace hm := bd hm; obtain ⟨used_1, hv185, hm⟩ := hm
      refine Dw_op (VD O [(some b1, Obj.cells [(Value.slice a_l_records l.records.length c_l_records), (Value.int .i64 l.many), (Value.int .i64 l.synced)].toArray 52)] (vI .i64) used_1) (VD.stab _ _) (fun ρ182 w183 g hle hi ht => ?_) ?_
      ·
       obtain ⟨-, hst, -⟩ := hle
       replace f_l_records := f_l_records.step hst
       refine StepOp_g rfl (ht 24 rfl) (op_call Try.call55 (c55_journal_used (O := ks (ents g ++ [(some b1, Obj.cells [(Value.slice a_l_records l.records.length c_l_records), (Value.int .i64 l.many), (Value.int .i64 l.synced)].toArray 52)]) O) (l := l.records) hi.ltw f_l_records hv185) (by simp only [List.map, Array.toList, (show ev _ (.tmp 26) = _ from (ht 26 rfl))] <;> rfl) ?_)
       rintro v186 w187 ⟨hx188, h189⟩
       exact Goes.call hi hx188 h189
      refine Dw_eq (Value.pointer (some ⟨b1, 1, none⟩)) (fun ρ191 w192 g hle hi ht => ?_) ?_
      ·
       obtain ⟨-, hst, -⟩ := hle
       refine StepOp_g rfl (ht 24 rfl) (op_fieldAddr ty52 rfl ty3 (by decide) (ht 1 rfl) (rfl : _ = (⟨_, 1, none⟩ : Addr)) ?_)
       exact Goes.same hi rfl
      refine Dw_eq (Value.int .i64 l.many) (fun ρ194 w195 g hle hi ht => ?_) ?_
      ·
       obtain ⟨-, hst, -⟩ := hle
       have hsn := (Step.nx hi).1
       refine StepOp_g rfl (ht 24 rfl) (op_load (cs := [(Value.slice a_l_records l.records.length c_l_records), (Value.int .i64 l.many), (Value.int .i64 l.synced)]) (i := 0) ty3 hsn (ht 28 rfl) rfl rfl ?_)
       exact Goes.same hi rfl
      refine Dw_nil fun w201 g202 hl203 hi204 => ?_
      obtain ⟨-, hst205, -⟩ := hl203
      obtain ⟨hs207, p206⟩ := Step.nx hi204
      rintro _ rfl
      rintro _ rfl
      rintro v208 h209
      replace h209 : Vr.vd (vI .i64) _ _ _ _ := h209
      obtain ⟨rfl, r_y210⟩ := h209
      rintro _ rfl
      rintro _ rfl
      rintro _ rfl
      rintro _ rfl
      rintro _ rfl
      rintro _ rfl
      rintro _ rfl
      rintro _ rfl
      rintro _ rfl
      rintro _ rfl
      rintro _ rfl
      rintro _ rfl
      rintro _ rfl
      rintro _ rfl
      rintro _ rfl
      rintro _ rfl
      rintro _ rfl
      rintro _ rfl
      rintro _ rfl
      rintro _ rfl
      rintro _ rfl
      rintro _ rfl
      rintro _ rfl
      rintro _ rfl
      have p211 : Step (ks [(some b1, Obj.cells [(Value.slice a_l_records l.records.length c_l_records), (Value.int .i64 l.many), (Value.int .i64 l.synced)].toArray 52)] O) w2 (ks [(some b1, Obj.cells [(Value.slice a_l_records l.records.length c_l_records), (Value.int .i64 l.many), (Value.int .i64 l.synced)].toArray 52)] O) w201 := hst205.trans p206
      replace f_l_records := f_l_records.step p211; replace ch21 := ch21.trans p211; clear p211 hs4
      refine Rg_opg rfl rfl rfl (op_gtr rfl rfl ?_)
      refine Rg_op rfl (op_pick_f (v := (Value.bool (decide (l.many < used_1)))) rfl rfl ?_)
      refine Rg_nil ?_
      exact hK10 _ _ ⟨(decide (l.many < used_1)), _, rfl, ⟨(by repeat (first | with_reducible exact Out.refl _ _ | refine Out.upd ?_ rfl | refine Out.updL ?_ rfl | refine Out.mix' ?_ rfl | exact Out.refl _ _)), rfl, rfl, trivial⟩, ch21, hs207, hm⟩

end Go.Fx



set_option linter.unusedVariables false
set_option linter.unusedSimpArgs false
set_option maxRecDepth 100000
set_option maxHeartbeats 0
namespace Go.Fx
open Go Go.RowKit Go.Proofs
def m52_slices_Clonebyte_byte_ (s : List UInt8) : Option (List UInt8) :=
 ck ((([] : List UInt8).length + s.length) * 1 ≤ 140737488355328) <|
 some (([] : List UInt8) ++ s)

theorem g52_slices_Clonebyte_byte_ {w : World} {O : List Nat} {s : List UInt8} {a_s : Option Addr} {c_s : Nat} (hO : ∀ k ∈ O, k < w.heap.size) (f_s : SlR rU8 w O a_s c_s s) {x : (List UInt8)} (hm : m52_slices_Clonebyte_byte_ s = some x) :
  OkG Try.prog 52 [(Value.slice a_s s.length c_s)] w O rU8 5 x := by
 unfold m52_slices_Clonebyte_byte_ at hm
 refine Fn_of_Wp (n := 8) (xs := [.tmp 2]) Try.func52 rfl Try.ntmps52 Try.results52 rfl ?_
 have hs := St.start hO
 refine Wp_seq ?_
 refine Wp_region ?_
 refine Rg_op rfl (op_assign (v := (Value.slice none 0 0)) rfl ?_)
 refine Rg_nil ?_
 refine Wp_seq ?_
 refine Wp_seq ?_
 refine Wp_region ?_
 refine Rg_op rfl (op_move (v := (Value.slice a_s s.length c_s)) rfl ?_)
 refine Rg_op rfl (op_eqnil Try.underlying41 rfl rfl ?_)
 refine Rg_nil ?_
 rcases a_s with _ | ad1
 ·
  have hnil2 := (f_s.nil rfl).1
  refine Wp_cond_t rfl ?_
  refine Wp_seq ?_
  clear f_s
  refine Wp_region ?_
  refine Rg_op rfl (op_assign (v := (Value.slice none 0 0)) rfl ?_)
  refine Rg_nil ?_
  refine Wp_ret ?_
  refine ⟨_, (show Closes [] _ _ from rfl), [(Value.slice none 0 0)], ⟨rfl, trivial⟩, hs.ext, ?_⟩
  exact OkG.mkNil (by simp [ck, hnil2] at hm; first | exact hm | (subst hm; simp [hnil2]) | simpa using hm)
 ·
  refine Wp_cond_f rfl ?_
  refine Wp_skip ?_
  refine Wp_seq ?_
  refine Wp_region ?_
  refine Rg_op rfl (op_buildSlice (cs := []) (parts := []) ty41 ty5 hs (by decide) rfl ?_)
  intro b3 w4 hx7 p5 hs6
  replace f_s := f_s.step p5; clear p5
  refine Rg_op rfl (op_move (v := (Value.slice (some ad1) s.length c_s)) rfl ?_)
  have f9 := Gs.of_cells (p := rU8) (e := 5) (bl := b3) (c := 0) (w := w4) (O := ks [(some b3, Obj.cells [].toArray 5)] O) (show Els rU8 _ _ [] [] from Els.nil) rfl (le_lit rfl)
  replace hm := ck_some hm; obtain ⟨hc10, hm⟩ := hm
  obtain ⟨ns11, he12, hr13⟩ := f_s.src
  refine Rg_op rfl (op_append (q := rU8) (i := 0) (xs := ([] : List UInt8)) (ys := s) (news := ns11) ty41 ty5 rfl (by decide) hs6 rfl rfl f9 rfl hr13 he12 hc10 (by have := hc10; simp only [maxLen]; omega) ?_)
  intro a17 c18 k19 o20 w14 p15 hs16 f21
  replace f_s := f_s.step p15; clear p15 hs6
  refine Rg_op rfl (op_assign (v := (Value.slice a17 (([] : List UInt8) ++ s).length c18)) rfl ?_)
  refine Rg_nil ?_
  refine Wp_ret ?_
  refine ⟨_, (show Closes [] _ _ from rfl), [(Value.slice a17 (([] : List UInt8) ++ s).length c18)], ⟨rfl, trivial⟩, hs16.ext, ?_⟩
  exact OkG.mk (i := 0) hs16 rfl f21 (Option.some.inj hm)
end Go.Fx



set_option linter.unusedVariables false
set_option linter.unusedSimpArgs false
set_option maxRecDepth 100000
set_option maxHeartbeats 0
namespace Go.Fx
open Go Go.RowKit Go.Proofs
def m56_slices_Clipbyte_byte_ (s : List (List UInt8)) : Option (List (List UInt8)) :=
 ck ((0 : Int) ≤ (s.length : Int) ∧ (s.length : Int) ≤ (s.length : Int)) <|
 some ((s.drop 0).take (s.length - 0))

theorem c56_slices_Clipbyte_byte_ {w : World} {O : List Nat} {s : List (List UInt8)} {a_s : Option Addr} {c_s : Nat} (hO : ∀ k ∈ O, k < w.heap.size) (f_s : SlR (rSl rU8) w O a_s c_s s) {x : (List (List UInt8))} (hm : m56_slices_Clipbyte_byte_ s = some x) :
  Ok Try.prog 56 [(Value.slice a_s s.length c_s)] w O (vCl (rSl rU8)) x := by
 unfold m56_slices_Clipbyte_byte_ at hm
 refine Fn_of_Wp (n := 9) (xs := [.tmp 2]) Try.func56 rfl Try.ntmps56 Try.results56 rfl ?_
 have hs := St.start hO
 refine Wp_seq ?_
 refine Wp_region ?_
 refine Rg_op rfl (op_assign (v := (Value.slice none 0 0)) rfl ?_)
 refine Rg_nil ?_
 refine Wp_seq ?_
 refine Wp_region ?_
 refine Rg_op rfl (op_move (v := (Value.slice a_s s.length c_s)) rfl ?_)
 refine Rg_op rfl (op_move (v := (Value.slice a_s s.length c_s)) rfl ?_)
 refine Rg_op rfl (op_len Try.underlying22 rfl ?_)
 have rl1 := inK_len f_s
 refine Rg_op rfl (op_move (v := (Value.slice a_s s.length c_s)) rfl ?_)
 refine Rg_op rfl (op_len Try.underlying22 rfl ?_)
 have rl2 := inK_len f_s
 replace hm := ck_some hm; obtain ⟨hc3, hm⟩ := hm
 refine Rg_op rfl (op_slice (q := (rSl rU8)) (l := 0) (h := s.length) (m := s.length) ty22 ty41 rfl f_s rfl rfl (bndI rfl (by omega)) (bndI rfl (by omega)) (by decide) (by omega) (by omega) (by have h_ : s.length ≤ c_s := f_s.le; omega) (by have h_ : s.length ≤ c_s := f_s.le; omega) ?_)
 intro a4 f5
 refine Rg_op rfl (op_assign (v := (Value.slice a4 ((s.drop 0).take (s.length - 0)).length (s.length - 0))) rfl ?_)
 refine Rg_nil ?_
 refine Wp_ret ?_
 have hz := step_all hs
 replace f_s := f_s.step hz; replace f5 := f5.step hz
 refine ⟨_, (show Closes [] _ _ from rfl), [(Value.slice a4 ((s.drop 0).take (s.length - 0)).length (s.length - 0))], ⟨rfl, trivial⟩, hs.ext, ?_⟩
 exact Vr.eq (a := (vCl (rSl rU8))) (x := ((s.drop 0).take (s.length - 0))) (mkCl f5 (by simp)) (Option.some.inj hm)

end Go.Fx



set_option linter.unusedVariables false
set_option linter.unusedSimpArgs false
set_option maxRecDepth 100000
set_option maxHeartbeats 0
namespace Go.Fx
open Go Go.RowKit Go.Proofs
def m30_journal_Append (l : XJournal) (b : List UInt8) : Option (XJournal × Int) :=
 (m32_journal_Check l).bind fun check_1 =>
 bif (decide (check_1 ≠ 0)) then
  some ((⟨([] : List (List UInt8)), 0, 0⟩ : XJournal), check_1)
 else
  (m54_journal_sectors b).bind fun sectors_1 =>
  (m55_journal_used l.records).bind fun used_1 =>
  bif (decide ((IntKind.wrap .i64 (l.many - used_1)) < sectors_1)) then
   some ((⟨([] : List (List UInt8)), 0, 0⟩ : XJournal), 2)
  else
   (m56_slices_Clipbyte_byte_ l.records).bind fun clip_1 =>
   (m52_slices_Clonebyte_byte_ b).bind fun clone_1 =>
   ck ((clip_1.length + [clone_1].length) * 24 ≤ 140737488355328) <|
   some ((⟨(clip_1 ++ [clone_1]), l.many, l.synced⟩ : XJournal), 0)

theorem c30_journal_Append {w : World} {O : List Nat} {l : XJournal} {b : List UInt8} {a_l_records : Option Addr} {c_l_records : Nat} {a_b : Option Addr} {c_b : Nat} (hO : ∀ k ∈ O, k < w.heap.size) (f_l_records : SlR (rSl rU8) w O a_l_records c_l_records l.records) (r_l_many : InK .i64 l.many) (r_l_synced : InK .i64 l.synced) (f_b : SlR rU8 w O a_b c_b b) {x : XJournal × Int} (hm : m30_journal_Append l b = some x) :
  Ok Try.prog 30 [(Value.agg [(Value.slice a_l_records l.records.length c_l_records), (Value.int .i64 l.many), (Value.int .i64 l.synced)].toArray), (Value.slice a_b b.length c_b)] w O (vT2 (vA rXJournal) (vI .i64)) x := by
 unfold m30_journal_Append at hm
 refine Fn_of_Wp (n := 32) (xs := [.cell 4 52, .tmp 5]) Try.func30 rfl Try.ntmps30 Try.results30 rfl ?_
 have hs := St.start hO
 refine Wp_seq ?_
 refine Wp_region ?_
 refine Rg_op rfl (op_box (cs := [(Value.slice a_l_records l.records.length c_l_records), (Value.int .i64 l.many), (Value.int .i64 l.synced)]) hs rfl rfl ?_)
 intro b1 w2 _ p3 hs4
 replace f_l_records := f_l_records.step p3; replace f_b := f_b.step p3; clear p3
 refine Rg_op rfl (op_alloc ty52 hs4 ?_)
 intro b6 w7 _ p8 hs9
 replace f_l_records := f_l_records.step p8; replace f_b := f_b.step p8; clear p8 hs4
 refine Rg_op rfl (op_assign (v := (Value.int .i64 0)) rfl ?_)
 refine Rg_nil ?_
 refine Wp_seq ?_
 refine Wp_seq ?_
 refine Wp_region ?_
 refine Rg_op rfl (op_loadA (cs := [(Value.slice a_l_records l.records.length c_l_records), (Value.int .i64 l.many), (Value.int .i64 l.synced)]) (vs := [(Value.slice a_l_records l.records.length c_l_records), (Value.int .i64 l.many), (Value.int .i64 l.synced)]) (i := 1) ty52 hs9 rfl rfl rfl rfl ?_)
 replace hm := bd hm; obtain ⟨check_1, hv11, hm⟩ := hm
 refine Rg_op rfl (op_call Try.call32 (c32_journal_Check (l := l) hs9.ltw f_l_records r_l_many r_l_synced hv11) rfl ?_)
 rintro v12 w13 ⟨hx14, h15⟩
 have hs16 := hs9.call hx14
 have p17 := Step.ext (O := ks [(some b6, Obj.cells [(Value.slice none 0 0), (Value.int .i64 0), (Value.int .i64 0)].toArray 52), (some b1, Obj.cells [(Value.slice a_l_records l.records.length c_l_records), (Value.int .i64 l.many), (Value.int .i64 l.synced)].toArray 52)] O) hx14
 clear hx14
 replace f_l_records := f_l_records.step p17; replace f_b := f_b.step p17; clear p17 hs9
 obtain ⟨rfl, r_y18⟩ := h15
 refine Rg_op rfl (op_assign (v := (Value.int .i64 check_1)) rfl ?_)
 refine Rg_nil ?_
 refine Wp_seq ?_
 refine Wp_region ?_
 refine Rg_op rfl (op_move (v := (Value.int .i64 check_1)) rfl ?_)
 refine Rg_op rfl (op_neq rfl rfl ?_)
 refine Rg_nil ?_
 refine Wp_cond rfl (fun hc19 => ?_) (fun hc19 => ?_)
 ·
  replace hm := bif_t hm hc19
  refine Wp_seq ?_
  obtain ⟨hs20, p21⟩ := hs16.sub (bs' := [(some b6, Obj.cells [(Value.slice none 0 0), (Value.int .i64 0), (Value.int .i64 0)].toArray 52)]) (.cons_cons _ (.cons _ List.Sublist.slnil))
  clear f_l_records f_b
  clear p21 hs16
  refine Wp_region ?_
  refine Rg_op rfl (op_build (vs := [(Value.slice none 0 0), (Value.int .i64 0), (Value.int .i64 0)]) (parts := []) ty52 pl52 rfl ?_)
  refine Rg_op rfl (op_move (v := (Value.int .i64 check_1)) rfl ?_)
  refine Rg_op_ (op_store (cs := [(Value.slice none 0 0), (Value.int .i64 0), (Value.int .i64 0)]) (vs := [(Value.slice none 0 0), (Value.int .i64 0), (Value.int .i64 0)]) (cs' := [(Value.slice none 0 0), (Value.int .i64 0), (Value.int .i64 0)]) (bs' := [(some b6, Obj.cells [(Value.slice none 0 0), (Value.int .i64 0), (Value.int .i64 0)].toArray 52)]) (i := 0) ty52 hs20 rfl rfl rfl rfl rfl (le_lit rfl) rfl rfl rfl ?_)
  intro w22 p23 hs24
  clear p23 hs20
  refine Rg_op rfl (op_assign (v := (Value.int .i64 check_1)) rfl ?_)
  refine Rg_nil ?_
  refine Wp_ret ?_
  have hz := step_all hs24
  refine ⟨_, (show Closes [] _ _ from rfl), [(Value.agg [(Value.slice none 0 0), (Value.int .i64 0), (Value.int .i64 0)].toArray), (Value.int .i64 check_1)], ⟨resA (cs := [(Value.slice none 0 0), (Value.int .i64 0), (Value.int .i64 0)]) (vs := [(Value.slice none 0 0), (Value.int .i64 0), (Value.int .i64 0)]) ty52 (i := 0) hs24 rfl rfl rfl rfl, rfl, trivial⟩, hs24.ext, ?_⟩
  exact Vr.eq (a := (vT2 (vA rXJournal) (vI .i64))) (x := ((⟨([] : List (List UInt8)), 0, 0⟩ : XJournal), check_1)) (mkT2 (mkA (mkVia (mk_pair (mk_sl SlR.nil_) (mk_pair (mk_int (show InK .i64 0 from by decide)) (mk_int (show InK .i64 0 from by decide)))))) ⟨rfl, r_y18⟩) (Option.some.inj hm)
 ·
  replace hm := bif_f hm hc19
  refine Wp_skip ?_
  refine Wp_seq ?_
  refine Wp_seq ?_
  refine Wp_drawR (g0 := []) (m := 7) (fl := []) (TS_inv hs16) rfl (.inl rfl) rfl (by decide +kernel) ?_  -- 4
  refine Dw_eq (Value.slice a_b b.length c_b) (fun ρ25 w26 g hle hi ht => ?_) ?_
  ·
   obtain ⟨-, hst, -⟩ := hle
   refine StepOp_plain (op_move (v := (Value.slice a_b b.length c_b)) (ht 1 rfl) ?_)
   exact Goes.same hi rfl
  replace hm := bd hm; obtain ⟨sectors_1, hv31, hm⟩ := hm
  refine Dw_op (VD O [(some b6, Obj.cells [(Value.slice none 0 0), (Value.int .i64 0), (Value.int .i64 0)].toArray 52), (some b1, Obj.cells [(Value.slice a_l_records l.records.length c_l_records), (Value.int .i64 l.many), (Value.int .i64 l.synced)].toArray 52)] (vI .i64) sectors_1) (VD.stab _ _) (fun ρ28 w29 g hle hi ht => ?_) ?_
  ·
   obtain ⟨-, hst, -⟩ := hle
   replace f_b := f_b.step hst
   refine StepOp_plain (op_call Try.call54 (c54_journal_sectors (O := ks (ents g ++ [(some b6, Obj.cells [(Value.slice none 0 0), (Value.int .i64 0), (Value.int .i64 0)].toArray 52), (some b1, Obj.cells [(Value.slice a_l_records l.records.length c_l_records), (Value.int .i64 l.many), (Value.int .i64 l.synced)].toArray 52)]) O) (b := b) hi.ltw f_b hv31) (by simp only [List.map, Array.toList, (show ev _ (.tmp 13) = _ from (ht 13 rfl))] <;> rfl) ?_)
   rintro v32 w33 ⟨hx34, h35⟩
   exact Goes.call hi hx34 h35
  refine Dw_eq (Value.pointer (some ⟨b1, 1, none⟩)) (fun ρ37 w38 g hle hi ht => ?_) ?_
  ·
   obtain ⟨-, hst, -⟩ := hle
   refine StepOp_plain (op_fieldAddr ty52 rfl ty3 (by decide) (ht 2 rfl) (rfl : _ = (⟨_, 1, none⟩ : Addr)) ?_)
   exact Goes.same hi rfl
  refine Dw_eq (Value.int .i64 l.many) (fun ρ40 w41 g hle hi ht => ?_) ?_
  ·
   obtain ⟨-, hst, -⟩ := hle
   have hsn := (Step.nx hi).1
   refine StepOp_plain (op_load (cs := [(Value.slice a_l_records l.records.length c_l_records), (Value.int .i64 l.many), (Value.int .i64 l.synced)]) (i := 1) ty3 hsn (ht 15 rfl) rfl rfl ?_)
   exact Goes.same hi rfl
  refine Dw_eq (Value.pointer (some ⟨b1, 0, none⟩)) (fun ρ43 w44 g hle hi ht => ?_) ?_
  ·
   obtain ⟨-, hst, -⟩ := hle
   refine StepOp_plain (op_fieldAddr ty52 rfl ty22 (by decide) (ht 2 rfl) (rfl : _ = (⟨_, 0, none⟩ : Addr)) ?_)
   exact Goes.same hi rfl
  refine Dw_eq (Value.slice a_l_records l.records.length c_l_records) (fun ρ46 w47 g hle hi ht => ?_) ?_
  ·
   obtain ⟨-, hst, -⟩ := hle
   have hsn := (Step.nx hi).1
   refine StepOp_plain (op_load (cs := [(Value.slice a_l_records l.records.length c_l_records), (Value.int .i64 l.many), (Value.int .i64 l.synced)]) (i := 1) ty22 hsn (ht 17 rfl) rfl rfl ?_)
   exact Goes.same hi rfl
  replace hm := bd hm; obtain ⟨used_1, hv52, hm⟩ := hm
  refine Dw_op (VD O [(some b6, Obj.cells [(Value.slice none 0 0), (Value.int .i64 0), (Value.int .i64 0)].toArray 52), (some b1, Obj.cells [(Value.slice a_l_records l.records.length c_l_records), (Value.int .i64 l.many), (Value.int .i64 l.synced)].toArray 52)] (vI .i64) used_1) (VD.stab _ _) (fun ρ49 w50 g hle hi ht => ?_) ?_
  ·
   obtain ⟨-, hst, -⟩ := hle
   replace f_l_records := f_l_records.step hst
   refine StepOp_plain (op_call Try.call55 (c55_journal_used (O := ks (ents g ++ [(some b6, Obj.cells [(Value.slice none 0 0), (Value.int .i64 0), (Value.int .i64 0)].toArray 52), (some b1, Obj.cells [(Value.slice a_l_records l.records.length c_l_records), (Value.int .i64 l.many), (Value.int .i64 l.synced)].toArray 52)]) O) (l := l.records) hi.ltw f_l_records hv52) (by simp only [List.map, Array.toList, (show ev _ (.tmp 18) = _ from (ht 18 rfl))] <;> rfl) ?_)
   rintro v53 w54 ⟨hx55, h56⟩
   exact Goes.call hi hx55 h56
  refine Dw_nil fun w62 g63 hl64 hi65 => ?_
  obtain ⟨-, hst66, -⟩ := hl64
  obtain ⟨hs68, p67⟩ := Step.nx hi65
  rintro v69 h70
  replace h70 : Vr.vd (vI .i64) _ _ _ _ := h70
  obtain ⟨rfl, r_y71⟩ := h70
  rintro _ rfl
  rintro _ rfl
  rintro _ rfl
  rintro _ rfl
  rintro v72 h73
  replace h73 : Vr.vd (vI .i64) _ _ _ _ := h73
  obtain ⟨rfl, r_y74⟩ := h73
  rintro _ rfl
  have p75 : Step (ks [(some b6, Obj.cells [(Value.slice none 0 0), (Value.int .i64 0), (Value.int .i64 0)].toArray 52), (some b1, Obj.cells [(Value.slice a_l_records l.records.length c_l_records), (Value.int .i64 l.many), (Value.int .i64 l.synced)].toArray 52)] O) w13 (ks [(some b6, Obj.cells [(Value.slice none 0 0), (Value.int .i64 0), (Value.int .i64 0)].toArray 52), (some b1, Obj.cells [(Value.slice a_l_records l.records.length c_l_records), (Value.int .i64 l.many), (Value.int .i64 l.synced)].toArray 52)] O) w62 := hst66.trans p67
  replace f_l_records := f_l_records.step p75; replace f_b := f_b.step p75; clear p75 hs16
  refine Rg_op rfl (op_subw rfl rfl ?_)
  refine Rg_op rfl (op_gtr rfl rfl ?_)
  refine Rg_nil ?_
  refine Wp_cond rfl (fun hc76 => ?_) (fun hc76 => ?_)
  ·
   replace hm := bif_t hm hc76
   refine Wp_seq ?_
   obtain ⟨hs77, p78⟩ := hs68.sub (bs' := [(some b6, Obj.cells [(Value.slice none 0 0), (Value.int .i64 0), (Value.int .i64 0)].toArray 52)]) (.cons_cons _ (.cons _ List.Sublist.slnil))
   clear f_l_records f_b
   clear p78 hs68
   refine Wp_region ?_
   refine Rg_op rfl (op_build (vs := [(Value.slice none 0 0), (Value.int .i64 0), (Value.int .i64 0)]) (parts := []) ty52 pl52 rfl ?_)
   refine Rg_op_ (op_store (cs := [(Value.slice none 0 0), (Value.int .i64 0), (Value.int .i64 0)]) (vs := [(Value.slice none 0 0), (Value.int .i64 0), (Value.int .i64 0)]) (cs' := [(Value.slice none 0 0), (Value.int .i64 0), (Value.int .i64 0)]) (bs' := [(some b6, Obj.cells [(Value.slice none 0 0), (Value.int .i64 0), (Value.int .i64 0)].toArray 52)]) (i := 0) ty52 hs77 rfl rfl rfl rfl rfl (le_lit rfl) rfl rfl rfl ?_)
   intro w79 p80 hs81
   clear p80 hs77
   refine Rg_op rfl (op_assign (v := (Value.int .i64 2)) rfl ?_)
   refine Rg_nil ?_
   refine Wp_ret ?_
   have hz := step_all hs81
   refine ⟨_, (show Closes [] _ _ from rfl), [(Value.agg [(Value.slice none 0 0), (Value.int .i64 0), (Value.int .i64 0)].toArray), (Value.int .i64 2)], ⟨resA (cs := [(Value.slice none 0 0), (Value.int .i64 0), (Value.int .i64 0)]) (vs := [(Value.slice none 0 0), (Value.int .i64 0), (Value.int .i64 0)]) ty52 (i := 0) hs81 rfl rfl rfl rfl, rfl, trivial⟩, hs81.ext, ?_⟩
   exact Vr.eq (a := (vT2 (vA rXJournal) (vI .i64))) (x := ((⟨([] : List (List UInt8)), 0, 0⟩ : XJournal), 2)) (mkT2 (mkA (mkVia (mk_pair (mk_sl SlR.nil_) (mk_pair (mk_int (show InK .i64 0 from by decide)) (mk_int (show InK .i64 0 from by decide)))))) ⟨rfl, (show InK .i64 2 from by decide)⟩) (Option.some.inj hm)
  ·
   replace hm := bif_f hm hc76
   refine Wp_skip ?_
   refine Wp_seq ?_
   refine Wp_region ?_
   refine Rg_op rfl (op_fieldAddr ty52 rfl ty22 (by decide) rfl (rfl : _ = (⟨_, 0, none⟩ : Addr)) ?_)
   refine Rg_op rfl (op_load (cs := [(Value.slice a_l_records l.records.length c_l_records), (Value.int .i64 l.many), (Value.int .i64 l.synced)]) (i := 1) ty22 hs68 rfl rfl rfl ?_)
   replace hm := bd hm; obtain ⟨clip_1, hv82, hm⟩ := hm
   refine Rg_op rfl (op_call Try.call56 (c56_slices_Clipbyte_byte_ (s := l.records) hs68.ltw f_l_records hv82) rfl ?_)
   rintro v83 w84 ⟨hx85, h86⟩
   have hs87 := hs68.call hx85
   have p88 := Step.ext (O := ks [(some b6, Obj.cells [(Value.slice none 0 0), (Value.int .i64 0), (Value.int .i64 0)].toArray 52), (some b1, Obj.cells [(Value.slice a_l_records l.records.length c_l_records), (Value.int .i64 l.many), (Value.int .i64 l.synced)].toArray 52)] O) hx85
   clear hx85
   replace f_l_records := f_l_records.step p88; replace f_b := f_b.step p88; clear p88 hs68
   obtain ⟨a89, rfl, f90⟩ := h86
   refine Rg_op rfl (op_move (v := (Value.slice a_b b.length c_b)) rfl ?_)
   replace hm := bd hm; obtain ⟨clone_1, hv91, hm⟩ := hm
   refine Rg_op rfl (op_call Try.call52 (g52_slices_Clonebyte_byte_ (s := b) hs87.ltw f_b hv91) rfl ?_)
   rintro _ w93 ⟨hx94, a97, c98, k99, o100, rfl, hk101, f102⟩
   obtain ⟨hs96, p103⟩ := hs87.callG (o := o100) hx94 hk101
   rw [← ks_cons (o := o100)] at f102
   replace f_l_records := f_l_records.step p103; replace f_b := f_b.step p103; replace f90 := f90.step p103; clear p103 hs87
   obtain ⟨hs106, p107, f105⟩ := Gs.publish (i := 0) hs96 rfl f102
   replace f_l_records := f_l_records.step p107; replace f_b := f_b.step p107; replace f90 := f90.step p107; clear p107 hs96
   refine Rg_op rfl (op_buildSlice (cs := [(Value.slice a97 clone_1.length c98)]) (parts := [(0, .tmp 27)]) ty22 ty41 hs106 (by decide) rfl ?_)
   intro b108 w109 hx112 p110 hs111
   replace f_l_records := f_l_records.step p110; replace f_b := f_b.step p110; replace f90 := f90.step p110; replace f105 := f105.step p110; clear p110 hs106
   replace hm := ck_some hm; obtain ⟨hc114, hm⟩ := hm
   refine Rg_op rfl (op_appendP (q := (rSl rU8)) (xs := clip_1) (ys := [clone_1]) (news := [(Value.slice a97 clone_1.length c98)]) ty22 ty41 rfl (by decide) hs111 rfl f90 rfl (Src.owned' (len := 1) (hs111.get (i := 0) rfl) rfl) (show Els (rSl rU8) _ _ [(Value.slice a97 clone_1.length c98)] [clone_1] from ⟨_, _, rfl, (mk_sl f105), Els.nil⟩) (le_lit rfl) hc114 (by have := hc114; simp only [maxLen]; omega) ?_)
   intro a118 c119 w115 p116 hs117 f120
   replace f_l_records := f_l_records.step p116; replace f_b := f_b.step p116; replace f90 := f90.step p116; replace f105 := f105.step p116; clear p116 hs111
   have hs121 := hs117.drop 0
   replace f_l_records := f_l_records.step (hs117.dropS 0)
   replace f_b := f_b.step (hs117.dropS 0)
   replace f90 := f90.step (hs117.dropS 0)
   replace f105 := f105.step (hs117.dropS 0)
   replace f120 := f120.step (hs117.dropS 0); clear hs117
   refine Rg_op rfl (op_fieldAddr ty52 rfl ty22 (by decide) rfl (rfl : _ = (⟨_, 0, none⟩ : Addr)) ?_)
   refine Rg_op_ (op_store (cs := [(Value.slice a_l_records l.records.length c_l_records), (Value.int .i64 l.many), (Value.int .i64 l.synced)]) (vs := [(Value.slice a118 (clip_1 ++ [clone_1]).length c119)]) (cs' := [(Value.slice a118 (clip_1 ++ [clone_1]).length c119), (Value.int .i64 l.many), (Value.int .i64 l.synced)]) (bs' := [(some b6, Obj.cells [(Value.slice none 0 0), (Value.int .i64 0), (Value.int .i64 0)].toArray 52), (some b1, Obj.cells [(Value.slice a118 (clip_1 ++ [clone_1]).length c119), (Value.int .i64 l.many), (Value.int .i64 l.synced)].toArray 52)]) (i := 1) ty22 hs121 rfl rfl rfl rfl rfl (le_lit rfl) rfl rfl rfl ?_)
   intro w122 p123 hs124
   replace f_l_records := f_l_records.step p123; replace f_b := f_b.step p123; replace f90 := f90.step p123; replace f105 := f105.step p123; replace f120 := f120.step p123; clear p123 hs121
   refine Rg_nil ?_
   refine Wp_seq ?_
   clear f_l_records f_b f90 f105
   refine Wp_reset [] [(2, (Value.pointer (some ⟨b1, 0, none⟩))), (4, (Value.pointer (some ⟨b6, 0, none⟩)))] rfl ⟨rfl, rfl, trivial⟩ fun ξ125 => ?_
   refine Wp_region ?_
   refine Rg_op rfl (op_loadA (cs := [(Value.slice a118 (clip_1 ++ [clone_1]).length c119), (Value.int .i64 l.many), (Value.int .i64 l.synced)]) (vs := [(Value.slice a118 (clip_1 ++ [clone_1]).length c119), (Value.int .i64 l.many), (Value.int .i64 l.synced)]) (i := 1) ty52 hs124 rfl rfl rfl rfl ?_)
   refine Rg_op_ (op_store (cs := [(Value.slice none 0 0), (Value.int .i64 0), (Value.int .i64 0)]) (vs := [(Value.slice a118 (clip_1 ++ [clone_1]).length c119), (Value.int .i64 l.many), (Value.int .i64 l.synced)]) (cs' := [(Value.slice a118 (clip_1 ++ [clone_1]).length c119), (Value.int .i64 l.many), (Value.int .i64 l.synced)]) (bs' := [(some b6, Obj.cells [(Value.slice a118 (clip_1 ++ [clone_1]).length c119), (Value.int .i64 l.many), (Value.int .i64 l.synced)].toArray 52), (some b1, Obj.cells [(Value.slice a118 (clip_1 ++ [clone_1]).length c119), (Value.int .i64 l.many), (Value.int .i64 l.synced)].toArray 52)]) (i := 0) ty52 hs124 rfl rfl rfl rfl rfl (le_lit rfl) rfl rfl rfl ?_)
   intro w126 p127 hs128
   replace f120 := f120.step p127; clear p127 hs124
   refine Rg_op rfl (op_assign (v := (Value.int .i64 0)) rfl ?_)
   refine Rg_nil ?_
   refine Wp_ret ?_
   have hz := step_all hs128
   replace f120 := f120.step hz
   refine ⟨_, (show Closes [] _ _ from rfl), [(Value.agg [(Value.slice a118 (clip_1 ++ [clone_1]).length c119), (Value.int .i64 l.many), (Value.int .i64 l.synced)].toArray), (Value.int .i64 0)], ⟨resA (cs := [(Value.slice a118 (clip_1 ++ [clone_1]).length c119), (Value.int .i64 l.many), (Value.int .i64 l.synced)]) (vs := [(Value.slice a118 (clip_1 ++ [clone_1]).length c119), (Value.int .i64 l.many), (Value.int .i64 l.synced)]) ty52 (i := 0) hs128 rfl rfl rfl rfl, rfl, trivial⟩, hs128.ext, ?_⟩
   exact Vr.eq (a := (vT2 (vA rXJournal) (vI .i64))) (x := ((⟨(clip_1 ++ [clone_1]), l.many, l.synced⟩ : XJournal), 0)) (mkT2 (mkA (mkVia (mk_pair (mk_sl f120) (mk_pair (mk_int r_l_many) (mk_int r_l_synced))))) ⟨rfl, (show InK .i64 0 from by decide)⟩) (Option.some.inj hm)

end Go.Fx



set_option linter.unusedVariables false
set_option linter.unusedSimpArgs false
set_option maxRecDepth 100000
set_option maxHeartbeats 0
namespace Go.Fx
open Go Go.RowKit Go.Proofs
def m34_journal_Room (l : XJournal) : Option Int :=
 (m32_journal_Check l).bind fun check_1 =>
 bif (decide (check_1 ≠ 0)) then
  some 0
 else
  (m55_journal_used l.records).bind fun used_1 =>
  some (IntKind.wrap .i64 (112 * (IntKind.wrap .i64 (l.many - used_1))))

theorem c34_journal_Room {w : World} {O : List Nat} {l : XJournal} {a_l_records : Option Addr} {c_l_records : Nat} (hO : ∀ k ∈ O, k < w.heap.size) (f_l_records : SlR (rSl rU8) w O a_l_records c_l_records l.records) (r_l_many : InK .i64 l.many) (r_l_synced : InK .i64 l.synced) {x : Int} (hm : m34_journal_Room l = some x) :
  Ok Try.prog 34 [(Value.agg [(Value.slice a_l_records l.records.length c_l_records), (Value.int .i64 l.many), (Value.int .i64 l.synced)].toArray)] w O (vI .i64) x := by
 unfold m34_journal_Room at hm
 refine Fn_of_Wp (n := 13) (xs := [.tmp 2]) Try.func34 rfl Try.ntmps34 Try.results34 rfl ?_
 have hs := St.start hO
 refine Wp_seq ?_
 refine Wp_region ?_
 refine Rg_op rfl (op_box (cs := [(Value.slice a_l_records l.records.length c_l_records), (Value.int .i64 l.many), (Value.int .i64 l.synced)]) hs rfl rfl ?_)
 intro b1 w2 _ p3 hs4
 replace f_l_records := f_l_records.step p3; clear p3
 refine Rg_op rfl (op_assign (v := (Value.int .i64 0)) rfl ?_)
 refine Rg_nil ?_
 refine Wp_seq ?_
 refine Wp_seq ?_
 refine Wp_region ?_
 refine Rg_op rfl (op_loadA (cs := [(Value.slice a_l_records l.records.length c_l_records), (Value.int .i64 l.many), (Value.int .i64 l.synced)]) (vs := [(Value.slice a_l_records l.records.length c_l_records), (Value.int .i64 l.many), (Value.int .i64 l.synced)]) (i := 0) ty52 hs4 rfl rfl rfl rfl ?_)
 replace hm := bd hm; obtain ⟨check_1, hv6, hm⟩ := hm
 refine Rg_op rfl (op_call Try.call32 (c32_journal_Check (l := l) hs4.ltw f_l_records r_l_many r_l_synced hv6) rfl ?_)
 rintro v7 w8 ⟨hx9, h10⟩
 have hs11 := hs4.call hx9
 have p12 := Step.ext (O := ks [(some b1, Obj.cells [(Value.slice a_l_records l.records.length c_l_records), (Value.int .i64 l.many), (Value.int .i64 l.synced)].toArray 52)] O) hx9
 clear hx9
 replace f_l_records := f_l_records.step p12; clear p12 hs4
 obtain ⟨rfl, r_y13⟩ := h10
 refine Rg_op rfl (op_neq rfl rfl ?_)
 refine Rg_nil ?_
 refine Wp_cond rfl (fun hc14 => ?_) (fun hc14 => ?_)
 ·
  replace hm := bif_t hm hc14
  refine Wp_seq ?_
  obtain ⟨hs15, p16⟩ := hs11.sub (bs' := []) (.cons _ List.Sublist.slnil)
  clear f_l_records
  clear p16 hs11
  refine Wp_region ?_
  refine Rg_op rfl (op_assign (v := (Value.int .i64 0)) rfl ?_)
  refine Rg_nil ?_
  refine Wp_ret ?_
  have hz := step_all hs15
  refine ⟨_, (show Closes [] _ _ from rfl), [(Value.int .i64 0)], ⟨rfl, trivial⟩, hs15.ext, ?_⟩
  exact Vr.eq (a := (vI .i64)) (x := 0) ⟨rfl, (show InK .i64 0 from by decide)⟩ (Option.some.inj hm)
 ·
  replace hm := bif_f hm hc14
  refine Wp_skip ?_
  refine Wp_seq ?_
  refine Wp_drawR (g0 := []) (m := 5) (fl := []) (TS_inv hs11) rfl (.inl rfl) rfl (by decide +kernel) ?_  -- 3
  refine Dw_eq (Value.pointer (some ⟨b1, 1, none⟩)) (fun ρ17 w18 g hle hi ht => ?_) ?_
  ·
   obtain ⟨-, hst, -⟩ := hle
   refine StepOp_plain (op_fieldAddr ty52 rfl ty3 (by decide) (ht 1 rfl) (rfl : _ = (⟨_, 1, none⟩ : Addr)) ?_)
   exact Goes.same hi rfl
  refine Dw_eq (Value.int .i64 l.many) (fun ρ20 w21 g hle hi ht => ?_) ?_
  ·
   obtain ⟨-, hst, -⟩ := hle
   have hsn := (Step.nx hi).1
   refine StepOp_plain (op_load (cs := [(Value.slice a_l_records l.records.length c_l_records), (Value.int .i64 l.many), (Value.int .i64 l.synced)]) (i := 0) ty3 hsn (ht 6 rfl) rfl rfl ?_)
   exact Goes.same hi rfl
  refine Dw_eq (Value.pointer (some ⟨b1, 0, none⟩)) (fun ρ23 w24 g hle hi ht => ?_) ?_
  ·
   obtain ⟨-, hst, -⟩ := hle
   refine StepOp_plain (op_fieldAddr ty52 rfl ty22 (by decide) (ht 1 rfl) (rfl : _ = (⟨_, 0, none⟩ : Addr)) ?_)
   exact Goes.same hi rfl
  refine Dw_eq (Value.slice a_l_records l.records.length c_l_records) (fun ρ26 w27 g hle hi ht => ?_) ?_
  ·
   obtain ⟨-, hst, -⟩ := hle
   have hsn := (Step.nx hi).1
   refine StepOp_plain (op_load (cs := [(Value.slice a_l_records l.records.length c_l_records), (Value.int .i64 l.many), (Value.int .i64 l.synced)]) (i := 0) ty22 hsn (ht 8 rfl) rfl rfl ?_)
   exact Goes.same hi rfl
  replace hm := bd hm; obtain ⟨used_1, hv32, hm⟩ := hm
  refine Dw_op (VD O [(some b1, Obj.cells [(Value.slice a_l_records l.records.length c_l_records), (Value.int .i64 l.many), (Value.int .i64 l.synced)].toArray 52)] (vI .i64) used_1) (VD.stab _ _) (fun ρ29 w30 g hle hi ht => ?_) ?_
  ·
   obtain ⟨-, hst, -⟩ := hle
   replace f_l_records := f_l_records.step hst
   refine StepOp_plain (op_call Try.call55 (c55_journal_used (O := ks (ents g ++ [(some b1, Obj.cells [(Value.slice a_l_records l.records.length c_l_records), (Value.int .i64 l.many), (Value.int .i64 l.synced)].toArray 52)]) O) (l := l.records) hi.ltw f_l_records hv32) (by simp only [List.map, Array.toList, (show ev _ (.tmp 9) = _ from (ht 9 rfl))] <;> rfl) ?_)
   rintro v33 w34 ⟨hx35, h36⟩
   exact Goes.call hi hx35 h36
  refine Dw_nil fun w42 g43 hl44 hi45 => ?_
  obtain ⟨-, hst46, -⟩ := hl44
  obtain ⟨hs48, p47⟩ := Step.nx hi45
  rintro v49 h50
  replace h50 : Vr.vd (vI .i64) _ _ _ _ := h50
  obtain ⟨rfl, r_y51⟩ := h50
  rintro _ rfl
  rintro _ rfl
  rintro _ rfl
  rintro _ rfl
  have p52 : Step (ks [(some b1, Obj.cells [(Value.slice a_l_records l.records.length c_l_records), (Value.int .i64 l.many), (Value.int .i64 l.synced)].toArray 52)] O) w8 (ks [(some b1, Obj.cells [(Value.slice a_l_records l.records.length c_l_records), (Value.int .i64 l.many), (Value.int .i64 l.synced)].toArray 52)] O) w42 := hst46.trans p47
  replace f_l_records := f_l_records.step p52; clear p52 hs11
  refine Rg_op rfl (op_subw rfl rfl ?_)
  refine Rg_op rfl (op_mulw rfl rfl ?_)
  refine Rg_op rfl (op_assign (v := (Value.int .i64 (IntKind.wrap .i64 (112 * (IntKind.wrap .i64 (l.many - used_1)))))) rfl ?_)
  refine Rg_nil ?_
  refine Wp_ret ?_
  have hz := step_all hs48
  replace f_l_records := f_l_records.step hz
  refine ⟨_, (show Closes [] _ _ from rfl), [(Value.int .i64 (IntKind.wrap .i64 (112 * (IntKind.wrap .i64 (l.many - used_1)))))], ⟨rfl, trivial⟩, hs48.ext, ?_⟩
  exact Vr.eq (a := (vI .i64)) (x := (IntKind.wrap .i64 (112 * (IntKind.wrap .i64 (l.many - used_1))))) ⟨rfl, (inK_wrap .i64 _)⟩ (Option.some.inj hm)

end Go.Fx



set_option linter.unusedVariables false
set_option linter.unusedSimpArgs false
set_option maxRecDepth 100000
set_option maxHeartbeats 0
namespace Go.Fx
open Go Go.RowKit Go.Proofs
def m43_disk_isSector (b : List UInt8) : Option Bool :=
 some (decide ((b.length : Int) = 128))

theorem c43_disk_isSector {w : World} {O : List Nat} {b : List UInt8} {a_b : Option Addr} {c_b : Nat} (hO : ∀ k ∈ O, k < w.heap.size) (f_b : SlR rU8 w O a_b c_b b) {x : Bool} (hm : m43_disk_isSector b = some x) :
  Ok Try.prog 43 [(Value.slice a_b b.length c_b)] w O vB x := by
 unfold m43_disk_isSector at hm
 refine Fn_of_Wp (n := 6) (xs := [.tmp 2]) Try.func43 rfl Try.ntmps43 Try.results43 rfl ?_
 have hs := St.start hO
 refine Wp_seq ?_
 refine Wp_region ?_
 refine Rg_op rfl (op_assign (v := (Value.bool false)) rfl ?_)
 refine Rg_nil ?_
 refine Wp_seq ?_
 refine Wp_region ?_
 refine Rg_op rfl (op_move (v := (Value.slice a_b b.length c_b)) rfl ?_)
 refine Rg_op rfl (op_len Try.underlying41 rfl ?_)
 have rl1 := inK_len f_b
 refine Rg_op rfl (op_eql rfl rfl ?_)
 refine Rg_op rfl (op_assign (v := (Value.bool (decide ((b.length : Int) = 128)))) rfl ?_)
 refine Rg_nil ?_
 refine Wp_ret ?_
 have hz := step_all hs
 replace f_b := f_b.step hz
 refine ⟨_, (show Closes [] _ _ from rfl), [(Value.bool (decide ((b.length : Int) = 128)))], ⟨rfl, trivial⟩, hs.ext, ?_⟩
 exact Vr.eq (a := vB) (x := (decide ((b.length : Int) = 128))) rfl (Option.some.inj hm)

end Go.Fx



set_option linter.unusedVariables false
set_option linter.unusedSimpArgs false
set_option maxRecDepth 100000
set_option maxHeartbeats 0
namespace Go.Fx
open Go Go.RowKit Go.Proofs
def m42_disk_Check_1 (w_ : XWrite) (fv0_ : Int) : Option Bool :=
 bif (decide (w_.at_ < 0)) then
  some true
 else
  bif (decide (fv0_ ≤ w_.at_)) then
   some true
  else
   (m43_disk_isSector w_.data).bind fun issector_1 =>
   some (!issector_1)

theorem c42_disk_Check_1 {w : World} {O : List Nat} {w_ : XWrite} {fv0_ : Int} {a_w__data : Option Addr} {c_w__data : Nat} {p_fv0_ : Addr} (hO : ∀ k ∈ O, k < w.heap.size) (r_w__at_ : InK .i64 w_.at_) (f_w__data : SlR rU8 w O a_w__data c_w__data w_.data) (f_fv0_ : PtR (rInt .i64) w O p_fv0_ fv0_) {x : Bool} (hm : m42_disk_Check_1 w_ fv0_ = some x) :
  Ok Try.prog 42 [(Value.agg [(Value.int .i64 w_.at_), (Value.slice a_w__data w_.data.length c_w__data)].toArray), (Value.pointer (some p_fv0_))] w O vB x := by
 unfold m42_disk_Check_1 at hm
 refine Fn_of_Wp (n := 19) (xs := [.tmp 3]) Try.func42 rfl Try.ntmps42 Try.results42 rfl ?_
 have hs := St.start hO
 refine Wp_seq ?_
 refine Wp_region ?_
 refine Rg_op rfl (op_box (cs := [(Value.int .i64 w_.at_), (Value.slice a_w__data w_.data.length c_w__data)]) hs rfl rfl ?_)
 intro b1 w2 _ p3 hs4
 replace f_w__data := f_w__data.step p3; replace f_fv0_ := f_fv0_.step p3; clear p3
 refine Rg_op rfl (op_assign (v := (Value.bool false)) rfl ?_)
 refine Rg_nil ?_
 refine Wp_seq ?_
 refine Wp_region ?_
 refine Rg_op rfl (op_fieldAddr ty73 rfl ty3 (by decide) rfl (rfl : _ = (⟨_, 0, none⟩ : Addr)) ?_)
 refine Rg_op rfl (op_load (cs := [(Value.int .i64 w_.at_), (Value.slice a_w__data w_.data.length c_w__data)]) (i := 0) ty3 hs4 rfl rfl rfl ?_)
 refine Rg_op rfl (op_lss rfl rfl ?_)
 refine Rg_op rfl (op_move (v := (Value.bool (decide (w_.at_ < 0)))) rfl ?_)
 refine Rg_case (fun hg6 => ?_) (fun hg6 => ?_)
 ·
  replace hm := bif_t hm hg6
  iterate 4 refine Rg_opx rfl (asB_ne rfl rfl) rfl ?_
  refine Rg_op rfl (op_pick_t (v := (Value.bool true)) rfl rfl ?_)
  refine Rg_op rfl (op_move (v := (Value.bool true)) rfl ?_)
  iterate 4 refine Rg_opx rfl (asB_ne rfl rfl) rfl ?_
  refine Rg_op rfl (op_pick_t (v := (Value.bool true)) rfl rfl ?_)
  refine Rg_op rfl (op_assign (v := (Value.bool true)) rfl ?_)
  refine Rg_nil ?_
  refine Wp_ret ?_
  have hz := step_all hs4
  replace f_w__data := f_w__data.step hz; replace f_fv0_ := f_fv0_.step hz
  refine ⟨_, (show Closes [] _ _ from rfl), [(Value.bool true)], ⟨rfl, trivial⟩, hs4.ext, ?_⟩
  exact Vr.eq (a := vB) (x := true) rfl (Option.some.inj hm)
 ·
  replace hm := bif_f hm hg6
  refine Rg_opg rfl rfl rfl (op_fieldAddr ty73 rfl ty3 (by decide) rfl (rfl : _ = (⟨_, 0, none⟩ : Addr)) ?_)
  refine Rg_opg rfl rfl rfl (op_load (cs := [(Value.int .i64 w_.at_), (Value.slice a_w__data w_.data.length c_w__data)]) (i := 0) ty3 hs4 rfl rfl rfl ?_)
  refine Rg_opg rfl rfl rfl (op_loadP ty3 rfl f_fv0_ rfl ?_)
  intro v7 h8
  obtain ⟨rfl, r_y9⟩ := un_int h8
  refine Rg_opg rfl rfl rfl (op_geq rfl rfl ?_)
  refine Rg_op rfl (op_pick_f (v := (Value.bool (decide (fv0_ ≤ w_.at_)))) rfl rfl ?_)
  refine Rg_op rfl (op_move (v := (Value.bool (decide (fv0_ ≤ w_.at_)))) rfl ?_)
  refine Rg_case (fun hg10 => ?_) (fun hg10 => ?_)
  ·
   replace hm := bif_t hm hg10
   iterate 4 refine Rg_opx rfl (asB_ne rfl rfl) rfl ?_
   refine Rg_op rfl (op_pick_t (v := (Value.bool true)) rfl rfl ?_)
   refine Rg_op rfl (op_assign (v := (Value.bool true)) rfl ?_)
   refine Rg_nil ?_
   refine Wp_ret ?_
   have hz := step_all hs4
   replace f_w__data := f_w__data.step hz; replace f_fv0_ := f_fv0_.step hz
   refine ⟨_, (show Closes [] _ _ from rfl), [(Value.bool true)], ⟨rfl, trivial⟩, hs4.ext, ?_⟩
   exact Vr.eq (a := vB) (x := true) rfl (Option.some.inj hm)
  ·
   replace hm := bif_f hm hg10
   refine Rg_opg rfl rfl rfl (op_fieldAddr ty73 rfl ty41 (by decide) rfl (rfl : _ = (⟨_, 1, none⟩ : Addr)) ?_)
   refine Rg_opg rfl rfl rfl (op_load (cs := [(Value.int .i64 w_.at_), (Value.slice a_w__data w_.data.length c_w__data)]) (i := 0) ty41 hs4 rfl rfl rfl ?_)
   replace hm := bd hm; obtain ⟨issector_1, hv11, hm⟩ := hm
   refine Rg_opg rfl rfl rfl (op_call Try.call43 (c43_disk_isSector (b := w_.data) hs4.ltw f_w__data hv11) rfl ?_)
   rintro v12 w13 ⟨hx14, h15⟩
   have hs16 := hs4.call hx14
   have p17 := Step.ext (O := ks [(some b1, Obj.cells [(Value.int .i64 w_.at_), (Value.slice a_w__data w_.data.length c_w__data)].toArray 73)] O) hx14
   clear hx14
   replace f_w__data := f_w__data.step p17; replace f_fv0_ := f_fv0_.step p17; clear p17 hs4
   obtain rfl := h15
   refine Rg_opg rfl rfl rfl (op_not rfl ?_)
   refine Rg_op rfl (op_pick_f (v := (Value.bool (!issector_1))) rfl rfl ?_)
   refine Rg_op rfl (op_assign (v := (Value.bool (!issector_1))) rfl ?_)
   refine Rg_nil ?_
   refine Wp_ret ?_
   have hz := step_all hs16
   replace f_w__data := f_w__data.step hz; replace f_fv0_ := f_fv0_.step hz
   refine ⟨_, (show Closes [] _ _ from rfl), [(Value.bool (!issector_1))], ⟨rfl, trivial⟩, hs16.ext, ?_⟩
   exact Vr.eq (a := vB) (x := (!issector_1)) rfl (Option.some.inj hm)

end Go.Fx



set_option linter.unusedVariables false
set_option linter.unusedSimpArgs false
set_option maxRecDepth 100000
set_option maxHeartbeats 0
namespace Go.Fx
open Go Go.RowKit Go.Proofs
def m65_api_Write__B0 (s : List XWrite) (f : XWrite → Option Bool) (sf4 : Int → Option Int) (v_1 : Int) : Option Int :=
 bif (decide (v_1 < (s.length : Int))) then
  ck ((0 : Int) ≤ v_1 ∧ v_1 < (s.length : Int)) <|
  (f (s.getD v_1.toNat default)).bind fun r_1 =>
  bif r_1 then
   some v_1
  else
   sf4 (IntKind.wrap .i64 (v_1 + 1))
 else
  some (-1)

def m65_api_Write_ (s : List XWrite) (f : XWrite → Option Bool) : Option Int :=
 loop1 (m65_api_Write__B0 s f) (((s.length : Int) - 0).toNat + 1) 0

theorem c65_api_Write_ {w : World} {O : List Nat} {s : List XWrite} {f : XWrite → Option Bool} {a_s : Option Addr} {c_s : Nat} {v_f : Value} (hO : ∀ k ∈ O, k < w.heap.size) (f_s : SlR rXWrite w O a_s c_s s) (F_f : CallsTo1 Try.prog w O v_f (vA rXWrite) vB f) {x : Int} (hm : m65_api_Write_ s f = some x) :
  Ok Try.prog 65 [(Value.slice a_s s.length c_s), v_f] w O (vI .i64) x := by
 unfold m65_api_Write_ at hm
 refine Fn_of_Wp (n := 19) (xs := [.tmp 4]) Try.func65 rfl Try.ntmps65 Try.results65 rfl ?_
 have hs := St.start hO
 refine Wp_seq ?_
 refine Wp_region ?_
 refine Rg_op rfl (op_assign (v := (Value.int .i64 0)) rfl ?_)
 refine Rg_nil ?_
 refine Wp_seq ?_
 refine Wp_seq ?_
 refine Wp_region ?_
 refine Rg_op rfl (op_move (v := (Value.slice a_s s.length c_s)) rfl ?_)
 refine Rg_op rfl (op_len Try.underlying23 rfl ?_)
 have rl1 := inK_len f_s
 refine Rg_op rfl (op_move (v := (Value.int .i64 0)) rfl ?_)
 refine Rg_nil ?_
 refine Wp_block ?_
 refine Wp_reset [] [(0, (Value.slice a_s s.length c_s)), (1, v_f), (7, (Value.int .i64 (s.length : Int))), (8, (Value.int .i64 0))] rfl ⟨rfl, rfl, rfl, rfl, trivial⟩ fun ξ3 => ?_
 refine Wp_loopM [4, 5, 8, 9, 10, 11, 12, 13, 14, 15, 16, 17, 18] (fun m fr w' => ∃ (v_1 : Int) (Ebs : Ents), Ebs = [] ∧ fr [] [(8, (Value.int .i64 v_1))] ∧ Step (ks [] O) w (ks Ebs O) w' ∧ St ⟨w, [], []⟩ O w' Ebs ∧ InK .i64 v_1 ∧ loop1 (m65_api_Write__B0 s f) m v_1 = some x) (((s.length : Int) - 0).toNat + 1) ⟨0, _, rfl, ⟨Out.refl _ _, rfl, rfl, trivial⟩, Step.refl _ _, hs, (show InK .i64 0 from by decide), hm⟩ ?_ ?_
 · rintro _ _ ⟨_, _, _, _, _, _, _, hm⟩; exact loop1_z hm
 ·
  rintro m7 K6 hK6 ρ12 w8 ⟨v_1, Ebs, hEbs, hfr11, hst10, hs9, r_y2, hm⟩
  obtain ⟨sf4, hsf5, hm⟩ := loop1_s hm; unfold m65_api_Write__B0 at hm
  subst hEbs; rw [hfr11.eq]; clear hfr11
  replace f_s := f_s.step hst10; replace F_f := F_f.step hst10
  have ch13 := hst10
  refine Wp_seq ?_
  refine Wp_region ?_
  refine Rg_op rfl (op_lss rfl rfl ?_)
  refine Rg_nil ?_
  refine Wp_seq ?_
  refine Wp_cond rfl (fun hc14 => ?_) (fun hc14 => ?_)
  ·
   replace hm := bif_t hm hc14
   refine Wp_skip ?_
   refine Wp_seq ?_
   refine Wp_block ?_
   refine Wp_seq ?_
   refine Wp_region ?_
   refine Rg_op rfl (op_move (v := (Value.int .i64 v_1)) rfl ?_)
   refine Rg_op rfl (op_assign (v := (Value.int .i64 v_1)) rfl ?_)
   refine Rg_nil ?_
   refine Wp_seq ?_
   refine Wp_region ?_
   refine Rg_op rfl (op_move (v := v_f) rfl ?_)
   refine Rg_op rfl (op_move (v := (Value.slice a_s s.length c_s)) rfl ?_)
   refine Rg_op rfl (op_move (v := (Value.int .i64 v_1)) rfl ?_)
   replace hm := ck_some hm; obtain ⟨hc15, hm⟩ := hm
   refine Rg_op rfl (op_indexAddr (q := rXWrite) ty23 ty73 rfl rfl f_s rfl hc15.1 hc15.2 ?_)
   intro p16 f17
   refine Rg_op rfl (op_loadPA ty73 rfl f17 rfl ?_)
   intro vs18 h19
   obtain ⟨_, _, rfl, ⟨rfl, r_y20_at_⟩, ⟨a_y20_data, c_y20_data, rfl, f_y20_data⟩⟩ := h19
   replace hm := bd hm; obtain ⟨r_1, hv21, hm⟩ := hm
   refine Rg_op rfl (op_callF rfl (F_f.call hs9.ltw (mkA (mkVia (mk_pair (mk_int r_y20_at_) (mk_sl f_y20_data)))) hv21) rfl ?_)
   rintro v22 w23 ⟨hx24, h25⟩
   have hs26 := hs9.call hx24
   have p27 := Step.ext (O := ks [] O) hx24
   clear hx24
   replace f_s := f_s.step p27; replace F_f := F_f.step p27; replace f17 := f17.step p27; replace f_y20_data := f_y20_data.step p27; replace ch13 := ch13.trans p27; clear p27 hs9
   obtain rfl := h25
   refine Rg_nil ?_
   refine Wp_cond rfl (fun hc29 => ?_) (fun hc29 => ?_)
   ·
    replace hm := bif_t hm hc29
    refine Wp_seq ?_
    clear f_s F_f f17 f_y20_data
    refine Wp_region ?_
    refine Rg_op rfl (op_move (v := (Value.int .i64 v_1)) rfl ?_)
    refine Rg_op rfl (op_assign (v := (Value.int .i64 v_1)) rfl ?_)
    refine Rg_nil ?_
    refine Wp_ret ?_
    have hz := step_all hs26
    refine ⟨_, (show Closes [] _ _ from rfl), [(Value.int .i64 v_1)], ⟨rfl, trivial⟩, hs26.ext, ?_⟩
    exact Vr.eq (a := (vI .i64)) (x := v_1) ⟨rfl, r_y2⟩ (Option.some.inj hm)
   ·
    replace hm := bif_f hm hc29
    refine Wp_skip ?_
    clear f17 f_y20_data
    refine Wp_region ?_
    refine Rg_op rfl (op_addw rfl rfl ?_)
    refine Rg_op rfl (op_move (v := (Value.int .i64 (IntKind.wrap .i64 (v_1 + 1)))) rfl ?_)
    refine Rg_nil ?_
    exact hK6 _ _ ⟨(IntKind.wrap .i64 (v_1 + 1)), _, rfl, ⟨(by repeat (first | with_reducible exact Out.refl _ _ | refine Out.upd ?_ rfl | refine Out.updL ?_ rfl | refine Out.mix' ?_ rfl | exact Out.refl _ _)), rfl, rfl, trivial⟩, ch13, hs26, (inK_wrap .i64 _), jnE1 hsf5 hm⟩
  ·
   replace hm := bif_f hm hc14
   refine Wp_exit ?_
   refine Wp_seq ?_
   clear f_s F_f
   refine Wp_region ?_
   refine Rg_op rfl (op_assign (v := (Value.int .i64 (-1))) rfl ?_)
   refine Rg_nil ?_
   refine Wp_ret ?_
   have hz := step_all hs9
   refine ⟨_, (show Closes [] _ _ from rfl), [(Value.int .i64 (-1))], ⟨rfl, trivial⟩, hs9.ext, ?_⟩
   exact Vr.eq (a := (vI .i64)) (x := (-1)) ⟨rfl, (show InK .i64 (-1) from by decide)⟩ (Option.some.inj hm)

end Go.Fx



set_option linter.unusedVariables false
set_option linter.unusedSimpArgs false
set_option maxRecDepth 100000
set_option maxHeartbeats 0
namespace Go.Fx
open Go Go.RowKit Go.Proofs
def m44_api_Write_ (s : List XWrite) (f : XWrite → Option Bool) : Option Bool :=
 (m65_api_Write_ s f).bind fun write_1 =>
 some (decide (0 ≤ write_1))

theorem c44_api_Write_ {w : World} {O : List Nat} {s : List XWrite} {f : XWrite → Option Bool} {a_s : Option Addr} {c_s : Nat} {v_f : Value} (hO : ∀ k ∈ O, k < w.heap.size) (f_s : SlR rXWrite w O a_s c_s s) (F_f : CallsTo1 Try.prog w O v_f (vA rXWrite) vB f) {x : Bool} (hm : m44_api_Write_ s f = some x) :
  Ok Try.prog 44 [(Value.slice a_s s.length c_s), v_f] w O vB x := by
 unfold m44_api_Write_ at hm
 refine Fn_of_Wp (n := 9) (xs := [.tmp 4]) Try.func44 rfl Try.ntmps44 Try.results44 rfl ?_
 have hs := St.start hO
 refine Wp_seq ?_
 refine Wp_region ?_
 refine Rg_op rfl (op_assign (v := (Value.bool false)) rfl ?_)
 refine Rg_nil ?_
 refine Wp_seq ?_
 refine Wp_region ?_
 refine Rg_op rfl (op_move (v := (Value.slice a_s s.length c_s)) rfl ?_)
 refine Rg_op rfl (op_move (v := v_f) rfl ?_)
 replace hm := bd hm; obtain ⟨write_1, hv1, hm⟩ := hm
 refine Rg_op rfl (op_call Try.call65 (c65_api_Write_ (s := s) (f := f) hs.ltw f_s F_f hv1) rfl ?_)
 rintro v2 w3 ⟨hx4, h5⟩
 have hs6 := hs.call hx4
 have p7 := Step.ext (O := ks [] O) hx4
 clear hx4
 replace f_s := f_s.step p7; replace F_f := F_f.step p7; clear p7
 obtain ⟨rfl, r_y8⟩ := h5
 refine Rg_op rfl (op_geq rfl rfl ?_)
 refine Rg_op rfl (op_assign (v := (Value.bool (decide (0 ≤ write_1)))) rfl ?_)
 refine Rg_nil ?_
 refine Wp_ret ?_
 have hz := step_all hs6
 replace f_s := f_s.step hz; replace F_f := F_f.step hz
 refine ⟨_, (show Closes [] _ _ from rfl), [(Value.bool (decide (0 ≤ write_1)))], ⟨rfl, trivial⟩, hs6.ext, ?_⟩
 exact Vr.eq (a := vB) (x := (decide (0 ≤ write_1))) rfl (Option.some.inj hm)

end Go.Fx



set_option linter.unusedVariables false
set_option linter.unusedSimpArgs false
set_option maxRecDepth 100000
set_option maxHeartbeats 0
namespace Go.Fx
open Go Go.RowKit Go.Proofs
def m66_slices_IndexFuncbyte_byte__B0 (s : List (List UInt8)) (f : (List UInt8) → Option Bool) (sf4 : Int → Option Int) (v_1 : Int) : Option Int :=
 bif (decide (v_1 < (s.length : Int))) then
  ck ((0 : Int) ≤ v_1 ∧ v_1 < (s.length : Int)) <|
  (f (s.getD v_1.toNat default)).bind fun r_1 =>
  bif r_1 then
   some v_1
  else
   sf4 (IntKind.wrap .i64 (v_1 + 1))
 else
  some (-1)

def m66_slices_IndexFuncbyte_byte_ (s : List (List UInt8)) (f : (List UInt8) → Option Bool) : Option Int :=
 loop1 (m66_slices_IndexFuncbyte_byte__B0 s f) (((s.length : Int) - 0).toNat + 1) 0

theorem c66_slices_IndexFuncbyte_byte_ {w : World} {O : List Nat} {s : List (List UInt8)} {f : (List UInt8) → Option Bool} {a_s : Option Addr} {c_s : Nat} {v_f : Value} (hO : ∀ k ∈ O, k < w.heap.size) (f_s : SlR (rSl rU8) w O a_s c_s s) (F_f : CallsTo1 Try.prog w O v_f (vC (rSl rU8)) vB f) {x : Int} (hm : m66_slices_IndexFuncbyte_byte_ s f = some x) :
  Ok Try.prog 66 [(Value.slice a_s s.length c_s), v_f] w O (vI .i64) x := by
 unfold m66_slices_IndexFuncbyte_byte_ at hm
 refine Fn_of_Wp (n := 19) (xs := [.tmp 4]) Try.func66 rfl Try.ntmps66 Try.results66 rfl ?_
 have hs := St.start hO
 refine Wp_seq ?_
 refine Wp_region ?_
 refine Rg_op rfl (op_assign (v := (Value.int .i64 0)) rfl ?_)
 refine Rg_nil ?_
 refine Wp_seq ?_
 refine Wp_seq ?_
 refine Wp_region ?_
 refine Rg_op rfl (op_move (v := (Value.slice a_s s.length c_s)) rfl ?_)
 refine Rg_op rfl (op_len Try.underlying22 rfl ?_)
 have rl1 := inK_len f_s
 refine Rg_op rfl (op_move (v := (Value.int .i64 0)) rfl ?_)
 refine Rg_nil ?_
 refine Wp_block ?_
 refine Wp_reset [] [(0, (Value.slice a_s s.length c_s)), (1, v_f), (7, (Value.int .i64 (s.length : Int))), (8, (Value.int .i64 0))] rfl ⟨rfl, rfl, rfl, rfl, trivial⟩ fun ξ3 => ?_
 refine Wp_loopM [4, 5, 8, 9, 10, 11, 12, 13, 14, 15, 16, 17, 18] (fun m fr w' => ∃ (v_1 : Int) (Ebs : Ents), Ebs = [] ∧ fr [] [(8, (Value.int .i64 v_1))] ∧ Step (ks [] O) w (ks Ebs O) w' ∧ St ⟨w, [], []⟩ O w' Ebs ∧ InK .i64 v_1 ∧ loop1 (m66_slices_IndexFuncbyte_byte__B0 s f) m v_1 = some x) (((s.length : Int) - 0).toNat + 1) ⟨0, _, rfl, ⟨Out.refl _ _, rfl, rfl, trivial⟩, Step.refl _ _, hs, (show InK .i64 0 from by decide), hm⟩ ?_ ?_
 · rintro _ _ ⟨_, _, _, _, _, _, _, hm⟩; exact loop1_z hm
 ·
  rintro m7 K6 hK6 ρ12 w8 ⟨v_1, Ebs, hEbs, hfr11, hst10, hs9, r_y2, hm⟩
  obtain ⟨sf4, hsf5, hm⟩ := loop1_s hm; unfold m66_slices_IndexFuncbyte_byte__B0 at hm
  subst hEbs; rw [hfr11.eq]; clear hfr11
  replace f_s := f_s.step hst10; replace F_f := F_f.step hst10
  have ch13 := hst10
  refine Wp_seq ?_
  refine Wp_region ?_
  refine Rg_op rfl (op_lss rfl rfl ?_)
  refine Rg_nil ?_
  refine Wp_seq ?_
  refine Wp_cond rfl (fun hc14 => ?_) (fun hc14 => ?_)
  ·
   replace hm := bif_t hm hc14
   refine Wp_skip ?_
   refine Wp_seq ?_
   refine Wp_block ?_
   refine Wp_seq ?_
   refine Wp_region ?_
   refine Rg_op rfl (op_move (v := (Value.int .i64 v_1)) rfl ?_)
   refine Rg_op rfl (op_assign (v := (Value.int .i64 v_1)) rfl ?_)
   refine Rg_nil ?_
   refine Wp_seq ?_
   refine Wp_region ?_
   refine Rg_op rfl (op_move (v := v_f) rfl ?_)
   refine Rg_op rfl (op_move (v := (Value.slice a_s s.length c_s)) rfl ?_)
   refine Rg_op rfl (op_move (v := (Value.int .i64 v_1)) rfl ?_)
   replace hm := ck_some hm; obtain ⟨hc15, hm⟩ := hm
   refine Rg_op rfl (op_indexAddr (q := (rSl rU8)) ty22 ty41 rfl rfl f_s rfl hc15.1 hc15.2 ?_)
   intro p16 f17
   refine Rg_op rfl (op_loadP ty41 rfl f17 rfl ?_)
   intro v18 h19
   obtain ⟨a_y20, c_y20, rfl, f_y20⟩ := un_sl h19
   replace hm := bd hm; obtain ⟨r_1, hv21, hm⟩ := hm
   refine Rg_op rfl (op_callF rfl (F_f.call hs9.ltw (mkC (mk_sl f_y20)) hv21) rfl ?_)
   rintro v22 w23 ⟨hx24, h25⟩
   have hs26 := hs9.call hx24
   have p27 := Step.ext (O := ks [] O) hx24
   clear hx24
   replace f_s := f_s.step p27; replace F_f := F_f.step p27; replace f17 := f17.step p27; replace f_y20 := f_y20.step p27; replace ch13 := ch13.trans p27; clear p27 hs9
   obtain rfl := h25
   refine Rg_nil ?_
   refine Wp_cond rfl (fun hc29 => ?_) (fun hc29 => ?_)
   ·
    replace hm := bif_t hm hc29
    refine Wp_seq ?_
    clear f_s F_f f17 f_y20
    refine Wp_region ?_
    refine Rg_op rfl (op_move (v := (Value.int .i64 v_1)) rfl ?_)
    refine Rg_op rfl (op_assign (v := (Value.int .i64 v_1)) rfl ?_)
    refine Rg_nil ?_
    refine Wp_ret ?_
    have hz := step_all hs26
    refine ⟨_, (show Closes [] _ _ from rfl), [(Value.int .i64 v_1)], ⟨rfl, trivial⟩, hs26.ext, ?_⟩
    exact Vr.eq (a := (vI .i64)) (x := v_1) ⟨rfl, r_y2⟩ (Option.some.inj hm)
   ·
    replace hm := bif_f hm hc29
    refine Wp_skip ?_
    clear f17 f_y20
    refine Wp_region ?_
    refine Rg_op rfl (op_addw rfl rfl ?_)
    refine Rg_op rfl (op_move (v := (Value.int .i64 (IntKind.wrap .i64 (v_1 + 1)))) rfl ?_)
    refine Rg_nil ?_
    exact hK6 _ _ ⟨(IntKind.wrap .i64 (v_1 + 1)), _, rfl, ⟨(by repeat (first | with_reducible exact Out.refl _ _ | refine Out.upd ?_ rfl | refine Out.updL ?_ rfl | refine Out.mix' ?_ rfl | exact Out.refl _ _)), rfl, rfl, trivial⟩, ch13, hs26, (inK_wrap .i64 _), jnE1 hsf5 hm⟩
  ·
   replace hm := bif_f hm hc14
   refine Wp_exit ?_
   refine Wp_seq ?_
   clear f_s F_f
   refine Wp_region ?_
   refine Rg_op rfl (op_assign (v := (Value.int .i64 (-1))) rfl ?_)
   refine Rg_nil ?_
   refine Wp_ret ?_
   have hz := step_all hs9
   refine ⟨_, (show Closes [] _ _ from rfl), [(Value.int .i64 (-1))], ⟨rfl, trivial⟩, hs9.ext, ?_⟩
   exact Vr.eq (a := (vI .i64)) (x := (-1)) ⟨rfl, (show InK .i64 (-1) from by decide)⟩ (Option.some.inj hm)

end Go.Fx



set_option linter.unusedVariables false
set_option linter.unusedSimpArgs false
set_option maxRecDepth 100000
set_option maxHeartbeats 0
namespace Go.Fx
open Go Go.RowKit Go.Proofs
def m45_slices_ContainsFuncbyte_byte_ (s : List (List UInt8)) (f : (List UInt8) → Option Bool) : Option Bool :=
 (m66_slices_IndexFuncbyte_byte_ s f).bind fun indexfunc_1 =>
 some (decide (0 ≤ indexfunc_1))

theorem c45_slices_ContainsFuncbyte_byte_ {w : World} {O : List Nat} {s : List (List UInt8)} {f : (List UInt8) → Option Bool} {a_s : Option Addr} {c_s : Nat} {v_f : Value} (hO : ∀ k ∈ O, k < w.heap.size) (f_s : SlR (rSl rU8) w O a_s c_s s) (F_f : CallsTo1 Try.prog w O v_f (vC (rSl rU8)) vB f) {x : Bool} (hm : m45_slices_ContainsFuncbyte_byte_ s f = some x) :
  Ok Try.prog 45 [(Value.slice a_s s.length c_s), v_f] w O vB x := by
 unfold m45_slices_ContainsFuncbyte_byte_ at hm
 refine Fn_of_Wp (n := 9) (xs := [.tmp 4]) Try.func45 rfl Try.ntmps45 Try.results45 rfl ?_
 have hs := St.start hO
 refine Wp_seq ?_
 refine Wp_region ?_
 refine Rg_op rfl (op_assign (v := (Value.bool false)) rfl ?_)
 refine Rg_nil ?_
 refine Wp_seq ?_
 refine Wp_region ?_
 refine Rg_op rfl (op_move (v := (Value.slice a_s s.length c_s)) rfl ?_)
 refine Rg_op rfl (op_move (v := v_f) rfl ?_)
 replace hm := bd hm; obtain ⟨indexfunc_1, hv1, hm⟩ := hm
 refine Rg_op rfl (op_call Try.call66 (c66_slices_IndexFuncbyte_byte_ (s := s) (f := f) hs.ltw f_s F_f hv1) rfl ?_)
 rintro v2 w3 ⟨hx4, h5⟩
 have hs6 := hs.call hx4
 have p7 := Step.ext (O := ks [] O) hx4
 clear hx4
 replace f_s := f_s.step p7; replace F_f := F_f.step p7; clear p7
 obtain ⟨rfl, r_y8⟩ := h5
 refine Rg_op rfl (op_geq rfl rfl ?_)
 refine Rg_op rfl (op_assign (v := (Value.bool (decide (0 ≤ indexfunc_1)))) rfl ?_)
 refine Rg_nil ?_
 refine Wp_ret ?_
 have hz := step_all hs6
 replace f_s := f_s.step hz; replace F_f := F_f.step hz
 refine ⟨_, (show Closes [] _ _ from rfl), [(Value.bool (decide (0 ≤ indexfunc_1)))], ⟨rfl, trivial⟩, hs6.ext, ?_⟩
 exact Vr.eq (a := vB) (x := (decide (0 ≤ indexfunc_1))) rfl (Option.some.inj hm)

end Go.Fx



set_option linter.unusedVariables false
set_option linter.unusedSimpArgs false
set_option maxRecDepth 100000
set_option maxHeartbeats 0
namespace Go.Fx
open Go Go.RowKit Go.Proofs
def m46_disk_Check_2 (b : List UInt8) : Option Bool :=
 (m43_disk_isSector b).bind fun issector_1 =>
 some (!issector_1)

theorem c46_disk_Check_2 {w : World} {O : List Nat} {b : List UInt8} {a_b : Option Addr} {c_b : Nat} (hO : ∀ k ∈ O, k < w.heap.size) (f_b : SlR rU8 w O a_b c_b b) {x : Bool} (hm : m46_disk_Check_2 b = some x) :
  Ok Try.prog 46 [(Value.slice a_b b.length c_b)] w O vB x := by
 unfold m46_disk_Check_2 at hm
 refine Fn_of_Wp (n := 6) (xs := [.tmp 2]) Try.func46 rfl Try.ntmps46 Try.results46 rfl ?_
 have hs := St.start hO
 refine Wp_seq ?_
 refine Wp_region ?_
 refine Rg_op rfl (op_assign (v := (Value.bool false)) rfl ?_)
 refine Rg_nil ?_
 refine Wp_seq ?_
 refine Wp_region ?_
 refine Rg_op rfl (op_move (v := (Value.slice a_b b.length c_b)) rfl ?_)
 replace hm := bd hm; obtain ⟨issector_1, hv1, hm⟩ := hm
 refine Rg_op rfl (op_call Try.call43 (c43_disk_isSector (b := b) hs.ltw f_b hv1) rfl ?_)
 rintro v2 w3 ⟨hx4, h5⟩
 have hs6 := hs.call hx4
 have p7 := Step.ext (O := ks [] O) hx4
 clear hx4
 replace f_b := f_b.step p7; clear p7
 obtain rfl := h5
 refine Rg_op rfl (op_not rfl ?_)
 refine Rg_op rfl (op_assign (v := (Value.bool (!issector_1))) rfl ?_)
 refine Rg_nil ?_
 refine Wp_ret ?_
 have hz := step_all hs6
 replace f_b := f_b.step hz
 refine ⟨_, (show Closes [] _ _ from rfl), [(Value.bool (!issector_1))], ⟨rfl, trivial⟩, hs6.ext, ?_⟩
 exact Vr.eq (a := vB) (x := (!issector_1)) rfl (Option.some.inj hm)

end Go.Fx



set_option linter.unusedVariables false
set_option linter.unusedSimpArgs false
set_option maxRecDepth 100000
set_option maxHeartbeats 0
namespace Go.Fx
open Go Go.RowKit Go.Proofs
def m18_disk_Check (d : XDisk) : Option Int :=
 jn (fun (v_1 : Bool) =>
  bif v_1 then
   some 440
  else
   (m45_slices_ContainsFuncbyte_byte_ d.sectors (fun x53 => m46_disk_Check_2 x53)).bind fun containsfunc_1 =>
   bif containsfunc_1 then
    some 440
   else
    some 0)
 (fun k31 =>
  bif (decide ((d.sectors.length : Int) < 1)) then
   k31 true
  else
   bif (decide (4096 < (d.sectors.length : Int))) then
    k31 true
   else
    bif (decide (4096 < (d.pending.length : Int))) then
     k31 true
    else
     bif (decide (d.left < (-1))) then
      k31 true
     else
      bif (decide (65536 < d.left)) then
       k31 true
      else
       (m44_api_Write_ d.pending (fun x18 => m42_disk_Check_1 x18 (d.sectors.length : Int))).bind fun write_1 =>
       k31 write_1)

theorem c18_disk_Check {w : World} {O : List Nat} {d : XDisk} {a_d_sectors : Option Addr} {c_d_sectors : Nat} {a_d_pending : Option Addr} {c_d_pending : Nat} (hO : ∀ k ∈ O, k < w.heap.size) (f_d_sectors : SlR (rSl rU8) w O a_d_sectors c_d_sectors d.sectors) (f_d_pending : SlR rXWrite w O a_d_pending c_d_pending d.pending) (r_d_left : InK .i64 d.left) {x : Int} (hm : m18_disk_Check d = some x) :
  Ok Try.prog 18 [(Value.agg [(Value.slice a_d_sectors d.sectors.length c_d_sectors), (Value.slice a_d_pending d.pending.length c_d_pending), (Value.int .i64 d.left), (Value.bool d.stopped)].toArray)] w O (vI .i64) x := by
 unfold m18_disk_Check at hm
 refine Fn_of_Wp (n := 40) (xs := [.tmp 2]) Try.func18 rfl Try.ntmps18 Try.results18 rfl ?_
 have hs := St.start hO
 refine Wp_seq ?_
 refine Wp_region ?_
 refine Rg_op rfl (op_box (cs := [(Value.slice a_d_sectors d.sectors.length c_d_sectors), (Value.slice a_d_pending d.pending.length c_d_pending), (Value.int .i64 d.left), (Value.bool d.stopped)]) hs rfl rfl ?_)
 intro b1 w2 _ p3 hs4
 replace f_d_sectors := f_d_sectors.step p3; replace f_d_pending := f_d_pending.step p3; clear p3
 refine Rg_op rfl (op_assign (v := (Value.int .i64 0)) rfl ?_)
 refine Rg_nil ?_
 refine Wp_seq ?_
 refine Wp_region ?_
 refine Rg_op rfl (op_fieldAddr ty25 rfl ty22 (by decide) rfl (rfl : _ = (⟨_, 0, none⟩ : Addr)) ?_)
 refine Rg_op rfl (op_load (cs := [(Value.slice a_d_sectors d.sectors.length c_d_sectors), (Value.slice a_d_pending d.pending.length c_d_pending), (Value.int .i64 d.left), (Value.bool d.stopped)]) (i := 0) ty22 hs4 rfl rfl rfl ?_)
 refine Rg_op rfl (op_len Try.underlying22 rfl ?_)
 have rl6 := inK_len f_d_sectors
 refine Rg_op rfl (op_alloc ty3 hs4 ?_)
 intro b7 w8 _ p9 hs10
 replace f_d_sectors := f_d_sectors.step p9; replace f_d_pending := f_d_pending.step p9; clear p9 hs4
 refine Rg_op_ (op_store (cs := [(Value.int .i64 0)]) (vs := [(Value.int .i64 (d.sectors.length : Int))]) (cs' := [(Value.int .i64 (d.sectors.length : Int))]) (bs' := [(some b7, Obj.cells [(Value.int .i64 (d.sectors.length : Int))].toArray 3), (some b1, Obj.cells [(Value.slice a_d_sectors d.sectors.length c_d_sectors), (Value.slice a_d_pending d.pending.length c_d_pending), (Value.int .i64 d.left), (Value.bool d.stopped)].toArray 25)]) (i := 0) ty3 hs10 rfl rfl rfl rfl rfl (le_lit rfl) rfl rfl rfl ?_)
 intro w12 p13 hs14
 replace f_d_sectors := f_d_sectors.step p13; replace f_d_pending := f_d_pending.step p13; clear p13 hs10
 refine Rg_nil ?_
 refine Wp_seq ?_
 refine Wp_region ?_
 obtain ⟨hs16, p17, f15⟩ := St.publishP (p := (rInt .i64)) (i := 0) (x := (d.sectors.length : Int)) hs14 rfl (mk_int rl6)
 replace f_d_sectors := f_d_sectors.step p17; replace f_d_pending := f_d_pending.step p17; clear p17 hs14
 refine Rg_op rfl (op_makeFunc' (a' := []) (c' := [(Value.pointer (some (⟨b7, 0, none⟩ : Addr)))]) rfl rfl ?_)
 have F19 : CallsTo1 Try.prog w12 (ks [(some b1, Obj.cells [(Value.slice a_d_sectors d.sectors.length c_d_sectors), (Value.slice a_d_pending d.pending.length c_d_pending), (Value.int .i64 d.left), (Value.bool d.stopped)].toArray 25)] O) (Value.func (.func 42) #[] #[(Value.pointer (some (⟨b7, 0, none⟩ : Addr)))]) (vA rXWrite) vB (fun x18 => m42_disk_Check_1 x18 (d.sectors.length : Int)) := by
  intro w20 O21 st22 hO23 v26 x18 y24 h27 hy25
  obtain ⟨_, rfl, ⟨_, _, rfl, ⟨rfl, r_y28_at_⟩, ⟨a_y28_data, c_y28_data, rfl, f_y28_data⟩⟩⟩ := h27
  exact ⟨42, #[], #[(Value.pointer (some (⟨b7, 0, none⟩ : Addr)))], rfl, Try.call42, c42_disk_Check_1 (w_ := x18) hO23 r_y28_at_ f_y28_data (f15.step st22) hy25⟩
 refine Rg_op rfl (op_assign (v := (Value.func (.func 42) #[] #[(Value.pointer (some (⟨b7, 0, none⟩ : Addr)))])) rfl ?_)
 refine Rg_nil ?_
 refine Wp_seq ?_
 refine Wp_reset [] [(1, (Value.pointer (some ⟨b1, 0, none⟩))), (3, (Value.pointer (some (⟨b7, 0, none⟩ : Addr)))), (4, (Value.func (.func 42) #[] #[(Value.pointer (some (⟨b7, 0, none⟩ : Addr)))]))] rfl ⟨rfl, rfl, rfl, trivial⟩ fun ξ29 => ?_
 replace hm := jn_elim hm; obtain ⟨k31, hk32, hm⟩ := hm
 refine Wp_seqJ [9, 10, 11, 12, 13, 14, 15, 16, 17, 18, 19, 20, 21, 22, 23, 24, 25, 26, 27, 28, 29, 30, 31, 32, 33, 34, 35, 36] (fun fr w' => ∃ (v_1 : Bool) (Ebs : Ents), Ebs = [(some b1, Obj.cells [(Value.slice a_d_sectors d.sectors.length c_d_sectors), (Value.slice a_d_pending d.pending.length c_d_pending), (Value.int .i64 d.left), (Value.bool d.stopped)].toArray 25)] ∧ fr [] [(36, (Value.bool v_1))] ∧ Step (ks [(some b1, Obj.cells [(Value.slice a_d_sectors d.sectors.length c_d_sectors), (Value.slice a_d_pending d.pending.length c_d_pending), (Value.int .i64 d.left), (Value.bool d.stopped)].toArray 25)] O) w12 (ks Ebs O) w' ∧ St ⟨w, [], []⟩ O w' Ebs ∧ k31 v_1 = some x) ?_ ?_
 ·
  rintro ρ38 w34 ⟨v_1, Ebs, hEbs, hfr37, hst36, hs35, hm⟩
  replace hm := jnE1 hk32 hm
  subst hEbs; rw [hfr37.eq]; clear hfr37
  replace f_d_sectors := f_d_sectors.step hst36; replace f_d_pending := f_d_pending.step hst36; replace f15 := f15.step hst36; replace F19 := F19.step hst36; clear hst36 hs16
  refine Wp_cond rfl (fun hc39 => ?_) (fun hc39 => ?_)
  ·
   replace hm := bif_t hm hc39
   refine Wp_seq ?_
   obtain ⟨hs40, p41⟩ := hs35.sub (bs' := []) (.cons _ List.Sublist.slnil)
   clear f_d_sectors f_d_pending f15 F19
   clear p41 hs35
   refine Wp_region ?_
   refine Rg_op rfl (op_assign (v := (Value.int .i64 440)) rfl ?_)
   refine Rg_nil ?_
   refine Wp_ret ?_
   have hz := step_all hs40
   refine ⟨_, (show Closes [] _ _ from rfl), [(Value.int .i64 440)], ⟨rfl, trivial⟩, hs40.ext, ?_⟩
   exact Vr.eq (a := (vI .i64)) (x := 440) ⟨rfl, (show InK .i64 440 from by decide)⟩ (Option.some.inj hm)
  ·
   replace hm := bif_f hm hc39
   refine Wp_skip ?_
   refine Wp_seq ?_
   refine Wp_seq ?_
   clear f15 F19
   refine Wp_region ?_
   refine Rg_op rfl (op_fieldAddr ty25 rfl ty22 (by decide) rfl (rfl : _ = (⟨_, 0, none⟩ : Addr)) ?_)
   refine Rg_op rfl (op_load (cs := [(Value.slice a_d_sectors d.sectors.length c_d_sectors), (Value.slice a_d_pending d.pending.length c_d_pending), (Value.int .i64 d.left), (Value.bool d.stopped)]) (i := 0) ty22 hs35 rfl rfl rfl ?_)
   have F43 : CallsTo1 Try.prog w34 (ks [(some b1, Obj.cells [(Value.slice a_d_sectors d.sectors.length c_d_sectors), (Value.slice a_d_pending d.pending.length c_d_pending), (Value.int .i64 d.left), (Value.bool d.stopped)].toArray 25)] O) (Value.func (.func 46) #[] #[]) (vC (rSl rU8)) vB (fun x42 => m46_disk_Check_2 x42) := by
    intro w44 O45 st46 hO47 v50 x42 y48 h51 hy49
    obtain ⟨a_y52, c_y52, rfl, f_y52⟩ := un_sl h51
    exact ⟨46, #[], #[], rfl, Try.call46, c46_disk_Check_2 (b := x42) hO47 f_y52 hy49⟩
   have F54 : CallsTo1 Try.prog w34 (ks [(some b1, Obj.cells [(Value.slice a_d_sectors d.sectors.length c_d_sectors), (Value.slice a_d_pending d.pending.length c_d_pending), (Value.int .i64 d.left), (Value.bool d.stopped)].toArray 25)] O) (Value.func (.func 46) #[] #[]) (vC (rSl rU8)) vB (fun x53 => m46_disk_Check_2 x53) := by
    intro w55 O56 st57 hO58 v61 x53 y59 h62 hy60
    obtain ⟨a_y63, c_y63, rfl, f_y63⟩ := un_sl h62
    exact ⟨46, #[], #[], rfl, Try.call46, c46_disk_Check_2 (b := x53) hO58 f_y63 hy60⟩
   replace hm := bd hm; obtain ⟨containsfunc_1, hv64, hm⟩ := hm
   have F71 : CallsTo1 Try.prog w34 (ks [(some b1, Obj.cells [(Value.slice a_d_sectors d.sectors.length c_d_sectors), (Value.slice a_d_pending d.pending.length c_d_pending), (Value.int .i64 d.left), (Value.bool d.stopped)].toArray 25)] O) (Value.func (.func 46) #[] #[]) (vC (rSl rU8)) vB (fun x70 => m46_disk_Check_2 x70) := by
    intro w72 O73 st74 hO75 v78 x70 y76 h79 hy77
    obtain ⟨a_y80, c_y80, rfl, f_y80⟩ := un_sl h79
    exact ⟨46, #[], #[], rfl, Try.call46, c46_disk_Check_2 (b := x70) hO75 f_y80 hy77⟩
   refine Rg_op rfl (op_call Try.call45 (c45_slices_ContainsFuncbyte_byte_ (s := d.sectors) (f := (fun x53 => m46_disk_Check_2 x53)) hs35.ltw f_d_sectors F54 hv64) rfl ?_)
   rintro v65 w66 ⟨hx67, h68⟩
   have hs69 := hs35.call hx67
   have p81 := Step.ext (O := ks [(some b1, Obj.cells [(Value.slice a_d_sectors d.sectors.length c_d_sectors), (Value.slice a_d_pending d.pending.length c_d_pending), (Value.int .i64 d.left), (Value.bool d.stopped)].toArray 25)] O) hx67
   clear hx67
   replace f_d_sectors := f_d_sectors.step p81; replace f_d_pending := f_d_pending.step p81; replace F43 := F43.step p81; replace F54 := F54.step p81; replace F71 := F71.step p81; clear p81 hs35
   obtain rfl := h68
   refine Rg_nil ?_
   refine Wp_cond rfl (fun hc83 => ?_) (fun hc83 => ?_)
   ·
    replace hm := bif_t hm hc83
    refine Wp_seq ?_
    obtain ⟨hs84, p85⟩ := hs69.sub (bs' := []) (.cons _ List.Sublist.slnil)
    clear f_d_sectors f_d_pending F43 F54 F71
    clear p85 hs69
    refine Wp_region ?_
    refine Rg_op rfl (op_assign (v := (Value.int .i64 440)) rfl ?_)
    refine Rg_nil ?_
    refine Wp_ret ?_
    have hz := step_all hs84
    refine ⟨_, (show Closes [] _ _ from rfl), [(Value.int .i64 440)], ⟨rfl, trivial⟩, hs84.ext, ?_⟩
    exact Vr.eq (a := (vI .i64)) (x := 440) ⟨rfl, (show InK .i64 440 from by decide)⟩ (Option.some.inj hm)
   ·
    replace hm := bif_f hm hc83
    refine Wp_skip ?_
    refine Wp_seq ?_
    obtain ⟨hs86, p87⟩ := hs69.sub (bs' := []) (.cons _ List.Sublist.slnil)
    clear f_d_sectors f_d_pending F43 F54 F71
    clear p87 hs69
    refine Wp_region ?_
    refine Rg_op rfl (op_assign (v := (Value.int .i64 0)) rfl ?_)
    refine Rg_nil ?_
    refine Wp_ret ?_
    have hz := step_all hs86
    refine ⟨_, (show Closes [] _ _ from rfl), [(Value.int .i64 0)], ⟨rfl, trivial⟩, hs86.ext, ?_⟩
    exact Vr.eq (a := (vI .i64)) (x := 0) ⟨rfl, (show InK .i64 0 from by decide)⟩ (Option.some.inj hm)
 ·
  intro K33 hK33
  have ch88 := Step.refl (ks [(some b1, Obj.cells [(Value.slice a_d_sectors d.sectors.length c_d_sectors), (Value.slice a_d_pending d.pending.length c_d_pending), (Value.int .i64 d.left), (Value.bool d.stopped)].toArray 25)] O) w12
  refine Wp_region ?_
  refine Rg_op rfl (op_loadP ty3 rfl f15 rfl ?_)
  intro v89 h90
  obtain ⟨rfl, r_y91⟩ := un_int h90
  refine Rg_op rfl (op_lss rfl rfl ?_)
  refine Rg_op rfl (op_move (v := (Value.bool (decide ((d.sectors.length : Int) < 1)))) rfl ?_)
  refine Rg_case (fun hg92 => ?_) (fun hg92 => ?_)
  ·
   replace hm := bif_t hm hg92
   iterate 2 refine Rg_opx rfl (asB_ne rfl rfl) rfl ?_
   refine Rg_op rfl (op_pick_t (v := (Value.bool true)) rfl rfl ?_)
   refine Rg_op rfl (op_move (v := (Value.bool true)) rfl ?_)
   iterate 4 refine Rg_opx rfl (asB_ne rfl rfl) rfl ?_
   refine Rg_op rfl (op_pick_t (v := (Value.bool true)) rfl rfl ?_)
   refine Rg_op rfl (op_move (v := (Value.bool true)) rfl ?_)
   iterate 3 refine Rg_opx rfl (asB_ne rfl rfl) rfl ?_
   refine Rg_op rfl (op_pick_t (v := (Value.bool true)) rfl rfl ?_)
   refine Rg_op rfl (op_move (v := (Value.bool true)) rfl ?_)
   iterate 3 refine Rg_opx rfl (asB_ne rfl rfl) rfl ?_
   refine Rg_op rfl (op_pick_t (v := (Value.bool true)) rfl rfl ?_)
   refine Rg_op rfl (op_move (v := (Value.bool true)) rfl ?_)
   iterate 4 refine Rg_opx rfl (asB_ne rfl rfl) rfl ?_
   refine Rg_op rfl (op_pick_t (v := (Value.bool true)) rfl rfl ?_)
   refine Rg_nil ?_
   exact hK33 _ _ ⟨true, _, rfl, ⟨(by repeat (first | with_reducible exact Out.refl _ _ | refine Out.upd ?_ rfl | refine Out.updL ?_ rfl | refine Out.mix' ?_ rfl | exact Out.refl _ _)), rfl, rfl, trivial⟩, ch88, hs16, hm⟩
  ·
   replace hm := bif_f hm hg92
   refine Rg_opg rfl rfl rfl (op_loadP ty3 rfl f15 rfl ?_)
   intro v93 h94
   obtain ⟨rfl, r_y95⟩ := un_int h94
   refine Rg_opg rfl rfl rfl (op_gtr rfl rfl ?_)
   refine Rg_op rfl (op_pick_f (v := (Value.bool (decide (4096 < (d.sectors.length : Int))))) rfl rfl ?_)
   refine Rg_op rfl (op_move (v := (Value.bool (decide (4096 < (d.sectors.length : Int))))) rfl ?_)
   refine Rg_case (fun hg96 => ?_) (fun hg96 => ?_)
   ·
    replace hm := bif_t hm hg96
    iterate 4 refine Rg_opx rfl (asB_ne rfl rfl) rfl ?_
    refine Rg_op rfl (op_pick_t (v := (Value.bool true)) rfl rfl ?_)
    refine Rg_op rfl (op_move (v := (Value.bool true)) rfl ?_)
    iterate 3 refine Rg_opx rfl (asB_ne rfl rfl) rfl ?_
    refine Rg_op rfl (op_pick_t (v := (Value.bool true)) rfl rfl ?_)
    refine Rg_op rfl (op_move (v := (Value.bool true)) rfl ?_)
    iterate 3 refine Rg_opx rfl (asB_ne rfl rfl) rfl ?_
    refine Rg_op rfl (op_pick_t (v := (Value.bool true)) rfl rfl ?_)
    refine Rg_op rfl (op_move (v := (Value.bool true)) rfl ?_)
    iterate 4 refine Rg_opx rfl (asB_ne rfl rfl) rfl ?_
    refine Rg_op rfl (op_pick_t (v := (Value.bool true)) rfl rfl ?_)
    refine Rg_nil ?_
    exact hK33 _ _ ⟨true, _, rfl, ⟨(by repeat (first | with_reducible exact Out.refl _ _ | refine Out.upd ?_ rfl | refine Out.updL ?_ rfl | refine Out.mix' ?_ rfl | exact Out.refl _ _)), rfl, rfl, trivial⟩, ch88, hs16, hm⟩
   ·
    replace hm := bif_f hm hg96
    refine Rg_opg rfl rfl rfl (op_fieldAddr ty25 rfl ty23 (by decide) rfl (rfl : _ = (⟨_, 1, none⟩ : Addr)) ?_)
    refine Rg_opg rfl rfl rfl (op_load (cs := [(Value.slice a_d_sectors d.sectors.length c_d_sectors), (Value.slice a_d_pending d.pending.length c_d_pending), (Value.int .i64 d.left), (Value.bool d.stopped)]) (i := 0) ty23 hs16 rfl rfl rfl ?_)
    refine Rg_opg rfl rfl rfl (op_len Try.underlying23 rfl ?_)
    have rl97 := inK_len f_d_pending
    refine Rg_opg rfl rfl rfl (op_gtr rfl rfl ?_)
    refine Rg_op rfl (op_pick_f (v := (Value.bool (decide (4096 < (d.pending.length : Int))))) rfl rfl ?_)
    refine Rg_op rfl (op_move (v := (Value.bool (decide (4096 < (d.pending.length : Int))))) rfl ?_)
    refine Rg_case (fun hg98 => ?_) (fun hg98 => ?_)
    ·
     replace hm := bif_t hm hg98
     iterate 3 refine Rg_opx rfl (asB_ne rfl rfl) rfl ?_
     refine Rg_op rfl (op_pick_t (v := (Value.bool true)) rfl rfl ?_)
     refine Rg_op rfl (op_move (v := (Value.bool true)) rfl ?_)
     iterate 3 refine Rg_opx rfl (asB_ne rfl rfl) rfl ?_
     refine Rg_op rfl (op_pick_t (v := (Value.bool true)) rfl rfl ?_)
     refine Rg_op rfl (op_move (v := (Value.bool true)) rfl ?_)
     iterate 4 refine Rg_opx rfl (asB_ne rfl rfl) rfl ?_
     refine Rg_op rfl (op_pick_t (v := (Value.bool true)) rfl rfl ?_)
     refine Rg_nil ?_
     exact hK33 _ _ ⟨true, _, rfl, ⟨(by repeat (first | with_reducible exact Out.refl _ _ | refine Out.upd ?_ rfl | refine Out.updL ?_ rfl | refine Out.mix' ?_ rfl | exact Out.refl _ _)), rfl, rfl, trivial⟩, ch88, hs16, hm⟩
    ·
     replace hm := bif_f hm hg98
     refine Rg_opg rfl rfl rfl (op_fieldAddr ty25 rfl ty3 (by decide) rfl (rfl : _ = (⟨_, 2, none⟩ : Addr)) ?_)
     refine Rg_opg rfl rfl rfl (op_load (cs := [(Value.slice a_d_sectors d.sectors.length c_d_sectors), (Value.slice a_d_pending d.pending.length c_d_pending), (Value.int .i64 d.left), (Value.bool d.stopped)]) (i := 0) ty3 hs16 rfl rfl rfl ?_)
     refine Rg_opg rfl rfl rfl (op_lss rfl rfl ?_)
     refine Rg_op rfl (op_pick_f (v := (Value.bool (decide (d.left < (-1))))) rfl rfl ?_)
     refine Rg_op rfl (op_move (v := (Value.bool (decide (d.left < (-1))))) rfl ?_)
     refine Rg_case (fun hg99 => ?_) (fun hg99 => ?_)
     ·
      replace hm := bif_t hm hg99
      iterate 3 refine Rg_opx rfl (asB_ne rfl rfl) rfl ?_
      refine Rg_op rfl (op_pick_t (v := (Value.bool true)) rfl rfl ?_)
      refine Rg_op rfl (op_move (v := (Value.bool true)) rfl ?_)
      iterate 4 refine Rg_opx rfl (asB_ne rfl rfl) rfl ?_
      refine Rg_op rfl (op_pick_t (v := (Value.bool true)) rfl rfl ?_)
      refine Rg_nil ?_
      exact hK33 _ _ ⟨true, _, rfl, ⟨(by repeat (first | with_reducible exact Out.refl _ _ | refine Out.upd ?_ rfl | refine Out.updL ?_ rfl | refine Out.mix' ?_ rfl | exact Out.refl _ _)), rfl, rfl, trivial⟩, ch88, hs16, hm⟩
     ·
      replace hm := bif_f hm hg99
      refine Rg_opg rfl rfl rfl (op_fieldAddr ty25 rfl ty3 (by decide) rfl (rfl : _ = (⟨_, 2, none⟩ : Addr)) ?_)
      refine Rg_opg rfl rfl rfl (op_load (cs := [(Value.slice a_d_sectors d.sectors.length c_d_sectors), (Value.slice a_d_pending d.pending.length c_d_pending), (Value.int .i64 d.left), (Value.bool d.stopped)]) (i := 0) ty3 hs16 rfl rfl rfl ?_)
      refine Rg_opg rfl rfl rfl (op_gtr rfl rfl ?_)
      refine Rg_op rfl (op_pick_f (v := (Value.bool (decide (65536 < d.left)))) rfl rfl ?_)
      refine Rg_op rfl (op_move (v := (Value.bool (decide (65536 < d.left)))) rfl ?_)
      refine Rg_case (fun hg100 => ?_) (fun hg100 => ?_)
      ·
       replace hm := bif_t hm hg100
       iterate 4 refine Rg_opx rfl (asB_ne rfl rfl) rfl ?_
       refine Rg_op rfl (op_pick_t (v := (Value.bool true)) rfl rfl ?_)
       refine Rg_nil ?_
       exact hK33 _ _ ⟨true, _, rfl, ⟨(by repeat (first | with_reducible exact Out.refl _ _ | refine Out.upd ?_ rfl | refine Out.updL ?_ rfl | refine Out.mix' ?_ rfl | exact Out.refl _ _)), rfl, rfl, trivial⟩, ch88, hs16, hm⟩
      ·
       replace hm := bif_f hm hg100
       refine Rg_opg rfl rfl rfl (op_fieldAddr ty25 rfl ty23 (by decide) rfl (rfl : _ = (⟨_, 1, none⟩ : Addr)) ?_)
       refine Rg_opg rfl rfl rfl (op_load (cs := [(Value.slice a_d_sectors d.sectors.length c_d_sectors), (Value.slice a_d_pending d.pending.length c_d_pending), (Value.int .i64 d.left), (Value.bool d.stopped)]) (i := 0) ty23 hs16 rfl rfl rfl ?_)
       refine Rg_opg rfl rfl rfl (op_move (v := (Value.func (.func 42) #[] #[(Value.pointer (some (⟨b7, 0, none⟩ : Addr)))])) rfl ?_)
       replace hm := bd hm; obtain ⟨write_1, hv101, hm⟩ := hm
       refine Rg_opg rfl rfl rfl (op_call Try.call44 (c44_api_Write_ (s := d.pending) (f := (fun x18 => m42_disk_Check_1 x18 (d.sectors.length : Int))) hs16.ltw f_d_pending F19 hv101) rfl ?_)
       rintro v102 w103 ⟨hx104, h105⟩
       have hs106 := hs16.call hx104
       have p107 := Step.ext (O := ks [(some b1, Obj.cells [(Value.slice a_d_sectors d.sectors.length c_d_sectors), (Value.slice a_d_pending d.pending.length c_d_pending), (Value.int .i64 d.left), (Value.bool d.stopped)].toArray 25)] O) hx104
       clear hx104
       replace f_d_sectors := f_d_sectors.step p107; replace f_d_pending := f_d_pending.step p107; replace f15 := f15.step p107; replace F19 := F19.step p107; replace ch88 := ch88.trans p107; clear p107 hs16
       obtain rfl := h105
       refine Rg_op rfl (op_pick_f (v := (Value.bool write_1)) rfl rfl ?_)
       refine Rg_nil ?_
       exact hK33 _ _ ⟨write_1, _, rfl, ⟨(by repeat (first | with_reducible exact Out.refl _ _ | refine Out.upd ?_ rfl | refine Out.updL ?_ rfl | refine Out.mix' ?_ rfl | exact Out.refl _ _)), rfl, rfl, trivial⟩, ch88, hs106, hm⟩

end Go.Fx



set_option linter.unusedVariables false
set_option linter.unusedSimpArgs false
set_option maxRecDepth 100000
set_option maxHeartbeats 0
namespace Go.Fx
open Go Go.RowKit Go.Proofs
def m60_journal_get_B0 (b : List UInt8) (sf5 : Int → Int → Option Int) (n_1 : Int) (v_1 : Int) : Option Int :=
 bif (decide (v_1 < (b.length : Int))) then
  ck ((0 : Int) ≤ v_1 ∧ v_1 < (b.length : Int)) <|
  sf5 (Go.bits .or .u64 (IntKind.wrap .u64 (n_1 * 2 ^ min 8 (IntKind.bits .u64))) ((b.getD v_1.toNat default).toNat : Int)) (IntKind.wrap .i64 (v_1 + 1))
 else
  some n_1

def m60_journal_get (b : List UInt8) : Option Int :=
 loop2 (m60_journal_get_B0 b) (((b.length : Int) - 0).toNat + 1) 0 0

theorem c60_journal_get {w : World} {O : List Nat} {b : List UInt8} {a_b : Option Addr} {c_b : Nat} (hO : ∀ k ∈ O, k < w.heap.size) (f_b : SlR rU8 w O a_b c_b b) {x : Int} (hm : m60_journal_get b = some x) :
  Ok Try.prog 60 [(Value.slice a_b b.length c_b)] w O (vI .u64) x := by
 unfold m60_journal_get at hm
 refine Fn_of_Wp (n := 18) (xs := [.tmp 2]) Try.func60 rfl Try.ntmps60 Try.results60 rfl ?_
 have hs := St.start hO
 refine Wp_seq ?_
 refine Wp_region ?_
 refine Rg_op rfl (op_assign (v := (Value.int .u64 0)) rfl ?_)
 refine Rg_nil ?_
 refine Wp_seq ?_
 refine Wp_seq ?_
 refine Wp_region ?_
 refine Rg_op rfl (op_move (v := (Value.slice a_b b.length c_b)) rfl ?_)
 refine Rg_op rfl (op_len Try.underlying41 rfl ?_)
 have rl1 := inK_len f_b
 refine Rg_op rfl (op_move (v := (Value.int .i64 0)) rfl ?_)
 refine Rg_nil ?_
 refine Wp_block ?_
 refine Wp_reset [] [(2, (Value.int .u64 0)), (5, (Value.slice a_b b.length c_b)), (6, (Value.int .i64 (b.length : Int))), (7, (Value.int .i64 0))] rfl ⟨rfl, rfl, rfl, rfl, trivial⟩ fun ξ4 => ?_
 refine Wp_loopM [2, 4, 7, 8, 9, 10, 11, 12, 13, 14, 15, 16] (fun m fr w' => ∃ (n_1 : Int) (v_1 : Int) (Ebs : Ents), Ebs = [] ∧ fr [] [(2, (Value.int .u64 n_1)), (7, (Value.int .i64 v_1))] ∧ Step (ks [] O) w (ks Ebs O) w' ∧ St ⟨w, [], []⟩ O w' Ebs ∧ InK .u64 n_1 ∧ InK .i64 v_1 ∧ loop2 (m60_journal_get_B0 b) m n_1 v_1 = some x) (((b.length : Int) - 0).toNat + 1) ⟨0, 0, _, rfl, ⟨Out.refl _ _, rfl, rfl, rfl, trivial⟩, Step.refl _ _, hs, (show InK .u64 0 from by decide), (show InK .i64 0 from by decide), hm⟩ ?_ ?_
 · rintro _ _ ⟨_, _, _, _, _, _, _, _, _, hm⟩; exact loop2_z hm
 ·
  rintro m8 K7 hK7 ρ13 w9 ⟨n_1, v_1, Ebs, hEbs, hfr12, hst11, hs10, r_y2, r_y3, hm⟩
  obtain ⟨sf5, hsf6, hm⟩ := loop2_s hm; unfold m60_journal_get_B0 at hm
  subst hEbs; rw [hfr12.eq]; clear hfr12
  replace f_b := f_b.step hst11
  have ch14 := hst11
  refine Wp_seq ?_
  refine Wp_region ?_
  refine Rg_op rfl (op_lss rfl rfl ?_)
  refine Rg_nil ?_
  refine Wp_seq ?_
  refine Wp_cond rfl (fun hc15 => ?_) (fun hc15 => ?_)
  ·
   replace hm := bif_t hm hc15
   refine Wp_skip ?_
   refine Wp_seq ?_
   refine Wp_block ?_
   refine Wp_seq ?_
   refine Wp_region ?_
   replace hm := ck_some hm; obtain ⟨hc16, hm⟩ := hm
   refine Rg_op rfl (op_indexAddr (q := rU8) ty41 ty5 rfl rfl f_b rfl hc16.1 hc16.2 ?_)
   intro p17 f18
   refine Rg_op rfl (op_loadP ty5 rfl f18 rfl ?_)
   intro v19 h20
   obtain rfl := un_u8 h20
   refine Rg_op rfl (op_assign (v := (Value.int .u8 ((b.getD v_1.toNat default).toNat : Int))) rfl ?_)
   refine Rg_nil ?_
   clear f18
   refine Wp_region ?_
   refine Rg_op rfl (op_move (v := (Value.int .u64 n_1)) rfl ?_)
   refine Rg_op rfl (op_shl rfl rfl (by decide) ?_)
   refine Rg_op rfl (op_move (v := (Value.int .u8 ((b.getD v_1.toNat default).toNat : Int))) rfl ?_)
   refine Rg_op rfl (op_conv_u8 Try.underlying5 Try.underlying93 rfl (by decide) ?_)
   refine Rg_op rfl (op_or rfl rfl ?_)
   refine Rg_op rfl (op_assign (v := (Value.int .u64 (Go.bits .or .u64 (IntKind.wrap .u64 (n_1 * 2 ^ min 8 (IntKind.bits .u64))) ((b.getD v_1.toNat default).toNat : Int)))) rfl ?_)
   refine Rg_nil ?_
   refine Wp_region ?_
   refine Rg_op rfl (op_addw rfl rfl ?_)
   refine Rg_op rfl (op_move (v := (Value.int .i64 (IntKind.wrap .i64 (v_1 + 1)))) rfl ?_)
   refine Rg_nil ?_
   exact hK7 _ _ ⟨(Go.bits .or .u64 (IntKind.wrap .u64 (n_1 * 2 ^ min 8 (IntKind.bits .u64))) ((b.getD v_1.toNat default).toNat : Int)), (IntKind.wrap .i64 (v_1 + 1)), _, rfl, ⟨(by repeat (first | with_reducible exact Out.refl _ _ | refine Out.upd ?_ rfl | refine Out.updL ?_ rfl | refine Out.mix' ?_ rfl | exact Out.refl _ _)), rfl, rfl, rfl, trivial⟩, ch14, hs10, (inK_bits .or .u64 _ _), (inK_wrap .i64 _), jnE2 hsf6 hm⟩
  ·
   replace hm := bif_f hm hc15
   refine Wp_exit ?_
   refine Wp_seq ?_
   clear f_b
   refine Wp_region ?_
   refine Rg_op rfl (op_move (v := (Value.int .u64 n_1)) rfl ?_)
   refine Rg_op rfl (op_assign (v := (Value.int .u64 n_1)) rfl ?_)
   refine Rg_nil ?_
   refine Wp_ret ?_
   have hz := step_all hs10
   refine ⟨_, (show Closes [] _ _ from rfl), [(Value.int .u64 n_1)], ⟨rfl, trivial⟩, hs10.ext, ?_⟩
   exact Vr.eq (a := (vI .u64)) (x := n_1) ⟨rfl, r_y2⟩ (Option.some.inj hm)

end Go.Fx



set_option linter.unusedVariables false
set_option linter.unusedSimpArgs false
set_option maxRecDepth 100000
set_option maxHeartbeats 0
namespace Go.Fx
open Go Go.RowKit Go.Proofs
def m62_bytes_Equal (a : List UInt8) (b : List UInt8) : Option Bool :=
 some (decide (a = b))

theorem c62_bytes_Equal {w : World} {O : List Nat} {a : List UInt8} {b : List UInt8} {a_a : Option Addr} {c_a : Nat} {a_b : Option Addr} {c_b : Nat} (hO : ∀ k ∈ O, k < w.heap.size) (f_a : SlR rU8 w O a_a c_a a) (f_b : SlR rU8 w O a_b c_b b) {x : Bool} (hm : m62_bytes_Equal a b = some x) :
  Ok Try.prog 62 [(Value.slice a_a a.length c_a), (Value.slice a_b b.length c_b)] w O vB x := by
 unfold m62_bytes_Equal at hm
 refine Fn_of_Wp (n := 10) (xs := [.tmp 4]) Try.func62 rfl Try.ntmps62 Try.results62 rfl ?_
 have hs := St.start hO
 refine Wp_seq ?_
 refine Wp_region ?_
 refine Rg_op rfl (op_assign (v := (Value.bool false)) rfl ?_)
 refine Rg_nil ?_
 refine Wp_seq ?_
 refine Wp_region ?_
 refine Rg_op rfl (op_move (v := (Value.slice a_a a.length c_a)) rfl ?_)
 refine Rg_op rfl (op_bytesToString ty41 Try.underlying5 Try.underlying9 rfl f_a ?_)
 refine Rg_op rfl (op_move (v := (Value.slice a_b b.length c_b)) rfl ?_)
 refine Rg_op rfl (op_bytesToString ty41 Try.underlying5 Try.underlying9 rfl f_b ?_)
 refine Rg_op rfl (op_eqs (a := a) (b := b) rfl rfl ?_)
 refine Rg_op rfl (op_assign (v := (Value.bool (decide (a = b)))) rfl ?_)
 refine Rg_nil ?_
 refine Wp_ret ?_
 have hz := step_all hs
 replace f_a := f_a.step hz; replace f_b := f_b.step hz
 refine ⟨_, (show Closes [] _ _ from rfl), [(Value.bool (decide (a = b)))], ⟨rfl, trivial⟩, hs.ext, ?_⟩
 exact Vr.eq (a := vB) (x := (decide (a = b))) rfl (Option.some.inj hm)

end Go.Fx



set_option linter.unusedVariables false
set_option linter.unusedSimpArgs false
set_option maxRecDepth 100000
set_option maxHeartbeats 0
namespace Go.Fx
open Go Go.RowKit Go.Proofs
def m71_journal_put_B0 (b : List UInt8) (n : Int) (sf4 : Int → (List UInt8) → Option (List UInt8)) (v_1 : Int) (win_1 : List UInt8) : Option (List UInt8) :=
 bif (decide (v_1 < (b.length : Int))) then
  ck ((0 : Int) ≤ (IntKind.wrap .i64 (8 * v_1))) <|
  ck ((0 : Int) ≤ (IntKind.wrap .i64 ((IntKind.wrap .i64 ((b.length : Int) - 1)) - v_1)) ∧ (IntKind.wrap .i64 ((IntKind.wrap .i64 ((b.length : Int) - 1)) - v_1)) < (b.length : Int) ∧ (IntKind.wrap .i64 ((IntKind.wrap .i64 ((b.length : Int) - 1)) - v_1)) < (win_1.length : Int)) <|
  sf4 (IntKind.wrap .i64 (v_1 + 1)) (win_1.set (IntKind.wrap .i64 ((IntKind.wrap .i64 ((b.length : Int) - 1)) - v_1)).toNat (UInt8.ofNat (IntKind.wrap .u8 (n / 2 ^ min (IntKind.wrap .i64 (8 * v_1)).toNat (IntKind.bits .u64))).toNat))
 else
  some win_1

def m71_journal_put (b : List UInt8) (n : Int) : Option (List UInt8) :=
 loop2 (m71_journal_put_B0 b n) (((b.length : Int) - 0).toNat + 1) 0 b

theorem c71_journal_put {w : World} {O : List Nat} {b : List UInt8} {n : Int} {pre_b post_b : List UInt8} {bl_b cc_b cb_b : Nat} {o_b : Obj} {e_b : TypeId} (hO : ∀ k ∈ O, k < w.heap.size) (hbl : bl_b ∉ O) (hob : w.heap[bl_b]? = some o_b) (f_b : Gs rU8 e_b w (bl_b :: O) (some ⟨bl_b, 0, none⟩) cb_b (pre_b ++ b ++ post_b) (some bl_b) o_b) (r_n : InK .u64 n) {x : List UInt8} (hm : m71_journal_put b n = some x) :
  OkW Try.prog 71 [(Value.slice (some ⟨bl_b, pre_b.length, none⟩) b.length cc_b), (Value.int .u64 n)] w O bl_b rU8 e_b cb_b (pre_b ++ x ++ post_b) := by
 unfold m71_journal_put at hm
 refine Fn_of_Wp (n := 23) (xs := []) Try.func71 rfl Try.ntmps71 Try.results71 rfl ?_
 have hs := St.startW hO hbl hob
 replace f_b : Gs rU8 e_b w (ks [(some bl_b, o_b)] O) (some ⟨bl_b, 0, none⟩) cb_b (pre_b ++ b ++ post_b) (some bl_b) o_b := f_b
 have hlw := inK_lenW f_b
 refine Wp_seq ?_
 refine Wp_region ?_
 refine Rg_op rfl (op_move (v := (Value.slice (some ⟨bl_b, pre_b.length, none⟩) b.length cc_b)) rfl ?_)
 refine Rg_op rfl (op_len Try.underlying41 rfl ?_)
 refine Rg_op rfl (op_move (v := (Value.int .i64 0)) rfl ?_)
 refine Rg_nil ?_
 refine Wp_block ?_
 refine Wp_reset [] [(0, (Value.slice (some ⟨bl_b, pre_b.length, none⟩) b.length cc_b)), (1, (Value.int .u64 n)), (6, (Value.int .i64 (b.length : Int))), (7, (Value.int .i64 0))] rfl ⟨rfl, rfl, rfl, rfl, trivial⟩ fun ξ3 => ?_
 refine Wp_loopM [4, 7, 8, 9, 10, 11, 12, 13, 14, 15, 16, 17, 18, 19, 20, 21, 22] (fun m fr w' => ∃ (v_1 : Int) (win_1 : List UInt8) (o_g2 : Obj) (Ebs : Ents), Ebs = [(some bl_b, o_g2)] ∧ fr [] [(7, (Value.int .i64 v_1))] ∧ Step (ks [(some bl_b, o_b)] O) w (ks Ebs O) w' ∧ St ⟨w, [bl_b], []⟩ O w' Ebs ∧ InK .i64 v_1 ∧ Gs rU8 e_b w' (ks Ebs O) (some ⟨bl_b, 0, none⟩) cb_b (pre_b ++ win_1 ++ post_b) (some bl_b) o_g2 ∧ loop2 (m71_journal_put_B0 b n) m v_1 win_1 = some x) (((b.length : Int) - 0).toNat + 1) ⟨0, b, o_b, _, rfl, ⟨Out.refl _ _, rfl, rfl, trivial⟩, Step.refl _ _, hs, (show InK .i64 0 from by decide), f_b, hm⟩ ?_ ?_
 · rintro _ _ ⟨_, _, _, _, _, _, _, _, _, _, hm⟩; exact loop2_z hm
 ·
  rintro m7 K6 hK6 ρ12 w8 ⟨v_1, win_1, o_g2, Ebs, hEbs, hfr11, hst10, hs9, r_y1, f_g2, hm⟩
  obtain ⟨sf4, hsf5, hm⟩ := loop2_s hm; unfold m71_journal_put_B0 at hm
  subst hEbs; rw [hfr11.eq]; clear hfr11
  replace f_b := f_b.step hst10
  have ch13 := hst10
  refine Wp_seq ?_
  clear f_b
  refine Wp_region ?_
  refine Rg_op rfl (op_lss rfl rfl ?_)
  refine Rg_nil ?_
  refine Wp_seq ?_
  refine Wp_cond rfl (fun hc14 => ?_) (fun hc14 => ?_)
  ·
   replace hm := bif_t hm hc14
   refine Wp_skip ?_
   refine Wp_seq ?_
   refine Wp_block ?_
   refine Wp_seq ?_
   refine Wp_region ?_
   refine Rg_op rfl (op_move (v := (Value.int .i64 v_1)) rfl ?_)
   refine Rg_op rfl (op_assign (v := (Value.int .i64 v_1)) rfl ?_)
   refine Rg_nil ?_
   refine Wp_region ?_
   refine Rg_op rfl (op_move (v := (Value.slice (some ⟨bl_b, pre_b.length, none⟩) b.length cc_b)) rfl ?_)
   refine Rg_op rfl (op_move (v := (Value.slice (some ⟨bl_b, pre_b.length, none⟩) b.length cc_b)) rfl ?_)
   refine Rg_op rfl (op_len Try.underlying41 rfl ?_)
   refine Rg_op rfl (op_subw rfl rfl ?_)
   refine Rg_op rfl (op_move (v := (Value.int .i64 v_1)) rfl ?_)
   refine Rg_op rfl (op_subw rfl rfl ?_)
   refine Rg_op rfl (op_move (v := (Value.int .u64 n)) rfl ?_)
   refine Rg_op rfl (op_move (v := (Value.int .i64 v_1)) rfl ?_)
   refine Rg_op rfl (op_mulw rfl rfl ?_)
   replace hm := ck_some hm; obtain ⟨hc15, hm⟩ := hm
   refine Rg_op rfl (op_shr rfl rfl hc15 ?_)
   refine Rg_op rfl (run1_u8 (e := (IntKind.wrap .u8 (n / 2 ^ min (IntKind.wrap .i64 (8 * v_1)).toNat (IntKind.bits .u64)))) (inK_wrap .u8 _) (fun _ hk => op_conv Try.underlying93 Try.underlying5 rfl hk) ?_)
   replace hm := ck_some hm; obtain ⟨hc16, hm⟩ := hm
   refine Rg_op rfl (op_indexAddrO ty41 ty5 rfl rfl hc16.1 hc16.2.1 ?_)
   refine Rg_op_ (op_storeW (vs := [(Value.int .u8 ((UInt8.ofNat (IntKind.wrap .u8 (n / 2 ^ min (IntKind.wrap .i64 (8 * v_1)).toNat (IntKind.bits .u64))).toNat).toNat : Int))]) (i := 0) (pre := pre_b) (post := post_b) (xs := win_1) (m := (IntKind.wrap .i64 ((IntKind.wrap .i64 ((b.length : Int) - 1)) - v_1))) ty5 rfl hs9 rfl rfl rfl rfl f_g2 ⟨hc16.1, hc16.2.2⟩ mkU8 ?_)
   intro w17 o20 p18 hs19 f21
   replace ch13 := ch13.trans p18; clear p18 hs9
   refine Rg_nil ?_
   refine Wp_region ?_
   refine Rg_op rfl (op_addw rfl rfl ?_)
   refine Rg_op rfl (op_move (v := (Value.int .i64 (IntKind.wrap .i64 (v_1 + 1)))) rfl ?_)
   refine Rg_nil ?_
   exact hK6 _ _ ⟨(IntKind.wrap .i64 (v_1 + 1)), (win_1.set (IntKind.wrap .i64 ((IntKind.wrap .i64 ((b.length : Int) - 1)) - v_1)).toNat (UInt8.ofNat (IntKind.wrap .u8 (n / 2 ^ min (IntKind.wrap .i64 (8 * v_1)).toNat (IntKind.bits .u64))).toNat)), o20, _, rfl, ⟨(by repeat (first | with_reducible exact Out.refl _ _ | refine Out.upd ?_ rfl | refine Out.updL ?_ rfl | refine Out.mix' ?_ rfl | exact Out.refl _ _)), rfl, rfl, trivial⟩, ch13, hs19, (inK_wrap .i64 _), f21, jnE2 hsf5 hm⟩
  ·
   replace hm := bif_f hm hc14
   refine Wp_exit ?_
   exact ⟨_, (show Closes [] _ _ from rfl), [], trivial, hs9.endW.1, _, hs9.endW.2, (Option.some.inj hm) ▸ f_g2⟩

end Go.Fx



set_option linter.unusedVariables false
set_option linter.unusedSimpArgs false
set_option maxRecDepth 100000
set_option maxHeartbeats 0
namespace Go.Fx
open Go Go.RowKit Go.Proofs
def m72_journal_sum_B1 (v_1 : Int) (sf5 : Int → Int → Option Int) (sf25 : Int → Int → Option Int) (n_2 : Int) (v_2 : Int) : Option Int :=
 bif (decide (v_2 < 8)) then
  sf25 (Go.bits .xor .u32 (n_2 / 2 ^ min 1 (IntKind.bits .u32)) (IntKind.wrap .u32 (3988292384 * (Go.bits .and .u32 n_2 1)))) (IntKind.wrap .i64 (v_2 + 1))
 else
  sf5 n_2 (IntKind.wrap .i64 (v_1 + 1))

def m72_journal_sum_B0 (b : List UInt8) (sf5 : Int → Int → Option Int) (n_1 : Int) (v_1 : Int) : Option Int :=
 bif (decide (v_1 < (b.length : Int))) then
  ck ((0 : Int) ≤ v_1 ∧ v_1 < (b.length : Int)) <|
  loop2 (m72_journal_sum_B1 v_1 sf5) (((8 : Int) - 0).toNat + 1) (Go.bits .xor .u32 n_1 ((b.getD v_1.toNat default).toNat : Int)) 0
 else
  some (Go.bits .xor .u32 (if IntKind.signed .u32 then -1 else IntKind.max .u32) n_1)

def m72_journal_sum (b : List UInt8) : Option Int :=
 loop2 (m72_journal_sum_B0 b) (((b.length : Int) - 0).toNat + 1) 4294967295 0

theorem c72_journal_sum {w : World} {O : List Nat} {b : List UInt8} {a_b : Option Addr} {c_b : Nat} (hO : ∀ k ∈ O, k < w.heap.size) (f_b : SlR rU8 w O a_b c_b b) {x : Int} (hm : m72_journal_sum b = some x) :
  Ok Try.prog 72 [(Value.slice a_b b.length c_b)] w O (vI .u32) x := by
 unfold m72_journal_sum at hm
 refine Fn_of_Wp (n := 28) (xs := [.tmp 2]) Try.func72 rfl Try.ntmps72 Try.results72 rfl ?_
 have hs := St.start hO
 refine Wp_seq ?_
 refine Wp_region ?_
 refine Rg_op rfl (op_assign (v := (Value.int .u32 0)) rfl ?_)
 refine Rg_nil ?_
 refine Wp_seq ?_
 refine Wp_region ?_
 refine Rg_op rfl (op_assign (v := (Value.int .u32 4294967295)) rfl ?_)
 refine Rg_nil ?_
 refine Wp_seq ?_
 refine Wp_seq ?_
 refine Wp_region ?_
 refine Rg_op rfl (op_move (v := (Value.slice a_b b.length c_b)) rfl ?_)
 refine Rg_op rfl (op_len Try.underlying41 rfl ?_)
 have rl1 := inK_len f_b
 refine Rg_op rfl (op_move (v := (Value.int .i64 0)) rfl ?_)
 refine Rg_nil ?_
 refine Wp_block ?_
 refine Wp_reset [] [(3, (Value.int .u32 4294967295)), (6, (Value.slice a_b b.length c_b)), (7, (Value.int .i64 (b.length : Int))), (8, (Value.int .i64 0))] rfl ⟨rfl, rfl, rfl, rfl, trivial⟩ fun ξ4 => ?_
 refine Wp_loopM [3, 5, 8, 9, 10, 11, 12, 13, 14, 15, 16, 17, 18, 19, 20, 21, 22, 23, 24, 25] (fun m fr w' => ∃ (n_1 : Int) (v_1 : Int) (Ebs : Ents), Ebs = [] ∧ fr [] [(3, (Value.int .u32 n_1)), (8, (Value.int .i64 v_1))] ∧ Step (ks [] O) w (ks Ebs O) w' ∧ St ⟨w, [], []⟩ O w' Ebs ∧ InK .u32 n_1 ∧ InK .i64 v_1 ∧ loop2 (m72_journal_sum_B0 b) m n_1 v_1 = some x) (((b.length : Int) - 0).toNat + 1) ⟨4294967295, 0, _, rfl, ⟨Out.refl _ _, rfl, rfl, rfl, trivial⟩, Step.refl _ _, hs, (show InK .u32 4294967295 from by decide), (show InK .i64 0 from by decide), hm⟩ ?_ ?_
 · rintro _ _ ⟨_, _, _, _, _, _, _, _, _, hm⟩; exact loop2_z hm
 ·
  rintro m8 K7 hK7 ρ13 w9 ⟨n_1, v_1, Ebs, hEbs, hfr12, hst11, hs10, r_y2, r_y3, hm⟩
  obtain ⟨sf5, hsf6, hm⟩ := loop2_s hm; unfold m72_journal_sum_B0 at hm
  subst hEbs; rw [hfr12.eq]; clear hfr12
  replace f_b := f_b.step hst11
  have ch14 := hst11
  refine Wp_seq ?_
  refine Wp_region ?_
  refine Rg_op rfl (op_lss rfl rfl ?_)
  refine Rg_nil ?_
  refine Wp_seq ?_
  refine Wp_cond rfl (fun hc15 => ?_) (fun hc15 => ?_)
  ·
   replace hm := bif_t hm hc15
   refine Wp_skip ?_
   refine Wp_seq ?_
   refine Wp_block ?_
   refine Wp_seq ?_
   refine Wp_region ?_
   replace hm := ck_some hm; obtain ⟨hc16, hm⟩ := hm
   refine Rg_op rfl (op_indexAddr (q := rU8) ty41 ty5 rfl rfl f_b rfl hc16.1 hc16.2 ?_)
   intro p17 f18
   refine Rg_op rfl (op_loadP ty5 rfl f18 rfl ?_)
   intro v19 h20
   obtain rfl := un_u8 h20
   refine Rg_op rfl (op_assign (v := (Value.int .u8 ((b.getD v_1.toNat default).toNat : Int))) rfl ?_)
   refine Rg_nil ?_
   refine Wp_seq ?_
   clear f18
   refine Wp_region ?_
   refine Rg_op rfl (op_move (v := (Value.int .u32 n_1)) rfl ?_)
   refine Rg_op rfl (op_move (v := (Value.int .u8 ((b.getD v_1.toNat default).toNat : Int))) rfl ?_)
   refine Rg_op rfl (op_conv_u8 Try.underlying5 Try.underlying107 rfl (by decide) ?_)
   refine Rg_op rfl (op_xor rfl rfl ?_)
   refine Rg_op rfl (op_assign (v := (Value.int .u32 (Go.bits .xor .u32 n_1 ((b.getD v_1.toNat default).toNat : Int)))) rfl ?_)
   refine Rg_nil ?_
   refine Wp_seq ?_
   refine Wp_region ?_
   refine Rg_op rfl (op_move (v := (Value.int .i64 0)) rfl ?_)
   refine Rg_nil ?_
   refine Wp_block ?_
   refine Wp_reset2 [3, 5, 8, 9, 10, 11, 12, 13, 14, 15, 16, 17, 18, 19, 20, 21, 22, 23, 24, 25] [] (updL ⟨ξ4, []⟩ [(3, (Value.int .u32 4294967295)), (6, (Value.slice a_b b.length c_b)), (7, (Value.int .i64 (b.length : Int))), (8, (Value.int .i64 0))]) [(3, (Value.int .u32 (Go.bits .xor .u32 n_1 ((b.getD v_1.toNat default).toNat : Int)))), (8, (Value.int .i64 v_1)), (16, (Value.int .i64 0))] (by repeat (first | with_reducible exact Out.refl _ _ | refine Out.upd ?_ rfl | refine Out.updL ?_ rfl | refine Out.mix' ?_ rfl | exact Out.refl _ _)) rfl ⟨rfl, rfl, rfl, trivial⟩ fun ξ24 => ?_
   refine Wp_loopM [3, 16, 17, 18, 19, 20, 21, 22, 23, 24] (fun m fr w' => ∃ (n_2 : Int) (v_2 : Int) (Ebs : Ents), Ebs = [] ∧ fr [] [(3, (Value.int .u32 n_2)), (16, (Value.int .i64 v_2))] ∧ Step (ks [] O) w9 (ks Ebs O) w' ∧ St ⟨w, [], []⟩ O w' Ebs ∧ InK .u32 n_2 ∧ InK .i64 v_2 ∧ loop2 (m72_journal_sum_B1 v_1 sf5) m n_2 v_2 = some x) (((8 : Int) - 0).toNat + 1) ⟨(Go.bits .xor .u32 n_1 ((b.getD v_1.toNat default).toNat : Int)), 0, _, rfl, ⟨Out.refl _ _, rfl, rfl, rfl, trivial⟩, Step.refl _ _, hs10, (inK_bits .xor .u32 _ _), (show InK .i64 0 from by decide), hm⟩ ?_ ?_
   · rintro _ _ ⟨_, _, _, _, _, _, _, _, _, hm⟩; exact loop2_z hm
   ·
    rintro m28 K27 hK27 ρ33 w29 ⟨n_2, v_2, Ebs, hEbs, hfr32, hst31, hs30, r_y22, r_y23, hm⟩
    obtain ⟨sf25, hsf26, hm⟩ := loop2_s hm; unfold m72_journal_sum_B1 at hm
    subst hEbs; rw [hfr32.eq]; clear hfr32
    replace f_b := f_b.step hst31; replace ch14 := ch14.trans hst31
    have ch34 := hst31
    refine Wp_seq ?_
    refine Wp_region ?_
    refine Rg_op rfl (op_lss rfl rfl ?_)
    refine Rg_nil ?_
    refine Wp_seq ?_
    refine Wp_cond rfl (fun hc35 => ?_) (fun hc35 => ?_)
    ·
     replace hm := bif_t hm hc35
     refine Wp_skip ?_
     refine Wp_seq ?_
     refine Wp_block ?_
     refine Wp_region ?_
     refine Rg_op rfl (op_move (v := (Value.int .u32 n_2)) rfl ?_)
     refine Rg_op rfl (op_shr rfl rfl (by decide) ?_)
     refine Rg_op rfl (op_move (v := (Value.int .u32 n_2)) rfl ?_)
     refine Rg_op rfl (op_and rfl rfl ?_)
     refine Rg_op rfl (op_mulw rfl rfl ?_)
     refine Rg_op rfl (op_xor rfl rfl ?_)
     refine Rg_op rfl (op_assign (v := (Value.int .u32 (Go.bits .xor .u32 (n_2 / 2 ^ min 1 (IntKind.bits .u32)) (IntKind.wrap .u32 (3988292384 * (Go.bits .and .u32 n_2 1)))))) rfl ?_)
     refine Rg_nil ?_
     refine Wp_region ?_
     refine Rg_op rfl (op_addw rfl rfl ?_)
     refine Rg_op rfl (op_move (v := (Value.int .i64 (IntKind.wrap .i64 (v_2 + 1)))) rfl ?_)
     refine Rg_nil ?_
     exact hK27 _ _ ⟨(Go.bits .xor .u32 (n_2 / 2 ^ min 1 (IntKind.bits .u32)) (IntKind.wrap .u32 (3988292384 * (Go.bits .and .u32 n_2 1)))), (IntKind.wrap .i64 (v_2 + 1)), _, rfl, ⟨(by repeat (first | with_reducible exact Out.refl _ _ | refine Out.upd ?_ rfl | refine Out.updL ?_ rfl | refine Out.mix' ?_ rfl | exact Out.refl _ _)), rfl, rfl, rfl, trivial⟩, ch34, hs30, (inK_bits .xor .u32 _ _), (inK_wrap .i64 _), jnE2 hsf26 hm⟩
    ·
     replace hm := bif_f hm hc35
     refine Wp_exit ?_
     refine Wp_region ?_
     refine Rg_op rfl (op_addw rfl rfl ?_)
     refine Rg_op rfl (op_move (v := (Value.int .i64 (IntKind.wrap .i64 (v_1 + 1)))) rfl ?_)
     refine Rg_nil ?_
     exact hK7 _ _ ⟨n_2, (IntKind.wrap .i64 (v_1 + 1)), _, rfl, ⟨(by repeat (first | with_reducible exact Out.refl _ _ | refine Out.upd ?_ rfl | refine Out.updL ?_ rfl | refine Out.mix' ?_ rfl | exact Out.refl _ _)), rfl, rfl, rfl, trivial⟩, ch14, hs30, r_y22, (inK_wrap .i64 _), jnE2 hsf6 hm⟩
  ·
   replace hm := bif_f hm hc15
   refine Wp_exit ?_
   refine Wp_seq ?_
   clear f_b
   refine Wp_region ?_
   refine Rg_op rfl (op_move (v := (Value.int .u32 n_1)) rfl ?_)
   refine Rg_op rfl (op_com rfl ?_)
   refine Rg_op rfl (op_assign (v := (Value.int .u32 (Go.bits .xor .u32 (if IntKind.signed .u32 then -1 else IntKind.max .u32) n_1))) rfl ?_)
   refine Rg_nil ?_
   refine Wp_ret ?_
   have hz := step_all hs10
   refine ⟨_, (show Closes [] _ _ from rfl), [(Value.int .u32 (Go.bits .xor .u32 (if IntKind.signed .u32 then -1 else IntKind.max .u32) n_1))], ⟨rfl, trivial⟩, hs10.ext, ?_⟩
   exact Vr.eq (a := (vI .u32)) (x := (Go.bits .xor .u32 (if IntKind.signed .u32 then -1 else IntKind.max .u32) n_1)) ⟨rfl, (inK_bits .xor .u32 _ _)⟩ (Option.some.inj hm)

end Go.Fx



set_option linter.unusedVariables false
set_option linter.unusedSimpArgs false
set_option maxRecDepth 100000
set_option maxHeartbeats 0
namespace Go.Fx
open Go Go.RowKit Go.Proofs
def m63_journal_encode (generation : Int) (number : Int) (kind : UInt8) (b : List UInt8) : Option (List UInt8) :=
 ck ((0 : Int) ≤ 0 ∧ (0 : Int) < 4 ∧ (4 : Int) ≤ ((List.replicate 128 (0 : UInt8)).length : Int)) <|
 (m71_journal_put (((List.replicate 128 (0 : UInt8)).drop 0).take (4 - 0)) generation).bind fun put_1 =>
 ck ((0 : Int) ≤ 8 ∧ (8 : Int) < 10 ∧ (10 : Int) ≤ ((setw (List.replicate 128 (0 : UInt8)) 0 4 put_1).length : Int)) <|
 (m71_journal_put (((setw (List.replicate 128 (0 : UInt8)) 0 4 put_1).drop 8).take (10 - 8)) (IntKind.wrap .u64 number)).bind fun put_2 =>
 ck ((0 : Int) ≤ (10 : Int) ∧ (10 : Int) < ((setw (setw (List.replicate 128 (0 : UInt8)) 0 4 put_1) 8 10 put_2).length : Int)) <|
 ck ((0 : Int) ≤ (11 : Int) ∧ (11 : Int) < (((setw (setw (List.replicate 128 (0 : UInt8)) 0 4 put_1) 8 10 put_2).set 10 kind).length : Int)) <|
 ck ((0 : Int) ≤ 12 ∧ (12 : Int) < 128 ∧ (128 : Int) ≤ ((((setw (setw (List.replicate 128 (0 : UInt8)) 0 4 put_1) 8 10 put_2).set 10 kind).set 11 (UInt8.ofNat (IntKind.wrap .u8 (b.length : Int)).toNat)).length : Int)) <|
 ck (12 < 128) <|
 ck ((0 : Int) ≤ 124 ∧ (124 : Int) < 128 ∧ (128 : Int) ≤ (((((setw (setw (List.replicate 128 (0 : UInt8)) 0 4 put_1) 8 10 put_2).set 10 kind).set 11 (UInt8.ofNat (IntKind.wrap .u8 (b.length : Int)).toNat)).take 12 ++ (b.take (128 - 12) ++ ((((setw (setw (List.replicate 128 (0 : UInt8)) 0 4 put_1) 8 10 put_2).set 10 kind).set 11 (UInt8.ofNat (IntKind.wrap .u8 (b.length : Int)).toNat)).drop 12).drop (min b.length (128 - 12)))).length : Int)) <|
 (m71_journal_put ((((((setw (setw (List.replicate 128 (0 : UInt8)) 0 4 put_1) 8 10 put_2).set 10 kind).set 11 (UInt8.ofNat (IntKind.wrap .u8 (b.length : Int)).toNat)).take 12 ++ (b.take (128 - 12) ++ ((((setw (setw (List.replicate 128 (0 : UInt8)) 0 4 put_1) 8 10 put_2).set 10 kind).set 11 (UInt8.ofNat (IntKind.wrap .u8 (b.length : Int)).toNat)).drop 12).drop (min b.length (128 - 12)))).drop 124).take (128 - 124)) generation).bind fun put_3 =>
 ck ((0 : Int) ≤ 4 ∧ (4 : Int) < 8 ∧ (8 : Int) ≤ ((setw ((((setw (setw (List.replicate 128 (0 : UInt8)) 0 4 put_1) 8 10 put_2).set 10 kind).set 11 (UInt8.ofNat (IntKind.wrap .u8 (b.length : Int)).toNat)).take 12 ++ (b.take (128 - 12) ++ ((((setw (setw (List.replicate 128 (0 : UInt8)) 0 4 put_1) 8 10 put_2).set 10 kind).set 11 (UInt8.ofNat (IntKind.wrap .u8 (b.length : Int)).toNat)).drop 12).drop (min b.length (128 - 12)))) 124 128 put_3).length : Int)) <|
 ck ((0 : Int) ≤ 8 ∧ (8 : Int) < 124 ∧ (124 : Int) ≤ ((setw ((((setw (setw (List.replicate 128 (0 : UInt8)) 0 4 put_1) 8 10 put_2).set 10 kind).set 11 (UInt8.ofNat (IntKind.wrap .u8 (b.length : Int)).toNat)).take 12 ++ (b.take (128 - 12) ++ ((((setw (setw (List.replicate 128 (0 : UInt8)) 0 4 put_1) 8 10 put_2).set 10 kind).set 11 (UInt8.ofNat (IntKind.wrap .u8 (b.length : Int)).toNat)).drop 12).drop (min b.length (128 - 12)))) 124 128 put_3).length : Int)) <|
 (m72_journal_sum (((setw ((((setw (setw (List.replicate 128 (0 : UInt8)) 0 4 put_1) 8 10 put_2).set 10 kind).set 11 (UInt8.ofNat (IntKind.wrap .u8 (b.length : Int)).toNat)).take 12 ++ (b.take (128 - 12) ++ ((((setw (setw (List.replicate 128 (0 : UInt8)) 0 4 put_1) 8 10 put_2).set 10 kind).set 11 (UInt8.ofNat (IntKind.wrap .u8 (b.length : Int)).toNat)).drop 12).drop (min b.length (128 - 12)))) 124 128 put_3).drop 8).take (124 - 8))).bind fun sum_1 =>
 (m71_journal_put (((setw ((((setw (setw (List.replicate 128 (0 : UInt8)) 0 4 put_1) 8 10 put_2).set 10 kind).set 11 (UInt8.ofNat (IntKind.wrap .u8 (b.length : Int)).toNat)).take 12 ++ (b.take (128 - 12) ++ ((((setw (setw (List.replicate 128 (0 : UInt8)) 0 4 put_1) 8 10 put_2).set 10 kind).set 11 (UInt8.ofNat (IntKind.wrap .u8 (b.length : Int)).toNat)).drop 12).drop (min b.length (128 - 12)))) 124 128 put_3).drop 4).take (8 - 4)) (IntKind.wrap .u64 sum_1)).bind fun put_4 =>
 ck ((setw (setw ((((setw (setw (List.replicate 128 (0 : UInt8)) 0 4 put_1) 8 10 put_2).set 10 kind).set 11 (UInt8.ofNat (IntKind.wrap .u8 (b.length : Int)).toNat)).take 12 ++ (b.take (128 - 12) ++ ((((setw (setw (List.replicate 128 (0 : UInt8)) 0 4 put_1) 8 10 put_2).set 10 kind).set 11 (UInt8.ofNat (IntKind.wrap .u8 (b.length : Int)).toNat)).drop 12).drop (min b.length (128 - 12)))) 124 128 put_3) 4 8 put_4).length = 128) <|
 some (setw (setw ((((setw (setw (List.replicate 128 (0 : UInt8)) 0 4 put_1) 8 10 put_2).set 10 kind).set 11 (UInt8.ofNat (IntKind.wrap .u8 (b.length : Int)).toNat)).take 12 ++ (b.take (128 - 12) ++ ((((setw (setw (List.replicate 128 (0 : UInt8)) 0 4 put_1) 8 10 put_2).set 10 kind).set 11 (UInt8.ofNat (IntKind.wrap .u8 (b.length : Int)).toNat)).drop 12).drop (min b.length (128 - 12)))) 124 128 put_3) 4 8 put_4)

theorem c63_journal_encode {w : World} {O : List Nat} {generation : Int} {number : Int} {kind : UInt8} {b : List UInt8} {a_b : Option Addr} {c_b : Nat} (hO : ∀ k ∈ O, k < w.heap.size) (r_generation : InK .u64 generation) (r_number : InK .i64 number) (f_b : SlR rU8 w O a_b c_b b) {x : (List UInt8)} (hm : m63_journal_encode generation number kind b = some x) :
  Ok Try.prog 63 [(Value.int .u64 generation), (Value.int .i64 number), (Value.int .u8 (kind.toNat : Int)), (Value.slice a_b b.length c_b)] w O (vC (rSl rU8)) x := by
 unfold m63_journal_encode at hm
 refine Fn_of_Wp (n := 35) (xs := [.tmp 8]) Try.func63 rfl Try.ntmps63 Try.results63 rfl ?_
 have hs := St.start hO
 refine Wp_seq ?_
 refine Wp_region ?_
 refine Rg_op rfl (op_assign (v := (Value.slice none 0 0)) rfl ?_)
 refine Rg_nil ?_
 refine Wp_seq ?_
 refine Wp_region ?_
 refine Rg_op rfl (op_alloc ty105 hs ?_)
 intro b1 w2 _ p3 hs4
 replace f_b := f_b.step p3; clear p3
 have f5 := Gs.of_cells (p := rU8) (e := 105) (bl := b1) (c := 128) (w := w2) (O := ks [(some b1, Obj.cells (List.replicate 128 (Value.int .u8 0)).toArray 105)] O) (Els.rep (p := rU8) (mk_u8 (show InK .u8 0 from by decide)) 128) (List.length_replicate ..) (le_lit rfl)
 refine Rg_nil ?_
 refine Wp_seq ?_
 refine Wp_region ?_
 replace hm := ck_some hm; obtain ⟨hc7, hm⟩ := hm
 refine Rg_op rfl (op_sliceA (l := 0) (h := 4) (m := 128) ty105 ty5 rfl rfl (bndI rfl (by omega)) rfl (by decide) (by omega) (by omega) (Nat.le_refl _) ?_)
 refine Rg_op rfl (op_move (v := (Value.int .u64 generation)) rfl ?_)
 replace hm := bd hm; obtain ⟨put_1, hv8, hm⟩ := hm
 obtain ⟨ho9, hb10, hh11, hg12⟩ := St.lendW (i := 0) hs4 rfl f5
 have wv13 := winval (bl := b1) (l := 0) (h := 4) (c := 128) (xs := (List.replicate 128 (0 : UInt8))) (by omega) (by omega) f5.le.1
 refine Rg_op rfl (op_callW (i := 0) Try.call71 hs4 rfl (c71_journal_put (b := (((List.replicate 128 (0 : UInt8)).drop 0).take (4 - 0))) (n := generation) (pre_b := (List.replicate 128 (0 : UInt8)).take 0) (post_b := (List.replicate 128 (0 : UInt8)).drop 4) ho9 hb10 hh11 (winG hg12 (by omega) (by omega)) r_generation hv8) (cons2 (rfl.trans wv13) (cons2 rfl rfl)) ?_)
 intro _ w14 o15 p16 hs17 f18; clear ho9 hb10 hh11 hg12 wv13
 replace f18 : Gs rU8 _ _ (ks [(some b1, o15)] O) _ _ (setw (List.replicate 128 (0 : UInt8)) 0 4 put_1) _ _ := f18
 replace f_b := f_b.step p16; clear p16 hs4
 refine Rg_nil ?_
 refine Wp_seq ?_
 refine Wp_region ?_
 replace hm := ck_some hm; obtain ⟨hc19, hm⟩ := hm
 refine Rg_op rfl (op_sliceA (l := 8) (h := 10) (m := 128) ty105 ty5 rfl (bndI rfl (by omega)) (bndI rfl (by omega)) rfl (by decide) (by omega) (by omega) (Nat.le_refl _) ?_)
 refine Rg_op rfl (op_move (v := (Value.int .i64 number)) rfl ?_)
 refine Rg_op rfl (op_conv Try.underlying3 Try.underlying93 rfl ?_)
 replace hm := bd hm; obtain ⟨put_2, hv20, hm⟩ := hm
 obtain ⟨ho21, hb22, hh23, hg24⟩ := St.lendW (i := 0) hs17 rfl f18
 have wv25 := winval (bl := b1) (l := 8) (h := 10) (c := 128) (xs := (setw (List.replicate 128 (0 : UInt8)) 0 4 put_1)) (by omega) (by omega) f18.le.1
 refine Rg_op rfl (op_callW (i := 0) Try.call71 hs17 rfl (c71_journal_put (b := (((setw (List.replicate 128 (0 : UInt8)) 0 4 put_1).drop 8).take (10 - 8))) (n := (IntKind.wrap .u64 number)) (pre_b := (setw (List.replicate 128 (0 : UInt8)) 0 4 put_1).take 8) (post_b := (setw (List.replicate 128 (0 : UInt8)) 0 4 put_1).drop 10) ho21 hb22 hh23 (winG hg24 (by omega) (by omega)) (inK_wrap .u64 _) hv20) (cons2 (rfl.trans wv25) (cons2 rfl rfl)) ?_)
 intro _ w26 o27 p28 hs29 f30; clear ho21 hb22 hh23 hg24 wv25
 replace f30 : Gs rU8 _ _ (ks [(some b1, o27)] O) _ _ (setw (setw (List.replicate 128 (0 : UInt8)) 0 4 put_1) 8 10 put_2) _ _ := f30
 replace f_b := f_b.step p28; clear p28 hs17
 refine Rg_nil ?_
 refine Wp_seq ?_
 refine Wp_region ?_
 refine Rg_op rfl (op_move (v := (Value.int .u8 (kind.toNat : Int))) rfl ?_)
 refine Rg_op rfl (op_move (v := (Value.slice a_b b.length c_b)) rfl ?_)
 refine Rg_op rfl (op_len Try.underlying41 rfl ?_)
 have rl31 := inK_len f_b
 refine Rg_op rfl (run1_u8 (e := (IntKind.wrap .u8 (b.length : Int))) (inK_wrap .u8 _) (fun _ hk => op_conv Try.underlying3 Try.underlying5 rfl hk) ?_)
 replace hm := ck_some hm; obtain ⟨hc32, hm⟩ := hm
 refine Rg_op rfl (op_indexAddrAG ty105 ty5 rfl rfl f30 hc32 ?_)
 refine Rg_op_ (op_storeG (vs := [(Value.int .u8 (kind.toNat : Int))]) (i := 0) ty5 rfl hs29 rfl rfl rfl rfl f30 hc32 mkU8 ?_)
 intro w33 o36 p34 hs35 f37
 replace f37 : Gs _ _ _ _ _ _ ((setw (setw (List.replicate 128 (0 : UInt8)) 0 4 put_1) 8 10 put_2).set 10 kind) _ _ := f37
 replace f_b := f_b.step p34; clear p34 hs29
 replace hm := ck_some hm; obtain ⟨hc38, hm⟩ := hm
 refine Rg_op rfl (op_indexAddrAG ty105 ty5 rfl rfl f37 hc38 ?_)
 refine Rg_op_ (op_storeG (vs := [(Value.int .u8 ((UInt8.ofNat (IntKind.wrap .u8 (b.length : Int)).toNat).toNat : Int))]) (i := 0) ty5 rfl hs35 rfl rfl rfl rfl f37 hc38 mkU8 ?_)
 intro w39 o42 p40 hs41 f43
 replace f43 : Gs _ _ _ _ _ _ (((setw (setw (List.replicate 128 (0 : UInt8)) 0 4 put_1) 8 10 put_2).set 10 kind).set 11 (UInt8.ofNat (IntKind.wrap .u8 (b.length : Int)).toNat)) _ _ := f43
 replace f_b := f_b.step p40; clear p40 hs35
 refine Rg_nil ?_
 refine Wp_seq ?_
 refine Wp_region ?_
 replace hm := ck_some hm; obtain ⟨hc44, hm⟩ := hm
 refine Rg_op rfl (op_sliceA (l := 12) (h := 128) (m := 128) ty105 ty5 rfl (bndI rfl (by omega)) rfl rfl (by decide) (by omega) (by omega) (Nat.le_refl _) ?_)
 refine Rg_op rfl (op_move (v := (Value.slice a_b b.length c_b)) rfl ?_)
 replace hm := ck_some hm; obtain ⟨hc45, hm⟩ := hm
 obtain ⟨ns46, he47, hr48⟩ := f_b.src
 refine Rg_op rfl (op_copyW (p := rU8) (xs := (((setw (setw (List.replicate 128 (0 : UInt8)) 0 4 put_1) 8 10 put_2).set 10 kind).set 11 (UInt8.ofNat (IntKind.wrap .u8 (b.length : Int)).toNat))) (i := 0) (l := 12) (h := 128) ty41 ty5 rfl hs41 rfl rfl f43 rfl he47 hr48 hc45 (by omega) ?_)
 intro o52 w49 p50 hs51 f53
 replace f_b := f_b.step p50; clear p50 hs41
 have r54 : InK .i64 ((min b.length (128 - 12) : Nat) : Int) := inK_of (by have := f53.le; have hm : maxLen = 9223372036854775807 := rfl; simp at this ⊢; omega)
 refine Rg_nil ?_
 refine Wp_seq ?_
 clear f_b
 refine Wp_region ?_
 replace hm := ck_some hm; obtain ⟨hc55, hm⟩ := hm
 refine Rg_op rfl (op_sliceA (l := 124) (h := 128) (m := 128) ty105 ty5 rfl (bndI rfl (by omega)) rfl rfl (by decide) (by omega) (by omega) (Nat.le_refl _) ?_)
 refine Rg_op rfl (op_move (v := (Value.int .u64 generation)) rfl ?_)
 replace hm := bd hm; obtain ⟨put_3, hv56, hm⟩ := hm
 obtain ⟨ho57, hb58, hh59, hg60⟩ := St.lendW (i := 0) hs51 rfl f53
 have wv61 := winval (bl := b1) (l := 124) (h := 128) (c := 128) (xs := ((((setw (setw (List.replicate 128 (0 : UInt8)) 0 4 put_1) 8 10 put_2).set 10 kind).set 11 (UInt8.ofNat (IntKind.wrap .u8 (b.length : Int)).toNat)).take 12 ++ (b.take (128 - 12) ++ ((((setw (setw (List.replicate 128 (0 : UInt8)) 0 4 put_1) 8 10 put_2).set 10 kind).set 11 (UInt8.ofNat (IntKind.wrap .u8 (b.length : Int)).toNat)).drop 12).drop (min b.length (128 - 12))))) (by omega) (by omega) f53.le.1
 refine Rg_op rfl (op_callW (i := 0) Try.call71 hs51 rfl (c71_journal_put (b := ((((((setw (setw (List.replicate 128 (0 : UInt8)) 0 4 put_1) 8 10 put_2).set 10 kind).set 11 (UInt8.ofNat (IntKind.wrap .u8 (b.length : Int)).toNat)).take 12 ++ (b.take (128 - 12) ++ ((((setw (setw (List.replicate 128 (0 : UInt8)) 0 4 put_1) 8 10 put_2).set 10 kind).set 11 (UInt8.ofNat (IntKind.wrap .u8 (b.length : Int)).toNat)).drop 12).drop (min b.length (128 - 12)))).drop 124).take (128 - 124))) (n := generation) (pre_b := ((((setw (setw (List.replicate 128 (0 : UInt8)) 0 4 put_1) 8 10 put_2).set 10 kind).set 11 (UInt8.ofNat (IntKind.wrap .u8 (b.length : Int)).toNat)).take 12 ++ (b.take (128 - 12) ++ ((((setw (setw (List.replicate 128 (0 : UInt8)) 0 4 put_1) 8 10 put_2).set 10 kind).set 11 (UInt8.ofNat (IntKind.wrap .u8 (b.length : Int)).toNat)).drop 12).drop (min b.length (128 - 12)))).take 124) (post_b := ((((setw (setw (List.replicate 128 (0 : UInt8)) 0 4 put_1) 8 10 put_2).set 10 kind).set 11 (UInt8.ofNat (IntKind.wrap .u8 (b.length : Int)).toNat)).take 12 ++ (b.take (128 - 12) ++ ((((setw (setw (List.replicate 128 (0 : UInt8)) 0 4 put_1) 8 10 put_2).set 10 kind).set 11 (UInt8.ofNat (IntKind.wrap .u8 (b.length : Int)).toNat)).drop 12).drop (min b.length (128 - 12)))).drop 128) ho57 hb58 hh59 (winG hg60 (by omega) (by omega)) r_generation hv56) (cons2 (rfl.trans wv61) (cons2 rfl rfl)) ?_)
 intro _ w62 o63 p64 hs65 f66; clear ho57 hb58 hh59 hg60 wv61
 replace f66 : Gs rU8 _ _ (ks [(some b1, o63)] O) _ _ (setw ((((setw (setw (List.replicate 128 (0 : UInt8)) 0 4 put_1) 8 10 put_2).set 10 kind).set 11 (UInt8.ofNat (IntKind.wrap .u8 (b.length : Int)).toNat)).take 12 ++ (b.take (128 - 12) ++ ((((setw (setw (List.replicate 128 (0 : UInt8)) 0 4 put_1) 8 10 put_2).set 10 kind).set 11 (UInt8.ofNat (IntKind.wrap .u8 (b.length : Int)).toNat)).drop 12).drop (min b.length (128 - 12)))) 124 128 put_3) _ _ := f66
 clear p64 hs51
 refine Rg_nil ?_
 refine Wp_seq ?_
 refine Wp_reset [] [(9, (Value.pointer (some ⟨b1, 0, none⟩)))] rfl ⟨rfl, trivial⟩ fun ξ67 => ?_
 refine Wp_drawR (g0 := []) (m := 4) (fl := []) (TS_inv hs65) rfl (.inl rfl) rfl (by decide +kernel) ?_  -- 7
 replace hm := ck_some hm; obtain ⟨hc71, hm⟩ := hm
 refine Dw_eq (Value.slice (some ⟨b1, if 128 = 4 then 0 else 0 + 4 * 1, none⟩) (8 - 4) (128 - 4)) (fun ρ68 w69 g hle hi ht => ?_) ?_
 ·
  obtain ⟨-, hst, -⟩ := hle
  refine StepOp_plain (op_sliceA (l := 4) (h := 8) (m := 128) ty105 ty5 (ht 9 rfl) (bndI rfl (by omega)) (bndI rfl (by omega)) rfl (by decide) (by omega) (by omega) (Nat.le_refl _) ?_)
  exact Goes.same hi rfl
 replace hm := ck_some hm; obtain ⟨hc75, hm⟩ := hm
 refine Dw_eq (Value.slice (some ⟨b1, if 128 = 8 then 0 else 0 + 8 * 1, none⟩) (124 - 8) (128 - 8)) (fun ρ72 w73 g hle hi ht => ?_) ?_
 ·
  obtain ⟨-, hst, -⟩ := hle
  refine StepOp_plain (op_sliceA (l := 8) (h := 124) (m := 128) ty105 ty5 (ht 9 rfl) (bndI rfl (by omega)) (bndI rfl (by omega)) rfl (by decide) (by omega) (by omega) (Nat.le_refl _) ?_)
  exact Goes.same hi rfl
 replace hm := bd hm; obtain ⟨sum_1, hv79, hm⟩ := hm
 refine Dw_op (VD O [(some b1, o63)] (vI .u32) sum_1) (VD.stab _ _) (fun ρ76 w77 g hle hi ht => ?_) ?_
 ·
  obtain ⟨-, hst, -⟩ := hle
  replace f66 := f66.step hst
  have hsn := (Step.nx hi).1
  obtain ⟨hs80, p81, f82⟩ := Gs.publish (i := 0) hsn rfl (f66.step (Step.nx hi).2)
  have f83 := SlR.win (l := 8) (h := 124) rfl f82 (by omega) (by omega)
  have ln85 : 124 - 8 = (((setw ((((setw (setw (List.replicate 128 (0 : UInt8)) 0 4 put_1) 8 10 put_2).set 10 kind).set 11 (UInt8.ofNat (IntKind.wrap .u8 (b.length : Int)).toNat)).take 12 ++ (b.take (128 - 12) ++ ((((setw (setw (List.replicate 128 (0 : UInt8)) 0 4 put_1) 8 10 put_2).set 10 kind).set 11 (UInt8.ofNat (IntKind.wrap .u8 (b.length : Int)).toNat)).drop 12).drop (min b.length (128 - 12)))) 124 128 put_3).drop 8).take (124 - 8)).length := by simp only [List.length_take, List.length_drop]; omega
  refine StepOp_plain (op_call Try.call72 (c72_journal_sum (b := (((setw ((((setw (setw (List.replicate 128 (0 : UInt8)) 0 4 put_1) 8 10 put_2).set 10 kind).set 11 (UInt8.ofNat (IntKind.wrap .u8 (b.length : Int)).toNat)).take 12 ++ (b.take (128 - 12) ++ ((((setw (setw (List.replicate 128 (0 : UInt8)) 0 4 put_1) 8 10 put_2).set 10 kind).set 11 (UInt8.ofNat (IntKind.wrap .u8 (b.length : Int)).toNat)).drop 12).drop (min b.length (128 - 12)))) 124 128 put_3).drop 8).take (124 - 8))) hs80.ltw f83 hv79) (cons2 (eqlen (ht 30 rfl) ln85) rfl) ?_)
  rintro v86 w87 ⟨hx88, h89⟩; exact Goes.call hi hx88 (show Vr.vd (vI .u32) _ _ _ _ from h89)
 refine Dw_eq (Value.int .u64 (IntKind.wrap .u64 sum_1)) (fun ρ90 w91 g hle hi ht => ?_) ?_
 ·
  obtain ⟨-, hst, -⟩ := hle
  have h93 : Vr.vd (vI .u32) _ _ _ _ := ht 31 rfl
  obtain ⟨q94, r_y95⟩ := h93
  refine StepOp_plain (op_conv Try.underlying107 Try.underlying93 q94 ?_)
  exact Goes.same hi rfl
 refine Dw_nil fun w100 g101 hl102 hi103 => ?_
 obtain ⟨-, hst104, -⟩ := hl102
 obtain ⟨hs106, p105⟩ := Step.nx hi103
 rintro _ rfl
 rintro v107 h108
 replace h108 : Vr.vd (vI .u32) _ _ _ _ := h108
 obtain ⟨rfl, r_y109⟩ := h108
 rintro _ rfl
 rintro _ rfl
 have p110 : Step (ks [(some b1, o63)] O) w62 (ks [(some b1, o63)] O) w100 := hst104.trans p105
 replace f66 := f66.step p110; clear p110 hs65
 replace hm := bd hm; obtain ⟨put_4, hv111, hm⟩ := hm
 obtain ⟨ho112, hb113, hh114, hg115⟩ := St.lendW (i := 0) hs106 rfl f66
 have wv116 := winval (bl := b1) (l := 4) (h := 8) (c := 128) (xs := (setw ((((setw (setw (List.replicate 128 (0 : UInt8)) 0 4 put_1) 8 10 put_2).set 10 kind).set 11 (UInt8.ofNat (IntKind.wrap .u8 (b.length : Int)).toNat)).take 12 ++ (b.take (128 - 12) ++ ((((setw (setw (List.replicate 128 (0 : UInt8)) 0 4 put_1) 8 10 put_2).set 10 kind).set 11 (UInt8.ofNat (IntKind.wrap .u8 (b.length : Int)).toNat)).drop 12).drop (min b.length (128 - 12)))) 124 128 put_3)) (by omega) (by omega) f66.le.1
 refine Rg_op rfl (op_callW (i := 0) Try.call71 hs106 rfl (c71_journal_put (b := (((setw ((((setw (setw (List.replicate 128 (0 : UInt8)) 0 4 put_1) 8 10 put_2).set 10 kind).set 11 (UInt8.ofNat (IntKind.wrap .u8 (b.length : Int)).toNat)).take 12 ++ (b.take (128 - 12) ++ ((((setw (setw (List.replicate 128 (0 : UInt8)) 0 4 put_1) 8 10 put_2).set 10 kind).set 11 (UInt8.ofNat (IntKind.wrap .u8 (b.length : Int)).toNat)).drop 12).drop (min b.length (128 - 12)))) 124 128 put_3).drop 4).take (8 - 4))) (n := (IntKind.wrap .u64 sum_1)) (pre_b := (setw ((((setw (setw (List.replicate 128 (0 : UInt8)) 0 4 put_1) 8 10 put_2).set 10 kind).set 11 (UInt8.ofNat (IntKind.wrap .u8 (b.length : Int)).toNat)).take 12 ++ (b.take (128 - 12) ++ ((((setw (setw (List.replicate 128 (0 : UInt8)) 0 4 put_1) 8 10 put_2).set 10 kind).set 11 (UInt8.ofNat (IntKind.wrap .u8 (b.length : Int)).toNat)).drop 12).drop (min b.length (128 - 12)))) 124 128 put_3).take 4) (post_b := (setw ((((setw (setw (List.replicate 128 (0 : UInt8)) 0 4 put_1) 8 10 put_2).set 10 kind).set 11 (UInt8.ofNat (IntKind.wrap .u8 (b.length : Int)).toNat)).take 12 ++ (b.take (128 - 12) ++ ((((setw (setw (List.replicate 128 (0 : UInt8)) 0 4 put_1) 8 10 put_2).set 10 kind).set 11 (UInt8.ofNat (IntKind.wrap .u8 (b.length : Int)).toNat)).drop 12).drop (min b.length (128 - 12)))) 124 128 put_3).drop 8) ho112 hb113 hh114 (winG hg115 (by omega) (by omega)) (inK_wrap .u64 _) hv111) (cons2 (rfl.trans wv116) (cons2 rfl rfl)) ?_)
 intro _ w117 o118 p119 hs120 f121; clear ho112 hb113 hh114 hg115 wv116
 replace f121 : Gs rU8 _ _ (ks [(some b1, o118)] O) _ _ (setw (setw ((((setw (setw (List.replicate 128 (0 : UInt8)) 0 4 put_1) 8 10 put_2).set 10 kind).set 11 (UInt8.ofNat (IntKind.wrap .u8 (b.length : Int)).toNat)).take 12 ++ (b.take (128 - 12) ++ ((((setw (setw (List.replicate 128 (0 : UInt8)) 0 4 put_1) 8 10 put_2).set 10 kind).set 11 (UInt8.ofNat (IntKind.wrap .u8 (b.length : Int)).toNat)).drop 12).drop (min b.length (128 - 12)))) 124 128 put_3) 4 8 put_4) _ _ := f121
 clear p119 hs106
 refine Rg_nil ?_
 refine Wp_seq ?_
 refine Wp_region ?_
 replace hm := ck_some hm; obtain ⟨hc122, hm⟩ := hm
 refine Rg_op rfl (op_sliceA (l := 0) (h := 128) (m := 128) ty105 ty5 rfl rfl rfl rfl (by decide) (by omega) (by omega) (Nat.le_refl _) ?_)
 refine Rg_op rfl (op_assign (v := (Value.slice (some ⟨b1, 0, none⟩) (setw (setw ((((setw (setw (List.replicate 128 (0 : UInt8)) 0 4 put_1) 8 10 put_2).set 10 kind).set 11 (UInt8.ofNat (IntKind.wrap .u8 (b.length : Int)).toNat)).take 12 ++ (b.take (128 - 12) ++ ((((setw (setw (List.replicate 128 (0 : UInt8)) 0 4 put_1) 8 10 put_2).set 10 kind).set 11 (UInt8.ofNat (IntKind.wrap .u8 (b.length : Int)).toNat)).drop 12).drop (min b.length (128 - 12)))) 124 128 put_3) 4 8 put_4).length 128)) (eqlen rfl (hc122).symm) ?_)
 refine Rg_nil ?_
 refine Wp_ret ?_
 obtain ⟨hs124, p125, f123⟩ := Gs.publish (i := 0) hs120 rfl f121
 clear p125 hs120
 have hz := step_all hs124
 replace f123 := f123.step hz
 refine ⟨_, (show Closes [] _ _ from rfl), [(Value.slice (some ⟨b1, 0, none⟩) (setw (setw ((((setw (setw (List.replicate 128 (0 : UInt8)) 0 4 put_1) 8 10 put_2).set 10 kind).set 11 (UInt8.ofNat (IntKind.wrap .u8 (b.length : Int)).toNat)).take 12 ++ (b.take (128 - 12) ++ ((((setw (setw (List.replicate 128 (0 : UInt8)) 0 4 put_1) 8 10 put_2).set 10 kind).set 11 (UInt8.ofNat (IntKind.wrap .u8 (b.length : Int)).toNat)).drop 12).drop (min b.length (128 - 12)))) 124 128 put_3) 4 8 put_4).length 128)], ⟨rfl, trivial⟩, hs124.ext, ?_⟩
 exact Vr.eq (a := (vC (rSl rU8))) (x := (setw (setw ((((setw (setw (List.replicate 128 (0 : UInt8)) 0 4 put_1) 8 10 put_2).set 10 kind).set 11 (UInt8.ofNat (IntKind.wrap .u8 (b.length : Int)).toNat)).take 12 ++ (b.take (128 - 12) ++ ((((setw (setw (List.replicate 128 (0 : UInt8)) 0 4 put_1) 8 10 put_2).set 10 kind).set 11 (UInt8.ofNat (IntKind.wrap .u8 (b.length : Int)).toNat)).drop 12).drop (min b.length (128 - 12)))) 124 128 put_3) 4 8 put_4)) (mkC (mk_sl f123)) (Option.some.inj hm)

end Go.Fx



set_option linter.unusedVariables false
set_option linter.unusedSimpArgs false
set_option maxRecDepth 100000
set_option maxHeartbeats 0
namespace Go.Fx
open Go Go.RowKit Go.Proofs
def m70_journal_good (s : List UInt8) (number : Int) : Option Bool :=
 ck ((0 : Int) ≤ 11 ∧ 11 < (s.length : Int)) <|
 jn (fun (v_1 : Bool) =>
  bif v_1 then
   some false
  else
   ck ((0 : Int) ≤ (4 : Int) ∧ (4 : Int) ≤ (s.length : Int)) <|
   (m60_journal_get ((s.drop 0).take (4 - 0))).bind fun get_1 =>
   bif (decide (0 < get_1)) then
    ck ((0 : Int) ≤ 10 ∧ 10 < (s.length : Int)) <|
    ck ((0 : Int) ≤ 12 ∧ (12 : Int) ≤ (IntKind.wrap .i64 (12 + ((s.getD 11 default).toNat : Int))) ∧ (IntKind.wrap .i64 (12 + ((s.getD 11 default).toNat : Int))) ≤ (s.length : Int)) <|
    (m63_journal_encode get_1 number (s.getD 10 default) ((s.drop 12).take ((IntKind.wrap .i64 (12 + ((s.getD 11 default).toNat : Int))).toNat - 12))).bind fun encode_1 =>
    (m62_bytes_Equal s encode_1).bind fun equal_1 =>
    some equal_1
   else
    some false)
 (fun k9 =>
  bif (decide (112 < ((s.getD 11 default).toNat : Int))) then
   k9 true
  else
   ck ((0 : Int) ≤ 10 ∧ 10 < (s.length : Int)) <|
   bif (decide (3 < ((s.getD 10 default).toNat : Int))) then
    k9 true
   else
    ck ((0 : Int) ≤ 10 ∧ 10 < (s.length : Int)) <|
    bif (decide (((UInt8.ofNat (Go.bits .and .u8 ((s.getD 10 default).toNat : Int) 2).toNat).toNat : Int) = 0)) then
     bif (decide (((s.getD 11 default).toNat : Int) < 112)) then
      k9 true
     else
      ck ((0 : Int) ≤ 10 ∧ 10 < (s.length : Int)) <|
      bif (decide (((UInt8.ofNat (Go.bits .and .u8 ((s.getD 10 default).toNat : Int) 1).toNat).toNat : Int) = 0)) then
       k9 (decide (((s.getD 11 default).toNat : Int) = 0))
      else
       k9 false
    else
     ck ((0 : Int) ≤ 10 ∧ 10 < (s.length : Int)) <|
     bif (decide (((UInt8.ofNat (Go.bits .and .u8 ((s.getD 10 default).toNat : Int) 1).toNat).toNat : Int) = 0)) then
      k9 (decide (((s.getD 11 default).toNat : Int) = 0))
     else
      k9 false)

theorem c70_journal_good {w : World} {O : List Nat} {s : List UInt8} {number : Int} {a_s : Option Addr} {c_s : Nat} (hO : ∀ k ∈ O, k < w.heap.size) (f_s : SlR rU8 w O a_s c_s s) (r_number : InK .i64 number) {x : Bool} (hm : m70_journal_good s number = some x) :
  Ok Try.prog 70 [(Value.slice a_s s.length c_s), (Value.int .i64 number)] w O vB x := by
 unfold m70_journal_good at hm
 refine Fn_of_Wp (n := 60) (xs := [.tmp 4]) Try.func70 rfl Try.ntmps70 Try.results70 rfl ?_
 have hs := St.start hO
 refine Wp_seq ?_
 refine Wp_region ?_
 refine Rg_op rfl (op_assign (v := (Value.bool false)) rfl ?_)
 refine Rg_nil ?_
 refine Wp_seq ?_
 refine Wp_region ?_
 refine Rg_op rfl (op_move (v := (Value.slice a_s s.length c_s)) rfl ?_)
 replace hm := ck_some hm; obtain ⟨hc1, hm⟩ := hm
 refine Rg_op rfl (op_indexAddr (q := rU8) ty41 ty5 rfl rfl f_s rfl hc1.1 hc1.2 ?_)
 intro p2 f3
 replace f3 : PtR rU8 _ _ p2 (s.getD 11 default) := f3
 refine Rg_op rfl (op_loadP ty5 rfl f3 rfl ?_)
 intro v4 h5
 obtain rfl := un_u8 h5
 refine Rg_op rfl (op_conv_u8 Try.underlying5 Try.underlying3 rfl (by decide) ?_)
 refine Rg_op rfl (op_assign (v := (Value.int .i64 ((s.getD 11 default).toNat : Int))) rfl ?_)
 refine Rg_nil ?_
 refine Wp_seq ?_
 refine Wp_reset [] [(0, (Value.slice a_s s.length c_s)), (1, (Value.int .i64 number)), (5, (Value.int .i64 ((s.getD 11 default).toNat : Int)))] rfl ⟨rfl, rfl, rfl, trivial⟩ fun ξ7 => ?_
 replace hm := jn_elim hm; obtain ⟨k9, hk10, hm⟩ := hm
 refine Wp_seqJ [11, 12, 13, 14, 15, 16, 17, 18, 19, 20, 21, 22, 23, 24, 25, 26, 27, 28, 29, 30, 31, 32, 33, 34, 35, 36, 37, 38, 39, 40] (fun fr w' => ∃ (v_1 : Bool) (Ebs : Ents), Ebs = [] ∧ fr [] [(40, (Value.bool v_1))] ∧ Step (ks [] O) w (ks Ebs O) w' ∧ St ⟨w, [], []⟩ O w' Ebs ∧ k9 v_1 = some x) ?_ ?_
 ·
  rintro ρ16 w12 ⟨v_1, Ebs, hEbs, hfr15, hst14, hs13, hm⟩
  replace hm := jnE1 hk10 hm
  subst hEbs; rw [hfr15.eq]; clear hfr15
  replace f_s := f_s.step hst14; replace f3 := f3.step hst14; clear hst14
  refine Wp_cond rfl (fun hc17 => ?_) (fun hc17 => ?_)
  ·
   replace hm := bif_t hm hc17
   refine Wp_seq ?_
   clear f_s f3
   refine Wp_region ?_
   refine Rg_op rfl (op_assign (v := (Value.bool false)) rfl ?_)
   refine Rg_nil ?_
   refine Wp_ret ?_
   have hz := step_all hs13
   refine ⟨_, (show Closes [] _ _ from rfl), [(Value.bool false)], ⟨rfl, trivial⟩, hs13.ext, ?_⟩
   exact Vr.eq (a := vB) (x := false) rfl (Option.some.inj hm)
  ·
   replace hm := bif_f hm hc17
   refine Wp_skip ?_
   refine Wp_seq ?_
   clear f3
   refine Wp_region ?_
   refine Rg_op rfl (op_move (v := (Value.slice a_s s.length c_s)) rfl ?_)
   replace hm := ck_some hm; obtain ⟨hc18, hm⟩ := hm
   refine Rg_op rfl (op_slice (q := rU8) (l := 0) (h := 4) (m := c_s) ty41 ty5 rfl f_s rfl rfl (bndI rfl (by omega)) rfl (by decide) (by omega) (by omega) (by have h_ : s.length ≤ c_s := f_s.le; omega) (by have h_ : s.length ≤ c_s := f_s.le; omega) ?_)
   intro a19 f20
   replace hm := bd hm; obtain ⟨get_1, hv21, hm⟩ := hm
   refine Rg_op rfl (op_call Try.call60 (c60_journal_get (b := ((s.drop 0).take (4 - 0))) hs13.ltw f20 hv21) rfl ?_)
   rintro v22 w23 ⟨hx24, h25⟩
   have hs26 := hs13.call hx24
   have p27 := Step.ext (O := ks [] O) hx24
   clear hx24
   replace f_s := f_s.step p27; replace f20 := f20.step p27; clear p27 hs13
   obtain ⟨rfl, r_y28⟩ := h25
   refine Rg_op rfl (op_assign (v := (Value.int .u64 get_1)) rfl ?_)
   refine Rg_nil ?_
   refine Wp_seq ?_
   clear f20
   refine Wp_drawR (g0 := []) (m := 14) (fl := []) (TS_inv hs26) rfl (.inl rfl) rfl (by decide +kernel) ?_  -- 5
   refine Dw_eq (Value.int .u64 get_1) (fun ρ29 w30 g hle hi ht => ?_) ?_
   ·
    obtain ⟨-, hst, -⟩ := hle
    refine StepOp_plain (op_move (v := (Value.int .u64 get_1)) (ht 6 rfl) ?_)
    exact Goes.same hi rfl
   refine Dw_eq (Value.bool (decide (0 < get_1))) (fun ρ32 w33 g hle hi ht => ?_) ?_
   ·
    obtain ⟨-, hst, -⟩ := hle
    refine StepOp_plain (op_gtr (ht 44 rfl) rfl ?_)
    exact Goes.same hi rfl
   refine Dw_opB (decide (0 < get_1)) (fun ρ35 w36 g hle hi ht => ?_) (fun hg38 => ?_) (fun hg38 => ?_)
   ·
    obtain ⟨-, hst, -⟩ := hle
    refine StepOp_plain (op_move (v := (Value.bool (decide (0 < get_1)))) (ht 45 rfl) ?_)
    exact Goes.same hi rfl
   ·
    replace hm := bif_t hm hg38
    refine Dw_eq (Value.slice a_s s.length c_s) (fun ρ39 w40 g hle hi ht => ?_) ?_
    ·
     obtain ⟨-, hst, -⟩ := hle
     refine StepOp_g rfl (ht 46 rfl) (op_move (v := (Value.slice a_s s.length c_s)) (ht 0 rfl) ?_)
     exact Goes.same hi rfl
    refine Dw_eq (Value.int .u64 get_1) (fun ρ42 w43 g hle hi ht => ?_) ?_
    ·
     obtain ⟨-, hst, -⟩ := hle
     refine StepOp_g rfl (ht 46 rfl) (op_move (v := (Value.int .u64 get_1)) (ht 6 rfl) ?_)
     exact Goes.same hi rfl
    refine Dw_eq (Value.int .i64 number) (fun ρ45 w46 g hle hi ht => ?_) ?_
    ·
     obtain ⟨-, hst, -⟩ := hle
     refine StepOp_g rfl (ht 46 rfl) (op_move (v := (Value.int .i64 number)) (ht 1 rfl) ?_)
     exact Goes.same hi rfl
    refine Dw_eq (Value.slice a_s s.length c_s) (fun ρ48 w49 g hle hi ht => ?_) ?_
    ·
     obtain ⟨-, hst, -⟩ := hle
     refine StepOp_g rfl (ht 46 rfl) (op_move (v := (Value.slice a_s s.length c_s)) (ht 0 rfl) ?_)
     exact Goes.same hi rfl
    replace hm := ck_some hm; obtain ⟨hc54, hm⟩ := hm
    refine Dw_op (VP O [] rU8 (s.getD 10 default)) (VP.stab _ _) (fun ρ51 w52 g hle hi ht => ?_) ?_
    ·
     obtain ⟨-, hst, -⟩ := hle
     replace f_s := f_s.step hst
     refine StepOp_g rfl (ht 46 rfl) (op_indexAddr (q := rU8) ty41 ty5 (ht 50 rfl) rfl f_s rfl hc54.1 hc54.2 ?_)
     intro p55 f56
     replace f56 : PtR rU8 _ _ p55 (s.getD 10 default) := f56
     exact Goes.same hi ⟨_, rfl, f56⟩
    refine Dw_eq (Value.int .u8 ((s.getD 10 default).toNat : Int)) (fun ρ57 w58 g hle hi ht => ?_) ?_
    ·
     obtain ⟨-, hst, -⟩ := hle
     obtain ⟨p60, q61, f62⟩ := ht 51 rfl
     refine StepOp_g rfl (ht 46 rfl) (op_loadP ty5 q61 f62 rfl ?_)
     intro v63 h64
     obtain rfl := un_u8 h64
     exact Goes.same hi rfl
    refine Dw_eq (Value.slice a_s s.length c_s) (fun ρ66 w67 g hle hi ht => ?_) ?_
    ·
     obtain ⟨-, hst, -⟩ := hle
     refine StepOp_g rfl (ht 46 rfl) (op_move (v := (Value.slice a_s s.length c_s)) (ht 0 rfl) ?_)
     exact Goes.same hi rfl
    refine Dw_eq (Value.int .i64 ((s.getD 11 default).toNat : Int)) (fun ρ69 w70 g hle hi ht => ?_) ?_
    ·
     obtain ⟨-, hst, -⟩ := hle
     refine StepOp_g rfl (ht 46 rfl) (op_move (v := (Value.int .i64 ((s.getD 11 default).toNat : Int))) (ht 5 rfl) ?_)
     exact Goes.same hi rfl
    refine Dw_eq (Value.int .i64 (IntKind.wrap .i64 (12 + ((s.getD 11 default).toNat : Int)))) (fun ρ72 w73 g hle hi ht => ?_) ?_
    ·
     obtain ⟨-, hst, -⟩ := hle
     refine StepOp_g rfl (ht 46 rfl) (op_addw rfl (ht 54 rfl) ?_)
     exact Goes.same hi rfl
    replace hm := ck_some hm; obtain ⟨hc78, hm⟩ := hm
    refine Dw_op (VD O [] (vC (rSl rU8)) ((s.drop 12).take ((IntKind.wrap .i64 (12 + ((s.getD 11 default).toNat : Int))).toNat - 12))) (VD.stab _ _) (fun ρ75 w76 g hle hi ht => ?_) ?_
    ·
     obtain ⟨-, hst, -⟩ := hle
     replace f_s := f_s.step hst
     refine StepOp_g rfl (ht 46 rfl) (op_slice (q := rU8) (l := 12) (h := (IntKind.wrap .i64 (12 + ((s.getD 11 default).toNat : Int))).toNat) (m := c_s) ty41 ty5 (ht 53 rfl) f_s rfl (bndI rfl (by omega)) (bndI (ht 55 rfl) (by omega)) rfl (by decide) (by omega) (by omega) (by have h_ : s.length ≤ c_s := f_s.le; omega) (by have h_ : s.length ≤ c_s := f_s.le; omega) ?_)
     intro a79 f80
     exact Goes.same hi (show Vr.vd (vC (rSl rU8)) _ _ _ _ from (mkC (mk_sl f80)))
    replace hm := bd hm; obtain ⟨encode_1, hv87, hm⟩ := hm
    refine Dw_op (VD O [] (vC (rSl rU8)) encode_1) (VD.stab _ _) (fun ρ81 w82 g hle hi ht => ?_) ?_
    ·
     obtain ⟨-, hst, -⟩ := hle
     have h84 : Vr.vd (vC (rSl rU8)) _ _ _ _ := ht 56 rfl
     obtain ⟨a_y86, c_y86, q85, f_y86⟩ := un_sl h84
     refine StepOp_g rfl (ht 46 rfl) (op_call Try.call63 (c63_journal_encode (O := ks (ents g ++ []) O) (generation := get_1) (number := number) (kind := (s.getD 10 default)) (b := ((s.drop 12).take ((IntKind.wrap .i64 (12 + ((s.getD 11 default).toNat : Int))).toNat - 12))) hi.ltw r_y28 r_number f_y86 hv87) (by simp only [List.map, Array.toList, (show ev _ (.tmp 48) = _ from (ht 48 rfl)), (show ev _ (.tmp 49) = _ from (ht 49 rfl)), (show ev _ (.tmp 52) = _ from (ht 52 rfl)), (show ev _ (.tmp 56) = _ from q85)] <;> rfl) ?_)
     rintro v88 w89 ⟨hx90, h91⟩
     exact Goes.call hi hx90 h91
    refine Dw_nil fun w97 g98 hl99 hi100 => ?_
    obtain ⟨-, hst101, -⟩ := hl99
    obtain ⟨hs103, p102⟩ := Step.nx hi100
    rintro v104 h105
    replace h105 : Vr.vd (vC (rSl rU8)) _ _ _ _ := h105
    obtain ⟨a_y106, c_y106, rfl, f_y106⟩ := un_sl h105
    rintro v107 h108
    replace h108 : Vr.vd (vC (rSl rU8)) _ _ _ _ := h108
    obtain ⟨a_y109, c_y109, rfl, f_y109⟩ := un_sl h108
    rintro _ rfl
    rintro _ rfl
    rintro _ rfl
    rintro _ rfl
    rintro _ ⟨p110, rfl, f111⟩
    rintro _ rfl
    rintro _ rfl
    rintro _ rfl
    rintro _ rfl
    rintro _ rfl
    rintro _ rfl
    rintro _ rfl
    have p112 : Step (ks [] O) w23 (ks [] O) w97 := hst101.trans p102
    replace f_y106 := f_y106.step p102; replace f_y109 := f_y109.step p102; replace f111 := f111.step p102; replace f_s := f_s.step p112; clear p112 hs26
    replace hm := bd hm; obtain ⟨equal_1, hv113, hm⟩ := hm
    refine Rg_opg rfl rfl rfl (op_call Try.call62 (c62_bytes_Equal (a := s) (b := encode_1) hs103.ltw f_s f_y106 hv113) rfl ?_)
    rintro v114 w115 ⟨hx116, h117⟩
    have hs118 := hs103.call hx116
    have p119 := Step.ext (O := ks [] O) hx116
    clear hx116
    replace f_s := f_s.step p119; replace f_y106 := f_y106.step p119; replace f_y109 := f_y109.step p119; replace f111 := f111.step p119; clear p119 hs103
    obtain rfl := h117
    refine Rg_op rfl (op_pick_t (v := (Value.bool equal_1)) rfl rfl ?_)
    refine Rg_op rfl (op_assign (v := (Value.bool equal_1)) rfl ?_)
    refine Rg_nil ?_
    refine Wp_ret ?_
    have hz := step_all hs118
    replace f_s := f_s.step hz; replace f_y106 := f_y106.step hz; replace f_y109 := f_y109.step hz; replace f111 := f111.step hz
    refine ⟨_, (show Closes [] _ _ from rfl), [(Value.bool equal_1)], ⟨rfl, trivial⟩, hs118.ext, ?_⟩
    exact Vr.eq (a := vB) (x := equal_1) rfl (Option.some.inj hm)
   ·
    replace hm := bif_f hm hg38
    refine Dw_skip (fun _ _ _ ht => wanted_x rfl (ht 46 rfl) rfl) ?_
    refine Dw_skip (fun _ _ _ ht => wanted_x rfl (ht 46 rfl) rfl) ?_
    refine Dw_skip (fun _ _ _ ht => wanted_x rfl (ht 46 rfl) rfl) ?_
    refine Dw_skip (fun _ _ _ ht => wanted_x rfl (ht 46 rfl) rfl) ?_
    refine Dw_skip (fun _ _ _ ht => wanted_x rfl (ht 46 rfl) rfl) ?_
    refine Dw_skip (fun _ _ _ ht => wanted_x rfl (ht 46 rfl) rfl) ?_
    refine Dw_skip (fun _ _ _ ht => wanted_x rfl (ht 46 rfl) rfl) ?_
    refine Dw_skip (fun _ _ _ ht => wanted_x rfl (ht 46 rfl) rfl) ?_
    refine Dw_skip (fun _ _ _ ht => wanted_x rfl (ht 46 rfl) rfl) ?_
    refine Dw_skip (fun _ _ _ ht => wanted_x rfl (ht 46 rfl) rfl) ?_
    refine Dw_skip (fun _ _ _ ht => wanted_x rfl (ht 46 rfl) rfl) ?_
    refine Dw_nil fun w125 g126 hl127 hi128 => ?_
    obtain ⟨-, hst129, -⟩ := hl127
    obtain ⟨hs131, p130⟩ := Step.nx hi128
    rintro _ rfl
    rintro _ rfl
    rintro _ rfl
    rintro _ rfl
    rintro _ rfl
    rintro _ rfl
    rintro _ rfl
    rintro _ rfl
    rintro _ rfl
    rintro _ rfl
    rintro _ rfl
    rintro _ rfl
    rintro _ rfl
    rintro _ rfl
    have p132 : Step (ks [] O) w23 (ks [] O) w125 := hst129.trans p130
    replace f_s := f_s.step p132; clear p132 hs26
    refine Rg_opx rfl (asB_ne rfl rfl) rfl ?_
    refine Rg_op rfl (op_pick_f (v := (Value.bool false)) rfl rfl ?_)
    refine Rg_op rfl (op_assign (v := (Value.bool false)) rfl ?_)
    refine Rg_nil ?_
    refine Wp_ret ?_
    have hz := step_all hs131
    replace f_s := f_s.step hz
    refine ⟨_, (show Closes [] _ _ from rfl), [(Value.bool false)], ⟨rfl, trivial⟩, hs131.ext, ?_⟩
    exact Vr.eq (a := vB) (x := false) rfl (Option.some.inj hm)
 ·
  intro K11 hK11
  have ch133 := Step.refl (ks [] O) w
  clear f3
  refine Wp_region ?_
  refine Rg_op rfl (op_move (v := (Value.int .i64 ((s.getD 11 default).toNat : Int))) rfl ?_)
  refine Rg_op rfl (op_gtr rfl rfl ?_)
  refine Rg_op rfl (op_move (v := (Value.bool (decide (112 < ((s.getD 11 default).toNat : Int))))) rfl ?_)
  refine Rg_case (fun hg134 => ?_) (fun hg134 => ?_)
  ·
   replace hm := bif_t hm hg134
   iterate 4 refine Rg_opx rfl (asB_ne rfl rfl) rfl ?_
   refine Rg_op rfl (op_pick_t (v := (Value.bool true)) rfl rfl ?_)
   refine Rg_op rfl (op_move (v := (Value.bool true)) rfl ?_)
   iterate 9 refine Rg_opx rfl (asB_ne rfl rfl) rfl ?_
   refine Rg_op rfl (op_pick_t (v := (Value.bool true)) rfl rfl ?_)
   refine Rg_op rfl (op_move (v := (Value.bool true)) rfl ?_)
   iterate 9 refine Rg_opx rfl (asB_ne rfl rfl) rfl ?_
   refine Rg_op rfl (op_pick_t (v := (Value.bool true)) rfl rfl ?_)
   refine Rg_nil ?_
   exact hK11 _ _ ⟨true, _, rfl, ⟨(by repeat (first | with_reducible exact Out.refl _ _ | refine Out.upd ?_ rfl | refine Out.updL ?_ rfl | refine Out.mix' ?_ rfl | exact Out.refl _ _)), rfl, rfl, trivial⟩, ch133, hs, hm⟩
  ·
   replace hm := bif_f hm hg134
   refine Rg_opg rfl rfl rfl (op_move (v := (Value.slice a_s s.length c_s)) rfl ?_)
   replace hm := ck_some hm; obtain ⟨hc135, hm⟩ := hm
   refine Rg_opg rfl rfl rfl (op_indexAddr (q := rU8) ty41 ty5 rfl rfl f_s rfl hc135.1 hc135.2 ?_)
   intro p136 f137
   replace f137 : PtR rU8 _ _ p136 (s.getD 10 default) := f137
   refine Rg_opg rfl rfl rfl (op_loadP ty5 rfl f137 rfl ?_)
   intro v138 h139
   obtain rfl := un_u8 h139
   refine Rg_opg rfl rfl rfl (op_gtr rfl rfl ?_)
   refine Rg_op rfl (op_pick_f (v := (Value.bool (decide (3 < ((s.getD 10 default).toNat : Int))))) rfl rfl ?_)
   refine Rg_op rfl (op_move (v := (Value.bool (decide (3 < ((s.getD 10 default).toNat : Int))))) rfl ?_)
   refine Rg_case (fun hg141 => ?_) (fun hg141 => ?_)
   ·
    replace hm := bif_t hm hg141
    iterate 9 refine Rg_opx rfl (asB_ne rfl rfl) rfl ?_
    refine Rg_op rfl (op_pick_t (v := (Value.bool true)) rfl rfl ?_)
    refine Rg_op rfl (op_move (v := (Value.bool true)) rfl ?_)
    iterate 9 refine Rg_opx rfl (asB_ne rfl rfl) rfl ?_
    refine Rg_op rfl (op_pick_t (v := (Value.bool true)) rfl rfl ?_)
    refine Rg_nil ?_
    exact hK11 _ _ ⟨true, _, rfl, ⟨(by repeat (first | with_reducible exact Out.refl _ _ | refine Out.upd ?_ rfl | refine Out.updL ?_ rfl | refine Out.mix' ?_ rfl | exact Out.refl _ _)), rfl, rfl, trivial⟩, ch133, hs, hm⟩
   ·
    replace hm := bif_f hm hg141
    refine Rg_opg rfl rfl rfl (op_move (v := (Value.slice a_s s.length c_s)) rfl ?_)
    replace hm := ck_some hm; obtain ⟨hc142, hm⟩ := hm
    refine Rg_opg rfl rfl rfl (op_indexAddr (q := rU8) ty41 ty5 rfl rfl f_s rfl hc142.1 hc142.2 ?_)
    intro p143 f144
    replace f144 : PtR rU8 _ _ p143 (s.getD 10 default) := f144
    refine Rg_opg rfl rfl rfl (op_loadP ty5 rfl f144 rfl ?_)
    intro v145 h146
    obtain rfl := un_u8 h146
    refine Rg_opg rfl rfl rfl (run1_u8 (e := (Go.bits .and .u8 ((s.getD 10 default).toNat : Int) 2)) (inK_bits .and .u8 _ _) (fun _ hk => op_and rfl rfl hk) ?_)
    refine Rg_opg rfl rfl rfl (op_eql rfl rfl ?_)
    refine Rg_opg rfl rfl rfl (op_move (v := (Value.bool (decide (((UInt8.ofNat (Go.bits .and .u8 ((s.getD 10 default).toNat : Int) 2).toNat).toNat : Int) = 0)))) rfl ?_)
    refine Rg_case (fun hg148 => ?_) (fun hg148 => ?_)
    ·
     replace hm := bif_t hm hg148
     refine Rg_opg rfl rfl rfl (op_move (v := (Value.int .i64 ((s.getD 11 default).toNat : Int))) rfl ?_)
     refine Rg_opg rfl rfl rfl (op_lss rfl rfl ?_)
     refine Rg_opg rfl rfl rfl (op_pick_t (v := (Value.bool (decide (((s.getD 11 default).toNat : Int) < 112)))) rfl rfl ?_)
     refine Rg_op rfl (op_pick_f (v := (Value.bool (decide (((s.getD 11 default).toNat : Int) < 112)))) rfl rfl ?_)
     refine Rg_op rfl (op_move (v := (Value.bool (decide (((s.getD 11 default).toNat : Int) < 112)))) rfl ?_)
     refine Rg_case (fun hg149 => ?_) (fun hg149 => ?_)
     ·
      replace hm := bif_t hm hg149
      iterate 9 refine Rg_opx rfl (asB_ne rfl rfl) rfl ?_
      refine Rg_op rfl (op_pick_t (v := (Value.bool true)) rfl rfl ?_)
      refine Rg_nil ?_
      exact hK11 _ _ ⟨true, _, rfl, ⟨(by repeat (first | with_reducible exact Out.refl _ _ | refine Out.upd ?_ rfl | refine Out.updL ?_ rfl | refine Out.mix' ?_ rfl | exact Out.refl _ _)), rfl, rfl, trivial⟩, ch133, hs, hm⟩
     ·
      replace hm := bif_f hm hg149
      refine Rg_opg rfl rfl rfl (op_move (v := (Value.slice a_s s.length c_s)) rfl ?_)
      replace hm := ck_some hm; obtain ⟨hc150, hm⟩ := hm
      refine Rg_opg rfl rfl rfl (op_indexAddr (q := rU8) ty41 ty5 rfl rfl f_s rfl hc150.1 hc150.2 ?_)
      intro p151 f152
      replace f152 : PtR rU8 _ _ p151 (s.getD 10 default) := f152
      refine Rg_opg rfl rfl rfl (op_loadP ty5 rfl f152 rfl ?_)
      intro v153 h154
      obtain rfl := un_u8 h154
      refine Rg_opg rfl rfl rfl (run1_u8 (e := (Go.bits .and .u8 ((s.getD 10 default).toNat : Int) 1)) (inK_bits .and .u8 _ _) (fun _ hk => op_and rfl rfl hk) ?_)
      refine Rg_opg rfl rfl rfl (op_eql rfl rfl ?_)
      refine Rg_opg rfl rfl rfl (op_move (v := (Value.bool (decide (((UInt8.ofNat (Go.bits .and .u8 ((s.getD 10 default).toNat : Int) 1).toNat).toNat : Int) = 0)))) rfl ?_)
      refine Rg_case (fun hg156 => ?_) (fun hg156 => ?_)
      ·
       replace hm := bif_t hm hg156
       refine Rg_opg rfl rfl rfl (op_move (v := (Value.int .i64 ((s.getD 11 default).toNat : Int))) rfl ?_)
       refine Rg_opg rfl rfl rfl (op_eql rfl rfl ?_)
       refine Rg_opg rfl rfl rfl (op_pick_t (v := (Value.bool (decide (((s.getD 11 default).toNat : Int) = 0)))) rfl rfl ?_)
       refine Rg_op rfl (op_pick_f (v := (Value.bool (decide (((s.getD 11 default).toNat : Int) = 0)))) rfl rfl ?_)
       refine Rg_nil ?_
       exact hK11 _ _ ⟨(decide (((s.getD 11 default).toNat : Int) = 0)), _, rfl, ⟨(by repeat (first | with_reducible exact Out.refl _ _ | refine Out.upd ?_ rfl | refine Out.updL ?_ rfl | refine Out.mix' ?_ rfl | exact Out.refl _ _)), rfl, rfl, trivial⟩, ch133, hs, hm⟩
      ·
       replace hm := bif_f hm hg156
       iterate 2 refine Rg_opx rfl (asB_ne rfl rfl) rfl ?_
       refine Rg_opg rfl rfl rfl (op_pick_f (v := (Value.bool false)) rfl rfl ?_)
       refine Rg_op rfl (op_pick_f (v := (Value.bool false)) rfl rfl ?_)
       refine Rg_nil ?_
       exact hK11 _ _ ⟨false, _, rfl, ⟨(by repeat (first | with_reducible exact Out.refl _ _ | refine Out.upd ?_ rfl | refine Out.updL ?_ rfl | refine Out.mix' ?_ rfl | exact Out.refl _ _)), rfl, rfl, trivial⟩, ch133, hs, hm⟩
    ·
     replace hm := bif_f hm hg148
     iterate 2 refine Rg_opx rfl (asB_ne rfl rfl) rfl ?_
     refine Rg_opg rfl rfl rfl (op_pick_f (v := (Value.bool false)) rfl rfl ?_)
     refine Rg_op rfl (op_pick_f (v := (Value.bool false)) rfl rfl ?_)
     refine Rg_op rfl (op_move (v := (Value.bool false)) rfl ?_)
     refine Rg_opg rfl rfl rfl (op_move (v := (Value.slice a_s s.length c_s)) rfl ?_)
     replace hm := ck_some hm; obtain ⟨hc157, hm⟩ := hm
     refine Rg_opg rfl rfl rfl (op_indexAddr (q := rU8) ty41 ty5 rfl rfl f_s rfl hc157.1 hc157.2 ?_)
     intro p158 f159
     replace f159 : PtR rU8 _ _ p158 (s.getD 10 default) := f159
     refine Rg_opg rfl rfl rfl (op_loadP ty5 rfl f159 rfl ?_)
     intro v160 h161
     obtain rfl := un_u8 h161
     refine Rg_opg rfl rfl rfl (run1_u8 (e := (Go.bits .and .u8 ((s.getD 10 default).toNat : Int) 1)) (inK_bits .and .u8 _ _) (fun _ hk => op_and rfl rfl hk) ?_)
     refine Rg_opg rfl rfl rfl (op_eql rfl rfl ?_)
     refine Rg_opg rfl rfl rfl (op_move (v := (Value.bool (decide (((UInt8.ofNat (Go.bits .and .u8 ((s.getD 10 default).toNat : Int) 1).toNat).toNat : Int) = 0)))) rfl ?_)
     refine Rg_case (fun hg163 => ?_) (fun hg163 => ?_)
     ·
      replace hm := bif_t hm hg163
      refine Rg_opg rfl rfl rfl (op_move (v := (Value.int .i64 ((s.getD 11 default).toNat : Int))) rfl ?_)
      refine Rg_opg rfl rfl rfl (op_eql rfl rfl ?_)
      refine Rg_opg rfl rfl rfl (op_pick_t (v := (Value.bool (decide (((s.getD 11 default).toNat : Int) = 0)))) rfl rfl ?_)
      refine Rg_op rfl (op_pick_f (v := (Value.bool (decide (((s.getD 11 default).toNat : Int) = 0)))) rfl rfl ?_)
      refine Rg_nil ?_
      exact hK11 _ _ ⟨(decide (((s.getD 11 default).toNat : Int) = 0)), _, rfl, ⟨(by repeat (first | with_reducible exact Out.refl _ _ | refine Out.upd ?_ rfl | refine Out.updL ?_ rfl | refine Out.mix' ?_ rfl | exact Out.refl _ _)), rfl, rfl, trivial⟩, ch133, hs, hm⟩
     ·
      replace hm := bif_f hm hg163
      iterate 2 refine Rg_opx rfl (asB_ne rfl rfl) rfl ?_
      refine Rg_opg rfl rfl rfl (op_pick_f (v := (Value.bool false)) rfl rfl ?_)
      refine Rg_op rfl (op_pick_f (v := (Value.bool false)) rfl rfl ?_)
      refine Rg_nil ?_
      exact hK11 _ _ ⟨false, _, rfl, ⟨(by repeat (first | with_reducible exact Out.refl _ _ | refine Out.upd ?_ rfl | refine Out.updL ?_ rfl | refine Out.mix' ?_ rfl | exact Out.refl _ _)), rfl, rfl, trivial⟩, ch133, hs, hm⟩

end Go.Fx


