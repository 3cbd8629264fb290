/- Part 2 of the proof: for every list of vectors and number, the law VectorAgain of chapter 06 returns true. -/
import Derived.Test.YteohplgecfdafaaAgain1
import Derived.Laws.Closers25b
import Derived.Laws.Shifts
import Derived.ProofKit
import Derived.OpenShut
import Derived.ChangeOld
import Derived.Below
import Derived.SizedLaws
import Derived.Shelf.SlSortCmp.NoneTotal
import Derived.Shelf.SlGeneric
import Derived.Ground.SlsfProg
import Derived.Test.YteohplgecfdafaaChecked
import Derived.Test.YteohplgecfdafaaRows
import Derived.WalkKit
import Derived.ShutString
/- What the models of functions are made of; more operations. No program in sight. -/
set_option linter.unusedSimpArgs false
set_option linter.unusedVariables false
namespace Go.Fx
open Go Go.RowKit

/-! models -/
section model
universe u v
variable {R : Type} {α : Type u} {x : R} {m a b : Option R} {c : Bool}
/-- on only where c holds -/
def ck (c : Prop) [Decidable c] (m : Option R) : Option R := if c then m else none
/-- where ways meet -/
def jn (k : α) (f : α → Option R) : Option R := f k
theorem ck_some {c : Prop} [Decidable c] (h : ck c m = some x) : c ∧ m = some x := by
  unfold ck at h; split at h
  · exact ⟨‹_›, h⟩
  · cases h
theorem ck_pos {c : Prop} [Decidable c] (h : c) : ck c m = m := if_pos h
theorem ck_neg {c : Prop} [Decidable c] (h : ¬ c) : ck c m = none := if_neg h
theorem jn_elim {k : α} {f : α → Option R} (h : jn k f = some x) : ∃ j, j = k ∧ f j = some x := ⟨k, rfl, h⟩
theorem bif_t (h : (bif c then a else b) = some x) (hc : c = true) : a = some x := by rw [hc] at h; exact h
theorem bif_f (h : (bif c then a else b) = some x) (hc : c = false) : b = some x := by rw [hc] at h; exact h
theorem bd {β : Type} {o : Option β} {f : β → Option R} (h : o.bind f = some x) : ∃ v, o = some v ∧ f v = some x := by
  cases o with
  | none => cases h
  | some v => exact ⟨v, rfl, h⟩
theorem jnE0 {j f : Option R}  (e : j = f) (h : j  = some x) : f  = some x := e ▸ h
theorem jnR0 {j f : Option R}  (e : j = f) (h : j  = some x) : f  = some x := e ▸ h
@[irreducible] def loop0 (b : (Option R) → Option R) (n : Nat) : Option R := Nat.rec (none) (fun _ s => b s) n
theorem loop0_zero {b : (Option R) → Option R}  : loop0 b 0  = none := by unfold loop0; rfl
theorem loop0_succ {b : (Option R) → Option R} {n : Nat}  : loop0 b (n + 1)  = b (loop0 b n)  := by unfold loop0; rfl
theorem loop0_z {b : (Option R) → Option R}  (h : loop0 b 0  = some x) : False := by rw [loop0_zero] at h; cases h
theorem loop0_s {b : (Option R) → Option R} {n : Nat}  (h : loop0 b (n + 1)  = some x) : ∃ sf, sf = loop0 b n ∧ b sf  = some x := ⟨_, rfl, loop0_succ.symm.trans h⟩
theorem jnE1 {A0 : Type} {j f : A0 → Option R} {a0 : A0} (e : j = f) (h : j a0 = some x) : f a0 = some x := e ▸ h
theorem jnR1 {A0 : Type} {j f : A0 → Option R} {a0 : A0} (e : j = f) (h : j a0 = some x) : f a0 = some x := e ▸ h
@[irreducible] def loop1 {A0 : Type} (b : (A0 → Option R) → A0 → Option R) (n : Nat) : A0 → Option R := Nat.rec (fun _ => none) (fun _ s => b s) n
theorem loop1_zero {A0 : Type} {b : (A0 → Option R) → A0 → Option R} {a0 : A0} : loop1 b 0 a0 = none := by unfold loop1; rfl
theorem loop1_succ {A0 : Type} {b : (A0 → Option R) → A0 → Option R} {n : Nat} {a0 : A0} : loop1 b (n + 1) a0 = b (loop1 b n) a0 := by unfold loop1; rfl
theorem loop1_z {A0 : Type} {b : (A0 → Option R) → A0 → Option R} {a0 : A0} (h : loop1 b 0 a0 = some x) : False := by rw [loop1_zero] at h; cases h
theorem loop1_s {A0 : Type} {b : (A0 → Option R) → A0 → Option R} {n : Nat} {a0 : A0} (h : loop1 b (n + 1) a0 = some x) : ∃ sf, sf = loop1 b n ∧ b sf a0 = some x := ⟨_, rfl, loop1_succ.symm.trans h⟩
theorem jnE2 {A0 A1 : Type} {j f : A0 → A1 → Option R} {a0 : A0} {a1 : A1} (e : j = f) (h : j a0 a1 = some x) : f a0 a1 = some x := e ▸ h
theorem jnR2 {A0 A1 : Type} {j f : A0 → A1 → Option R} {a0 : A0} {a1 : A1} (e : j = f) (h : j a0 a1 = some x) : f a0 a1 = some x := e ▸ h
@[irreducible] def loop2 {A0 A1 : Type} (b : (A0 → A1 → Option R) → A0 → A1 → Option R) (n : Nat) : A0 → A1 → Option R := Nat.rec (fun _ _ => none) (fun _ s => b s) n
theorem loop2_zero {A0 A1 : Type} {b : (A0 → A1 → Option R) → A0 → A1 → Option R} {a0 : A0} {a1 : A1} : loop2 b 0 a0 a1 = none := by unfold loop2; rfl
theorem loop2_succ {A0 A1 : Type} {b : (A0 → A1 → Option R) → A0 → A1 → Option R} {n : Nat} {a0 : A0} {a1 : A1} : loop2 b (n + 1) a0 a1 = b (loop2 b n) a0 a1 := by unfold loop2; rfl
theorem loop2_z {A0 A1 : Type} {b : (A0 → A1 → Option R) → A0 → A1 → Option R} {a0 : A0} {a1 : A1} (h : loop2 b 0 a0 a1 = some x) : False := by rw [loop2_zero] at h; cases h
theorem loop2_s {A0 A1 : Type} {b : (A0 → A1 → Option R) → A0 → A1 → Option R} {n : Nat} {a0 : A0} {a1 : A1} (h : loop2 b (n + 1) a0 a1 = some x) : ∃ sf, sf = loop2 b n ∧ b sf a0 a1 = some x := ⟨_, rfl, loop2_succ.symm.trans h⟩
theorem jnE3 {A0 A1 A2 : Type} {j f : A0 → A1 → A2 → Option R} {a0 : A0} {a1 : A1} {a2 : A2} (e : j = f) (h : j a0 a1 a2 = some x) : f a0 a1 a2 = some x := e ▸ h
theorem jnR3 {A0 A1 A2 : Type} {j f : A0 → A1 → A2 → Option R} {a0 : A0} {a1 : A1} {a2 : A2} (e : j = f) (h : j a0 a1 a2 = some x) : f a0 a1 a2 = some x := e ▸ h
@[irreducible] def loop3 {A0 A1 A2 : Type} (b : (A0 → A1 → A2 → Option R) → A0 → A1 → A2 → Option R) (n : Nat) : A0 → A1 → A2 → Option R := Nat.rec (fun _ _ _ => none) (fun _ s => b s) n
theorem loop3_zero {A0 A1 A2 : Type} {b : (A0 → A1 → A2 → Option R) → A0 → A1 → A2 → Option R} {a0 : A0} {a1 : A1} {a2 : A2} : loop3 b 0 a0 a1 a2 = none := by unfold loop3; rfl
theorem loop3_succ {A0 A1 A2 : Type} {b : (A0 → A1 → A2 → Option R) → A0 → A1 → A2 → Option R} {n : Nat} {a0 : A0} {a1 : A1} {a2 : A2} : loop3 b (n + 1) a0 a1 a2 = b (loop3 b n) a0 a1 a2 := by unfold loop3; rfl
theorem loop3_z {A0 A1 A2 : Type} {b : (A0 → A1 → A2 → Option R) → A0 → A1 → A2 → Option R} {a0 : A0} {a1 : A1} {a2 : A2} (h : loop3 b 0 a0 a1 a2 = some x) : False := by rw [loop3_zero] at h; cases h
theorem loop3_s {A0 A1 A2 : Type} {b : (A0 → A1 → A2 → Option R) → A0 → A1 → A2 → Option R} {n : Nat} {a0 : A0} {a1 : A1} {a2 : A2} (h : loop3 b (n + 1) a0 a1 a2 = some x) : ∃ sf, sf = loop3 b n ∧ b sf a0 a1 a2 = some x := ⟨_, rfl, loop3_succ.symm.trans h⟩
theorem jnE4 {A0 A1 A2 A3 : Type} {j f : A0 → A1 → A2 → A3 → Option R} {a0 : A0} {a1 : A1} {a2 : A2} {a3 : A3} (e : j = f) (h : j a0 a1 a2 a3 = some x) : f a0 a1 a2 a3 = some x := e ▸ h
theorem jnR4 {A0 A1 A2 A3 : Type} {j f : A0 → A1 → A2 → A3 → Option R} {a0 : A0} {a1 : A1} {a2 : A2} {a3 : A3} (e : j = f) (h : j a0 a1 a2 a3 = some x) : f a0 a1 a2 a3 = some x := e ▸ h
@[irreducible] def loop4 {A0 A1 A2 A3 : Type} (b : (A0 → A1 → A2 → A3 → Option R) → A0 → A1 → A2 → A3 → Option R) (n : Nat) : A0 → A1 → A2 → A3 → Option R := Nat.rec (fun _ _ _ _ => none) (fun _ s => b s) n
theorem loop4_zero {A0 A1 A2 A3 : Type} {b : (A0 → A1 → A2 → A3 → Option R) → A0 → A1 → A2 → A3 → Option R} {a0 : A0} {a1 : A1} {a2 : A2} {a3 : A3} : loop4 b 0 a0 a1 a2 a3 = none := by unfold loop4; rfl
theorem loop4_succ {A0 A1 A2 A3 : Type} {b : (A0 → A1 → A2 → A3 → Option R) → A0 → A1 → A2 → A3 → Option R} {n : Nat} {a0 : A0} {a1 : A1} {a2 : A2} {a3 : A3} : loop4 b (n + 1) a0 a1 a2 a3 = b (loop4 b n) a0 a1 a2 a3 := by unfold loop4; rfl
theorem loop4_z {A0 A1 A2 A3 : Type} {b : (A0 → A1 → A2 → A3 → Option R) → A0 → A1 → A2 → A3 → Option R} {a0 : A0} {a1 : A1} {a2 : A2} {a3 : A3} (h : loop4 b 0 a0 a1 a2 a3 = some x) : False := by rw [loop4_zero] at h; cases h
theorem loop4_s {A0 A1 A2 A3 : Type} {b : (A0 → A1 → A2 → A3 → Option R) → A0 → A1 → A2 → A3 → Option R} {n : Nat} {a0 : A0} {a1 : A1} {a2 : A2} {a3 : A3} (h : loop4 b (n + 1) a0 a1 a2 a3 = some x) : ∃ sf, sf = loop4 b n ∧ b sf a0 a1 a2 a3 = some x := ⟨_, rfl, loop4_succ.symm.trans h⟩
theorem jnE5 {A0 A1 A2 A3 A4 : Type} {j f : A0 → A1 → A2 → A3 → A4 → Option R} {a0 : A0} {a1 : A1} {a2 : A2} {a3 : A3} {a4 : A4} (e : j = f) (h : j a0 a1 a2 a3 a4 = some x) : f a0 a1 a2 a3 a4 = some x := e ▸ h
theorem jnR5 {A0 A1 A2 A3 A4 : Type} {j f : A0 → A1 → A2 → A3 → A4 → Option R} {a0 : A0} {a1 : A1} {a2 : A2} {a3 : A3} {a4 : A4} (e : j = f) (h : j a0 a1 a2 a3 a4 = some x) : f a0 a1 a2 a3 a4 = some x := e ▸ h
@[irreducible] def loop5 {A0 A1 A2 A3 A4 : Type} (b : (A0 → A1 → A2 → A3 → A4 → Option R) → A0 → A1 → A2 → A3 → A4 → Option R) (n : Nat) : A0 → A1 → A2 → A3 → A4 → Option R := Nat.rec (fun _ _ _ _ _ => none) (fun _ s => b s) n
theorem loop5_zero {A0 A1 A2 A3 A4 : Type} {b : (A0 → A1 → A2 → A3 → A4 → Option R) → A0 → A1 → A2 → A3 → A4 → Option R} {a0 : A0} {a1 : A1} {a2 : A2} {a3 : A3} {a4 : A4} : loop5 b 0 a0 a1 a2 a3 a4 = none := by unfold loop5; rfl
theorem loop5_succ {A0 A1 A2 A3 A4 : Type} {b : (A0 → A1 → A2 → A3 → A4 → Option R) → A0 → A1 → A2 → A3 → A4 → Option R} {n : Nat} {a0 : A0} {a1 : A1} {a2 : A2} {a3 : A3} {a4 : A4} : loop5 b (n + 1) a0 a1 a2 a3 a4 = b (loop5 b n) a0 a1 a2 a3 a4 := by unfold loop5; rfl
theorem loop5_z {A0 A1 A2 A3 A4 : Type} {b : (A0 → A1 → A2 → A3 → A4 → Option R) → A0 → A1 → A2 → A3 → A4 → Option R} {a0 : A0} {a1 : A1} {a2 : A2} {a3 : A3} {a4 : A4} (h : loop5 b 0 a0 a1 a2 a3 a4 = some x) : False := by rw [loop5_zero] at h; cases h
theorem loop5_s {A0 A1 A2 A3 A4 : Type} {b : (A0 → A1 → A2 → A3 → A4 → Option R) → A0 → A1 → A2 → A3 → A4 → Option R} {n : Nat} {a0 : A0} {a1 : A1} {a2 : A2} {a3 : A3} {a4 : A4} (h : loop5 b (n + 1) a0 a1 a2 a3 a4 = some x) : ∃ sf, sf = loop5 b n ∧ b sf a0 a1 a2 a3 a4 = some x := ⟨_, rfl, loop5_succ.symm.trans h⟩
theorem jnE6 {A0 A1 A2 A3 A4 A5 : Type} {j f : A0 → A1 → A2 → A3 → A4 → A5 → Option R} {a0 : A0} {a1 : A1} {a2 : A2} {a3 : A3} {a4 : A4} {a5 : A5} (e : j = f) (h : j a0 a1 a2 a3 a4 a5 = some x) : f a0 a1 a2 a3 a4 a5 = some x := e ▸ h
theorem jnR6 {A0 A1 A2 A3 A4 A5 : Type} {j f : A0 → A1 → A2 → A3 → A4 → A5 → Option R} {a0 : A0} {a1 : A1} {a2 : A2} {a3 : A3} {a4 : A4} {a5 : A5} (e : j = f) (h : j a0 a1 a2 a3 a4 a5 = some x) : f a0 a1 a2 a3 a4 a5 = some x := e ▸ h
@[irreducible] def loop6 {A0 A1 A2 A3 A4 A5 : Type} (b : (A0 → A1 → A2 → A3 → A4 → A5 → Option R) → A0 → A1 → A2 → A3 → A4 → A5 → Option R) (n : Nat) : A0 → A1 → A2 → A3 → A4 → A5 → Option R := Nat.rec (fun _ _ _ _ _ _ => none) (fun _ s => b s) n
theorem loop6_zero {A0 A1 A2 A3 A4 A5 : Type} {b : (A0 → A1 → A2 → A3 → A4 → A5 → Option R) → A0 → A1 → A2 → A3 → A4 → A5 → Option R} {a0 : A0} {a1 : A1} {a2 : A2} {a3 : A3} {a4 : A4} {a5 : A5} : loop6 b 0 a0 a1 a2 a3 a4 a5 = none := by unfold loop6; rfl
theorem loop6_succ {A0 A1 A2 A3 A4 A5 : Type} {b : (A0 → A1 → A2 → A3 → A4 → A5 → Option R) → A0 → A1 → A2 → A3 → A4 → A5 → Option R} {n : Nat} {a0 : A0} {a1 : A1} {a2 : A2} {a3 : A3} {a4 : A4} {a5 : A5} : loop6 b (n + 1) a0 a1 a2 a3 a4 a5 = b (loop6 b n) a0 a1 a2 a3 a4 a5 := by unfold loop6; rfl
theorem loop6_z {A0 A1 A2 A3 A4 A5 : Type} {b : (A0 → A1 → A2 → A3 → A4 → A5 → Option R) → A0 → A1 → A2 → A3 → A4 → A5 → Option R} {a0 : A0} {a1 : A1} {a2 : A2} {a3 : A3} {a4 : A4} {a5 : A5} (h : loop6 b 0 a0 a1 a2 a3 a4 a5 = some x) : False := by rw [loop6_zero] at h; cases h
theorem loop6_s {A0 A1 A2 A3 A4 A5 : Type} {b : (A0 → A1 → A2 → A3 → A4 → A5 → Option R) → A0 → A1 → A2 → A3 → A4 → A5 → Option R} {n : Nat} {a0 : A0} {a1 : A1} {a2 : A2} {a3 : A3} {a4 : A4} {a5 : A5} (h : loop6 b (n + 1) a0 a1 a2 a3 a4 a5 = some x) : ∃ sf, sf = loop6 b n ∧ b sf a0 a1 a2 a3 a4 a5 = some x := ⟨_, rfl, loop6_succ.symm.trans h⟩
theorem jnE7 {A0 A1 A2 A3 A4 A5 A6 : Type} {j f : A0 → A1 → A2 → A3 → A4 → A5 → A6 → Option R} {a0 : A0} {a1 : A1} {a2 : A2} {a3 : A3} {a4 : A4} {a5 : A5} {a6 : A6} (e : j = f) (h : j a0 a1 a2 a3 a4 a5 a6 = some x) : f a0 a1 a2 a3 a4 a5 a6 = some x := e ▸ h
theorem jnR7 {A0 A1 A2 A3 A4 A5 A6 : Type} {j f : A0 → A1 → A2 → A3 → A4 → A5 → A6 → Option R} {a0 : A0} {a1 : A1} {a2 : A2} {a3 : A3} {a4 : A4} {a5 : A5} {a6 : A6} (e : j = f) (h : j a0 a1 a2 a3 a4 a5 a6 = some x) : f a0 a1 a2 a3 a4 a5 a6 = some x := e ▸ h
@[irreducible] def loop7 {A0 A1 A2 A3 A4 A5 A6 : Type} (b : (A0 → A1 → A2 → A3 → A4 → A5 → A6 → Option R) → A0 → A1 → A2 → A3 → A4 → A5 → A6 → Option R) (n : Nat) : A0 → A1 → A2 → A3 → A4 → A5 → A6 → Option R := Nat.rec (fun _ _ _ _ _ _ _ => none) (fun _ s => b s) n
theorem loop7_zero {A0 A1 A2 A3 A4 A5 A6 : Type} {b : (A0 → A1 → A2 → A3 → A4 → A5 → A6 → Option R) → A0 → A1 → A2 → A3 → A4 → A5 → A6 → Option R} {a0 : A0} {a1 : A1} {a2 : A2} {a3 : A3} {a4 : A4} {a5 : A5} {a6 : A6} : loop7 b 0 a0 a1 a2 a3 a4 a5 a6 = none := by unfold loop7; rfl
theorem loop7_succ {A0 A1 A2 A3 A4 A5 A6 : Type} {b : (A0 → A1 → A2 → A3 → A4 → A5 → A6 → Option R) → A0 → A1 → A2 → A3 → A4 → A5 → A6 → Option R} {n : Nat} {a0 : A0} {a1 : A1} {a2 : A2} {a3 : A3} {a4 : A4} {a5 : A5} {a6 : A6} : loop7 b (n + 1) a0 a1 a2 a3 a4 a5 a6 = b (loop7 b n) a0 a1 a2 a3 a4 a5 a6 := by unfold loop7; rfl
theorem loop7_z {A0 A1 A2 A3 A4 A5 A6 : Type} {b : (A0 → A1 → A2 → A3 → A4 → A5 → A6 → Option R) → A0 → A1 → A2 → A3 → A4 → A5 → A6 → Option R} {a0 : A0} {a1 : A1} {a2 : A2} {a3 : A3} {a4 : A4} {a5 : A5} {a6 : A6} (h : loop7 b 0 a0 a1 a2 a3 a4 a5 a6 = some x) : False := by rw [loop7_zero] at h; cases h
theorem loop7_s {A0 A1 A2 A3 A4 A5 A6 : Type} {b : (A0 → A1 → A2 → A3 → A4 → A5 → A6 → Option R) → A0 → A1 → A2 → A3 → A4 → A5 → A6 → Option R} {n : Nat} {a0 : A0} {a1 : A1} {a2 : A2} {a3 : A3} {a4 : A4} {a5 : A5} {a6 : A6} (h : loop7 b (n + 1) a0 a1 a2 a3 a4 a5 a6 = some x) : ∃ sf, sf = loop7 b n ∧ b sf a0 a1 a2 a3 a4 a5 a6 = some x := ⟨_, rfl, loop7_succ.symm.trans h⟩
theorem jnE8 {A0 A1 A2 A3 A4 A5 A6 A7 : Type} {j f : A0 → A1 → A2 → A3 → A4 → A5 → A6 → A7 → Option R} {a0 : A0} {a1 : A1} {a2 : A2} {a3 : A3} {a4 : A4} {a5 : A5} {a6 : A6} {a7 : A7} (e : j = f) (h : j a0 a1 a2 a3 a4 a5 a6 a7 = some x) : f a0 a1 a2 a3 a4 a5 a6 a7 = some x := e ▸ h
theorem jnR8 {A0 A1 A2 A3 A4 A5 A6 A7 : Type} {j f : A0 → A1 → A2 → A3 → A4 → A5 → A6 → A7 → Option R} {a0 : A0} {a1 : A1} {a2 : A2} {a3 : A3} {a4 : A4} {a5 : A5} {a6 : A6} {a7 : A7} (e : j = f) (h : j a0 a1 a2 a3 a4 a5 a6 a7 = some x) : f a0 a1 a2 a3 a4 a5 a6 a7 = some x := e ▸ h
@[irreducible] def loop8 {A0 A1 A2 A3 A4 A5 A6 A7 : Type} (b : (A0 → A1 → A2 → A3 → A4 → A5 → A6 → A7 → Option R) → A0 → A1 → A2 → A3 → A4 → A5 → A6 → A7 → Option R) (n : Nat) : A0 → A1 → A2 → A3 → A4 → A5 → A6 → A7 → Option R := Nat.rec (fun _ _ _ _ _ _ _ _ => none) (fun _ s => b s) n
theorem loop8_zero {A0 A1 A2 A3 A4 A5 A6 A7 : Type} {b : (A0 → A1 → A2 → A3 → A4 → A5 → A6 → A7 → Option R) → A0 → A1 → A2 → A3 → A4 → A5 → A6 → A7 → Option R} {a0 : A0} {a1 : A1} {a2 : A2} {a3 : A3} {a4 : A4} {a5 : A5} {a6 : A6} {a7 : A7} : loop8 b 0 a0 a1 a2 a3 a4 a5 a6 a7 = none := by unfold loop8; rfl
theorem loop8_succ {A0 A1 A2 A3 A4 A5 A6 A7 : Type} {b : (A0 → A1 → A2 → A3 → A4 → A5 → A6 → A7 → Option R) → A0 → A1 → A2 → A3 → A4 → A5 → A6 → A7 → Option R} {n : Nat} {a0 : A0} {a1 : A1} {a2 : A2} {a3 : A3} {a4 : A4} {a5 : A5} {a6 : A6} {a7 : A7} : loop8 b (n + 1) a0 a1 a2 a3 a4 a5 a6 a7 = b (loop8 b n) a0 a1 a2 a3 a4 a5 a6 a7 := by unfold loop8; rfl
theorem loop8_z {A0 A1 A2 A3 A4 A5 A6 A7 : Type} {b : (A0 → A1 → A2 → A3 → A4 → A5 → A6 → A7 → Option R) → A0 → A1 → A2 → A3 → A4 → A5 → A6 → A7 → Option R} {a0 : A0} {a1 : A1} {a2 : A2} {a3 : A3} {a4 : A4} {a5 : A5} {a6 : A6} {a7 : A7} (h : loop8 b 0 a0 a1 a2 a3 a4 a5 a6 a7 = some x) : False := by rw [loop8_zero] at h; cases h
theorem loop8_s {A0 A1 A2 A3 A4 A5 A6 A7 : Type} {b : (A0 → A1 → A2 → A3 → A4 → A5 → A6 → A7 → Option R) → A0 → A1 → A2 → A3 → A4 → A5 → A6 → A7 → Option R} {n : Nat} {a0 : A0} {a1 : A1} {a2 : A2} {a3 : A3} {a4 : A4} {a5 : A5} {a6 : A6} {a7 : A7} (h : loop8 b (n + 1) a0 a1 a2 a3 a4 a5 a6 a7 = some x) : ∃ sf, sf = loop8 b n ∧ b sf a0 a1 a2 a3 a4 a5 a6 a7 = some x := ⟨_, rfl, loop8_succ.symm.trans h⟩
theorem jnE9 {A0 A1 A2 A3 A4 A5 A6 A7 A8 : Type} {j f : A0 → A1 → A2 → A3 → A4 → A5 → A6 → A7 → A8 → Option R} {a0 : A0} {a1 : A1} {a2 : A2} {a3 : A3} {a4 : A4} {a5 : A5} {a6 : A6} {a7 : A7} {a8 : A8} (e : j = f) (h : j a0 a1 a2 a3 a4 a5 a6 a7 a8 = some x) : f a0 a1 a2 a3 a4 a5 a6 a7 a8 = some x := e ▸ h
theorem jnR9 {A0 A1 A2 A3 A4 A5 A6 A7 A8 : Type} {j f : A0 → A1 → A2 → A3 → A4 → A5 → A6 → A7 → A8 → Option R} {a0 : A0} {a1 : A1} {a2 : A2} {a3 : A3} {a4 : A4} {a5 : A5} {a6 : A6} {a7 : A7} {a8 : A8} (e : j = f) (h : j a0 a1 a2 a3 a4 a5 a6 a7 a8 = some x) : f a0 a1 a2 a3 a4 a5 a6 a7 a8 = some x := e ▸ h
@[irreducible] def loop9 {A0 A1 A2 A3 A4 A5 A6 A7 A8 : Type} (b : (A0 → A1 → A2 → A3 → A4 → A5 → A6 → A7 → A8 → Option R) → A0 → A1 → A2 → A3 → A4 → A5 → A6 → A7 → A8 → Option R) (n : Nat) : A0 → A1 → A2 → A3 → A4 → A5 → A6 → A7 → A8 → Option R := Nat.rec (fun _ _ _ _ _ _ _ _ _ => none) (fun _ s => b s) n
theorem loop9_zero {A0 A1 A2 A3 A4 A5 A6 A7 A8 : Type} {b : (A0 → A1 → A2 → A3 → A4 → A5 → A6 → A7 → A8 → Option R) → A0 → A1 → A2 → A3 → A4 → A5 → A6 → A7 → A8 → Option R} {a0 : A0} {a1 : A1} {a2 : A2} {a3 : A3} {a4 : A4} {a5 : A5} {a6 : A6} {a7 : A7} {a8 : A8} : loop9 b 0 a0 a1 a2 a3 a4 a5 a6 a7 a8 = none := by unfold loop9; rfl
theorem loop9_succ {A0 A1 A2 A3 A4 A5 A6 A7 A8 : Type} {b : (A0 → A1 → A2 → A3 → A4 → A5 → A6 → A7 → A8 → Option R) → A0 → A1 → A2 → A3 → A4 → A5 → A6 → A7 → A8 → Option R} {n : Nat} {a0 : A0} {a1 : A1} {a2 : A2} {a3 : A3} {a4 : A4} {a5 : A5} {a6 : A6} {a7 : A7} {a8 : A8} : loop9 b (n + 1) a0 a1 a2 a3 a4 a5 a6 a7 a8 = b (loop9 b n) a0 a1 a2 a3 a4 a5 a6 a7 a8 := by unfold loop9; rfl
theorem loop9_z {A0 A1 A2 A3 A4 A5 A6 A7 A8 : Type} {b : (A0 → A1 → A2 → A3 → A4 → A5 → A6 → A7 → A8 → Option R) → A0 → A1 → A2 → A3 → A4 → A5 → A6 → A7 → A8 → Option R} {a0 : A0} {a1 : A1} {a2 : A2} {a3 : A3} {a4 : A4} {a5 : A5} {a6 : A6} {a7 : A7} {a8 : A8} (h : loop9 b 0 a0 a1 a2 a3 a4 a5 a6 a7 a8 = some x) : False := by rw [loop9_zero] at h; cases h
theorem loop9_s {A0 A1 A2 A3 A4 A5 A6 A7 A8 : Type} {b : (A0 → A1 → A2 → A3 → A4 → A5 → A6 → A7 → A8 → Option R) → A0 → A1 → A2 → A3 → A4 → A5 → A6 → A7 → A8 → Option R} {n : Nat} {a0 : A0} {a1 : A1} {a2 : A2} {a3 : A3} {a4 : A4} {a5 : A5} {a6 : A6} {a7 : A7} {a8 : A8} (h : loop9 b (n + 1) a0 a1 a2 a3 a4 a5 a6 a7 a8 = some x) : ∃ sf, sf = loop9 b n ∧ b sf a0 a1 a2 a3 a4 a5 a6 a7 a8 = some x := ⟨_, rfl, loop9_succ.symm.trans h⟩
theorem jnE10 {A0 A1 A2 A3 A4 A5 A6 A7 A8 A9 : Type} {j f : A0 → A1 → A2 → A3 → A4 → A5 → A6 → A7 → A8 → A9 → Option R} {a0 : A0} {a1 : A1} {a2 : A2} {a3 : A3} {a4 : A4} {a5 : A5} {a6 : A6} {a7 : A7} {a8 : A8} {a9 : A9} (e : j = f) (h : j a0 a1 a2 a3 a4 a5 a6 a7 a8 a9 = some x) : f a0 a1 a2 a3 a4 a5 a6 a7 a8 a9 = some x := e ▸ h
theorem jnR10 {A0 A1 A2 A3 A4 A5 A6 A7 A8 A9 : Type} {j f : A0 → A1 → A2 → A3 → A4 → A5 → A6 → A7 → A8 → A9 → Option R} {a0 : A0} {a1 : A1} {a2 : A2} {a3 : A3} {a4 : A4} {a5 : A5} {a6 : A6} {a7 : A7} {a8 : A8} {a9 : A9} (e : j = f) (h : j a0 a1 a2 a3 a4 a5 a6 a7 a8 a9 = some x) : f a0 a1 a2 a3 a4 a5 a6 a7 a8 a9 = some x := e ▸ h
@[irreducible] def loop10 {A0 A1 A2 A3 A4 A5 A6 A7 A8 A9 : Type} (b : (A0 → A1 → A2 → A3 → A4 → A5 → A6 → A7 → A8 → A9 → Option R) → A0 → A1 → A2 → A3 → A4 → A5 → A6 → A7 → A8 → A9 → Option R) (n : Nat) : A0 → A1 → A2 → A3 → A4 → A5 → A6 → A7 → A8 → A9 → Option R := Nat.rec (fun _ _ _ _ _ _ _ _ _ _ => none) (fun _ s => b s) n
theorem loop10_zero {A0 A1 A2 A3 A4 A5 A6 A7 A8 A9 : Type} {b : (A0 → A1 → A2 → A3 → A4 → A5 → A6 → A7 → A8 → A9 → Option R) → A0 → A1 → A2 → A3 → A4 → A5 → A6 → A7 → A8 → A9 → Option R} {a0 : A0} {a1 : A1} {a2 : A2} {a3 : A3} {a4 : A4} {a5 : A5} {a6 : A6} {a7 : A7} {a8 : A8} {a9 : A9} : loop10 b 0 a0 a1 a2 a3 a4 a5 a6 a7 a8 a9 = none := by unfold loop10; rfl
theorem loop10_succ {A0 A1 A2 A3 A4 A5 A6 A7 A8 A9 : Type} {b : (A0 → A1 → A2 → A3 → A4 → A5 → A6 → A7 → A8 → A9 → Option R) → A0 → A1 → A2 → A3 → A4 → A5 → A6 → A7 → A8 → A9 → Option R} {n : Nat} {a0 : A0} {a1 : A1} {a2 : A2} {a3 : A3} {a4 : A4} {a5 : A5} {a6 : A6} {a7 : A7} {a8 : A8} {a9 : A9} : loop10 b (n + 1) a0 a1 a2 a3 a4 a5 a6 a7 a8 a9 = b (loop10 b n) a0 a1 a2 a3 a4 a5 a6 a7 a8 a9 := by unfold loop10; rfl
theorem loop10_z {A0 A1 A2 A3 A4 A5 A6 A7 A8 A9 : Type} {b : (A0 → A1 → A2 → A3 → A4 → A5 → A6 → A7 → A8 → A9 → Option R) → A0 → A1 → A2 → A3 → A4 → A5 → A6 → A7 → A8 → A9 → Option R} {a0 : A0} {a1 : A1} {a2 : A2} {a3 : A3} {a4 : A4} {a5 : A5} {a6 : A6} {a7 : A7} {a8 : A8} {a9 : A9} (h : loop10 b 0 a0 a1 a2 a3 a4 a5 a6 a7 a8 a9 = some x) : False := by rw [loop10_zero] at h; cases h
theorem loop10_s {A0 A1 A2 A3 A4 A5 A6 A7 A8 A9 : Type} {b : (A0 → A1 → A2 → A3 → A4 → A5 → A6 → A7 → A8 → A9 → Option R) → A0 → A1 → A2 → A3 → A4 → A5 → A6 → A7 → A8 → A9 → Option R} {n : Nat} {a0 : A0} {a1 : A1} {a2 : A2} {a3 : A3} {a4 : A4} {a5 : A5} {a6 : A6} {a7 : A7} {a8 : A8} {a9 : A9} (h : loop10 b (n + 1) a0 a1 a2 a3 a4 a5 a6 a7 a8 a9 = some x) : ∃ sf, sf = loop10 b n ∧ b sf a0 a1 a2 a3 a4 a5 a6 a7 a8 a9 = some x := ⟨_, rfl, loop10_succ.symm.trans h⟩
theorem jnE11 {A0 A1 A2 A3 A4 A5 A6 A7 A8 A9 A10 : Type} {j f : A0 → A1 → A2 → A3 → A4 → A5 → A6 → A7 → A8 → A9 → A10 → Option R} {a0 : A0} {a1 : A1} {a2 : A2} {a3 : A3} {a4 : A4} {a5 : A5} {a6 : A6} {a7 : A7} {a8 : A8} {a9 : A9} {a10 : A10} (e : j = f) (h : j a0 a1 a2 a3 a4 a5 a6 a7 a8 a9 a10 = some x) : f a0 a1 a2 a3 a4 a5 a6 a7 a8 a9 a10 = some x := e ▸ h
theorem jnR11 {A0 A1 A2 A3 A4 A5 A6 A7 A8 A9 A10 : Type} {j f : A0 → A1 → A2 → A3 → A4 → A5 → A6 → A7 → A8 → A9 → A10 → Option R} {a0 : A0} {a1 : A1} {a2 : A2} {a3 : A3} {a4 : A4} {a5 : A5} {a6 : A6} {a7 : A7} {a8 : A8} {a9 : A9} {a10 : A10} (e : j = f) (h : j a0 a1 a2 a3 a4 a5 a6 a7 a8 a9 a10 = some x) : f a0 a1 a2 a3 a4 a5 a6 a7 a8 a9 a10 = some x := e ▸ h
@[irreducible] def loop11 {A0 A1 A2 A3 A4 A5 A6 A7 A8 A9 A10 : Type} (b : (A0 → A1 → A2 → A3 → A4 → A5 → A6 → A7 → A8 → A9 → A10 → Option R) → A0 → A1 → A2 → A3 → A4 → A5 → A6 → A7 → A8 → A9 → A10 → Option R) (n : Nat) : A0 → A1 → A2 → A3 → A4 → A5 → A6 → A7 → A8 → A9 → A10 → Option R := Nat.rec (fun _ _ _ _ _ _ _ _ _ _ _ => none) (fun _ s => b s) n
theorem loop11_zero {A0 A1 A2 A3 A4 A5 A6 A7 A8 A9 A10 : Type} {b : (A0 → A1 → A2 → A3 → A4 → A5 → A6 → A7 → A8 → A9 → A10 → Option R) → A0 → A1 → A2 → A3 → A4 → A5 → A6 → A7 → A8 → A9 → A10 → Option R} {a0 : A0} {a1 : A1} {a2 : A2} {a3 : A3} {a4 : A4} {a5 : A5} {a6 : A6} {a7 : A7} {a8 : A8} {a9 : A9} {a10 : A10} : loop11 b 0 a0 a1 a2 a3 a4 a5 a6 a7 a8 a9 a10 = none := by unfold loop11; rfl
theorem loop11_succ {A0 A1 A2 A3 A4 A5 A6 A7 A8 A9 A10 : Type} {b : (A0 → A1 → A2 → A3 → A4 → A5 → A6 → A7 → A8 → A9 → A10 → Option R) → A0 → A1 → A2 → A3 → A4 → A5 → A6 → A7 → A8 → A9 → A10 → Option R} {n : Nat} {a0 : A0} {a1 : A1} {a2 : A2} {a3 : A3} {a4 : A4} {a5 : A5} {a6 : A6} {a7 : A7} {a8 : A8} {a9 : A9} {a10 : A10} : loop11 b (n + 1) a0 a1 a2 a3 a4 a5 a6 a7 a8 a9 a10 = b (loop11 b n) a0 a1 a2 a3 a4 a5 a6 a7 a8 a9 a10 := by unfold loop11; rfl
theorem loop11_z {A0 A1 A2 A3 A4 A5 A6 A7 A8 A9 A10 : Type} {b : (A0 → A1 → A2 → A3 → A4 → A5 → A6 → A7 → A8 → A9 → A10 → Option R) → A0 → A1 → A2 → A3 → A4 → A5 → A6 → A7 → A8 → A9 → A10 → Option R} {a0 : A0} {a1 : A1} {a2 : A2} {a3 : A3} {a4 : A4} {a5 : A5} {a6 : A6} {a7 : A7} {a8 : A8} {a9 : A9} {a10 : A10} (h : loop11 b 0 a0 a1 a2 a3 a4 a5 a6 a7 a8 a9 a10 = some x) : False := by rw [loop11_zero] at h; cases h
theorem loop11_s {A0 A1 A2 A3 A4 A5 A6 A7 A8 A9 A10 : Type} {b : (A0 → A1 → A2 → A3 → A4 → A5 → A6 → A7 → A8 → A9 → A10 → Option R) → A0 → A1 → A2 → A3 → A4 → A5 → A6 → A7 → A8 → A9 → A10 → Option R} {n : Nat} {a0 : A0} {a1 : A1} {a2 : A2} {a3 : A3} {a4 : A4} {a5 : A5} {a6 : A6} {a7 : A7} {a8 : A8} {a9 : A9} {a10 : A10} (h : loop11 b (n + 1) a0 a1 a2 a3 a4 a5 a6 a7 a8 a9 a10 = some x) : ∃ sf, sf = loop11 b n ∧ b sf a0 a1 a2 a3 a4 a5 a6 a7 a8 a9 a10 = some x := ⟨_, rfl, loop11_succ.symm.trans h⟩
theorem jnE12 {A0 A1 A2 A3 A4 A5 A6 A7 A8 A9 A10 A11 : Type} {j f : A0 → A1 → A2 → A3 → A4 → A5 → A6 → A7 → A8 → A9 → A10 → A11 → Option R} {a0 : A0} {a1 : A1} {a2 : A2} {a3 : A3} {a4 : A4} {a5 : A5} {a6 : A6} {a7 : A7} {a8 : A8} {a9 : A9} {a10 : A10} {a11 : A11} (e : j = f) (h : j a0 a1 a2 a3 a4 a5 a6 a7 a8 a9 a10 a11 = some x) : f a0 a1 a2 a3 a4 a5 a6 a7 a8 a9 a10 a11 = some x := e ▸ h
theorem jnR12 {A0 A1 A2 A3 A4 A5 A6 A7 A8 A9 A10 A11 : Type} {j f : A0 → A1 → A2 → A3 → A4 → A5 → A6 → A7 → A8 → A9 → A10 → A11 → Option R} {a0 : A0} {a1 : A1} {a2 : A2} {a3 : A3} {a4 : A4} {a5 : A5} {a6 : A6} {a7 : A7} {a8 : A8} {a9 : A9} {a10 : A10} {a11 : A11} (e : j = f) (h : j a0 a1 a2 a3 a4 a5 a6 a7 a8 a9 a10 a11 = some x) : f a0 a1 a2 a3 a4 a5 a6 a7 a8 a9 a10 a11 = some x := e ▸ h
@[irreducible] def loop12 {A0 A1 A2 A3 A4 A5 A6 A7 A8 A9 A10 A11 : Type} (b : (A0 → A1 → A2 → A3 → A4 → A5 → A6 → A7 → A8 → A9 → A10 → A11 → Option R) → A0 → A1 → A2 → A3 → A4 → A5 → A6 → A7 → A8 → A9 → A10 → A11 → Option R) (n : Nat) : A0 → A1 → A2 → A3 → A4 → A5 → A6 → A7 → A8 → A9 → A10 → A11 → Option R := Nat.rec (fun _ _ _ _ _ _ _ _ _ _ _ _ => none) (fun _ s => b s) n
theorem loop12_zero {A0 A1 A2 A3 A4 A5 A6 A7 A8 A9 A10 A11 : Type} {b : (A0 → A1 → A2 → A3 → A4 → A5 → A6 → A7 → A8 → A9 → A10 → A11 → Option R) → A0 → A1 → A2 → A3 → A4 → A5 → A6 → A7 → A8 → A9 → A10 → A11 → Option R} {a0 : A0} {a1 : A1} {a2 : A2} {a3 : A3} {a4 : A4} {a5 : A5} {a6 : A6} {a7 : A7} {a8 : A8} {a9 : A9} {a10 : A10} {a11 : A11} : loop12 b 0 a0 a1 a2 a3 a4 a5 a6 a7 a8 a9 a10 a11 = none := by unfold loop12; rfl
theorem loop12_succ {A0 A1 A2 A3 A4 A5 A6 A7 A8 A9 A10 A11 : Type} {b : (A0 → A1 → A2 → A3 → A4 → A5 → A6 → A7 → A8 → A9 → A10 → A11 → Option R) → A0 → A1 → A2 → A3 → A4 → A5 → A6 → A7 → A8 → A9 → A10 → A11 → Option R} {n : Nat} {a0 : A0} {a1 : A1} {a2 : A2} {a3 : A3} {a4 : A4} {a5 : A5} {a6 : A6} {a7 : A7} {a8 : A8} {a9 : A9} {a10 : A10} {a11 : A11} : loop12 b (n + 1) a0 a1 a2 a3 a4 a5 a6 a7 a8 a9 a10 a11 = b (loop12 b n) a0 a1 a2 a3 a4 a5 a6 a7 a8 a9 a10 a11 := by unfold loop12; rfl
theorem loop12_z {A0 A1 A2 A3 A4 A5 A6 A7 A8 A9 A10 A11 : Type} {b : (A0 → A1 → A2 → A3 → A4 → A5 → A6 → A7 → A8 → A9 → A10 → A11 → Option R) → A0 → A1 → A2 → A3 → A4 → A5 → A6 → A7 → A8 → A9 → A10 → A11 → Option R} {a0 : A0} {a1 : A1} {a2 : A2} {a3 : A3} {a4 : A4} {a5 : A5} {a6 : A6} {a7 : A7} {a8 : A8} {a9 : A9} {a10 : A10} {a11 : A11} (h : loop12 b 0 a0 a1 a2 a3 a4 a5 a6 a7 a8 a9 a10 a11 = some x) : False := by rw [loop12_zero] at h; cases h
theorem loop12_s {A0 A1 A2 A3 A4 A5 A6 A7 A8 A9 A10 A11 : Type} {b : (A0 → A1 → A2 → A3 → A4 → A5 → A6 → A7 → A8 → A9 → A10 → A11 → Option R) → A0 → A1 → A2 → A3 → A4 → A5 → A6 → A7 → A8 → A9 → A10 → A11 → Option R} {n : Nat} {a0 : A0} {a1 : A1} {a2 : A2} {a3 : A3} {a4 : A4} {a5 : A5} {a6 : A6} {a7 : A7} {a8 : A8} {a9 : A9} {a10 : A10} {a11 : A11} (h : loop12 b (n + 1) a0 a1 a2 a3 a4 a5 a6 a7 a8 a9 a10 a11 = some x) : ∃ sf, sf = loop12 b n ∧ b sf a0 a1 a2 a3 a4 a5 a6 a7 a8 a9 a10 a11 = some x := ⟨_, rfl, loop12_succ.symm.trans h⟩
theorem jnE13 {A0 A1 A2 A3 A4 A5 A6 A7 A8 A9 A10 A11 A12 : Type} {j f : A0 → A1 → A2 → A3 → A4 → A5 → A6 → A7 → A8 → A9 → A10 → A11 → A12 → Option R} {a0 : A0} {a1 : A1} {a2 : A2} {a3 : A3} {a4 : A4} {a5 : A5} {a6 : A6} {a7 : A7} {a8 : A8} {a9 : A9} {a10 : A10} {a11 : A11} {a12 : A12} (e : j = f) (h : j a0 a1 a2 a3 a4 a5 a6 a7 a8 a9 a10 a11 a12 = some x) : f a0 a1 a2 a3 a4 a5 a6 a7 a8 a9 a10 a11 a12 = some x := e ▸ h
theorem jnR13 {A0 A1 A2 A3 A4 A5 A6 A7 A8 A9 A10 A11 A12 : Type} {j f : A0 → A1 → A2 → A3 → A4 → A5 → A6 → A7 → A8 → A9 → A10 → A11 → A12 → Option R} {a0 : A0} {a1 : A1} {a2 : A2} {a3 : A3} {a4 : A4} {a5 : A5} {a6 : A6} {a7 : A7} {a8 : A8} {a9 : A9} {a10 : A10} {a11 : A11} {a12 : A12} (e : j = f) (h : j a0 a1 a2 a3 a4 a5 a6 a7 a8 a9 a10 a11 a12 = some x) : f a0 a1 a2 a3 a4 a5 a6 a7 a8 a9 a10 a11 a12 = some x := e ▸ h
@[irreducible] def loop13 {A0 A1 A2 A3 A4 A5 A6 A7 A8 A9 A10 A11 A12 : Type} (b : (A0 → A1 → A2 → A3 → A4 → A5 → A6 → A7 → A8 → A9 → A10 → A11 → A12 → Option R) → A0 → A1 → A2 → A3 → A4 → A5 → A6 → A7 → A8 → A9 → A10 → A11 → A12 → Option R) (n : Nat) : A0 → A1 → A2 → A3 → A4 → A5 → A6 → A7 → A8 → A9 → A10 → A11 → A12 → Option R := Nat.rec (fun _ _ _ _ _ _ _ _ _ _ _ _ _ => none) (fun _ s => b s) n
theorem loop13_zero {A0 A1 A2 A3 A4 A5 A6 A7 A8 A9 A10 A11 A12 : Type} {b : (A0 → A1 → A2 → A3 → A4 → A5 → A6 → A7 → A8 → A9 → A10 → A11 → A12 → Option R) → A0 → A1 → A2 → A3 → A4 → A5 → A6 → A7 → A8 → A9 → A10 → A11 → A12 → Option R} {a0 : A0} {a1 : A1} {a2 : A2} {a3 : A3} {a4 : A4} {a5 : A5} {a6 : A6} {a7 : A7} {a8 : A8} {a9 : A9} {a10 : A10} {a11 : A11} {a12 : A12} : loop13 b 0 a0 a1 a2 a3 a4 a5 a6 a7 a8 a9 a10 a11 a12 = none := by unfold loop13; rfl
theorem loop13_succ {A0 A1 A2 A3 A4 A5 A6 A7 A8 A9 A10 A11 A12 : Type} {b : (A0 → A1 → A2 → A3 → A4 → A5 → A6 → A7 → A8 → A9 → A10 → A11 → A12 → Option R) → A0 → A1 → A2 → A3 → A4 → A5 → A6 → A7 → A8 → A9 → A10 → A11 → A12 → Option R} {n : Nat} {a0 : A0} {a1 : A1} {a2 : A2} {a3 : A3} {a4 : A4} {a5 : A5} {a6 : A6} {a7 : A7} {a8 : A8} {a9 : A9} {a10 : A10} {a11 : A11} {a12 : A12} : loop13 b (n + 1) a0 a1 a2 a3 a4 a5 a6 a7 a8 a9 a10 a11 a12 = b (loop13 b n) a0 a1 a2 a3 a4 a5 a6 a7 a8 a9 a10 a11 a12 := by unfold loop13; rfl
theorem loop13_z {A0 A1 A2 A3 A4 A5 A6 A7 A8 A9 A10 A11 A12 : Type} {b : (A0 → A1 → A2 → A3 → A4 → A5 → A6 → A7 → A8 → A9 → A10 → A11 → A12 → Option R) → A0 → A1 → A2 → A3 → A4 → A5 → A6 → A7 → A8 → A9 → A10 → A11 → A12 → Option R} {a0 : A0} {a1 : A1} {a2 : A2} {a3 : A3} {a4 : A4} {a5 : A5} {a6 : A6} {a7 : A7} {a8 : A8} {a9 : A9} {a10 : A10} {a11 : A11} {a12 : A12} (h : loop13 b 0 a0 a1 a2 a3 a4 a5 a6 a7 a8 a9 a10 a11 a12 = some x) : False := by rw [loop13_zero] at h; cases h
theorem loop13_s {A0 A1 A2 A3 A4 A5 A6 A7 A8 A9 A10 A11 A12 : Type} {b : (A0 → A1 → A2 → A3 → A4 → A5 → A6 → A7 → A8 → A9 → A10 → A11 → A12 → Option R) → A0 → A1 → A2 → A3 → A4 → A5 → A6 → A7 → A8 → A9 → A10 → A11 → A12 → Option R} {n : Nat} {a0 : A0} {a1 : A1} {a2 : A2} {a3 : A3} {a4 : A4} {a5 : A5} {a6 : A6} {a7 : A7} {a8 : A8} {a9 : A9} {a10 : A10} {a11 : A11} {a12 : A12} (h : loop13 b (n + 1) a0 a1 a2 a3 a4 a5 a6 a7 a8 a9 a10 a11 a12 = some x) : ∃ sf, sf = loop13 b n ∧ b sf a0 a1 a2 a3 a4 a5 a6 a7 a8 a9 a10 a11 a12 = some x := ⟨_, rfl, loop13_succ.symm.trans h⟩
theorem jnE14 {A0 A1 A2 A3 A4 A5 A6 A7 A8 A9 A10 A11 A12 A13 : Type} {j f : A0 → A1 → A2 → A3 → A4 → A5 → A6 → A7 → A8 → A9 → A10 → A11 → A12 → A13 → Option R} {a0 : A0} {a1 : A1} {a2 : A2} {a3 : A3} {a4 : A4} {a5 : A5} {a6 : A6} {a7 : A7} {a8 : A8} {a9 : A9} {a10 : A10} {a11 : A11} {a12 : A12} {a13 : A13} (e : j = f) (h : j a0 a1 a2 a3 a4 a5 a6 a7 a8 a9 a10 a11 a12 a13 = some x) : f a0 a1 a2 a3 a4 a5 a6 a7 a8 a9 a10 a11 a12 a13 = some x := e ▸ h
theorem jnR14 {A0 A1 A2 A3 A4 A5 A6 A7 A8 A9 A10 A11 A12 A13 : Type} {j f : A0 → A1 → A2 → A3 → A4 → A5 → A6 → A7 → A8 → A9 → A10 → A11 → A12 → A13 → Option R} {a0 : A0} {a1 : A1} {a2 : A2} {a3 : A3} {a4 : A4} {a5 : A5} {a6 : A6} {a7 : A7} {a8 : A8} {a9 : A9} {a10 : A10} {a11 : A11} {a12 : A12} {a13 : A13} (e : j = f) (h : j a0 a1 a2 a3 a4 a5 a6 a7 a8 a9 a10 a11 a12 a13 = some x) : f a0 a1 a2 a3 a4 a5 a6 a7 a8 a9 a10 a11 a12 a13 = some x := e ▸ h
@[irreducible] def loop14 {A0 A1 A2 A3 A4 A5 A6 A7 A8 A9 A10 A11 A12 A13 : Type} (b : (A0 → A1 → A2 → A3 → A4 → A5 → A6 → A7 → A8 → A9 → A10 → A11 → A12 → A13 → Option R) → A0 → A1 → A2 → A3 → A4 → A5 → A6 → A7 → A8 → A9 → A10 → A11 → A12 → A13 → Option R) (n : Nat) : A0 → A1 → A2 → A3 → A4 → A5 → A6 → A7 → A8 → A9 → A10 → A11 → A12 → A13 → Option R := Nat.rec (fun _ _ _ _ _ _ _ _ _ _ _ _ _ _ => none) (fun _ s => b s) n
theorem loop14_zero {A0 A1 A2 A3 A4 A5 A6 A7 A8 A9 A10 A11 A12 A13 : Type} {b : (A0 → A1 → A2 → A3 → A4 → A5 → A6 → A7 → A8 → A9 → A10 → A11 → A12 → A13 → Option R) → A0 → A1 → A2 → A3 → A4 → A5 → A6 → A7 → A8 → A9 → A10 → A11 → A12 → A13 → Option R} {a0 : A0} {a1 : A1} {a2 : A2} {a3 : A3} {a4 : A4} {a5 : A5} {a6 : A6} {a7 : A7} {a8 : A8} {a9 : A9} {a10 : A10} {a11 : A11} {a12 : A12} {a13 : A13} : loop14 b 0 a0 a1 a2 a3 a4 a5 a6 a7 a8 a9 a10 a11 a12 a13 = none := by unfold loop14; rfl
theorem loop14_succ {A0 A1 A2 A3 A4 A5 A6 A7 A8 A9 A10 A11 A12 A13 : Type} {b : (A0 → A1 → A2 → A3 → A4 → A5 → A6 → A7 → A8 → A9 → A10 → A11 → A12 → A13 → Option R) → A0 → A1 → A2 → A3 → A4 → A5 → A6 → A7 → A8 → A9 → A10 → A11 → A12 → A13 → Option R} {n : Nat} {a0 : A0} {a1 : A1} {a2 : A2} {a3 : A3} {a4 : A4} {a5 : A5} {a6 : A6} {a7 : A7} {a8 : A8} {a9 : A9} {a10 : A10} {a11 : A11} {a12 : A12} {a13 : A13} : loop14 b (n + 1) a0 a1 a2 a3 a4 a5 a6 a7 a8 a9 a10 a11 a12 a13 = b (loop14 b n) a0 a1 a2 a3 a4 a5 a6 a7 a8 a9 a10 a11 a12 a13 := by unfold loop14; rfl
theorem loop14_z {A0 A1 A2 A3 A4 A5 A6 A7 A8 A9 A10 A11 A12 A13 : Type} {b : (A0 → A1 → A2 → A3 → A4 → A5 → A6 → A7 → A8 → A9 → A10 → A11 → A12 → A13 → Option R) → A0 → A1 → A2 → A3 → A4 → A5 → A6 → A7 → A8 → A9 → A10 → A11 → A12 → A13 → Option R} {a0 : A0} {a1 : A1} {a2 : A2} {a3 : A3} {a4 : A4} {a5 : A5} {a6 : A6} {a7 : A7} {a8 : A8} {a9 : A9} {a10 : A10} {a11 : A11} {a12 : A12} {a13 : A13} (h : loop14 b 0 a0 a1 a2 a3 a4 a5 a6 a7 a8 a9 a10 a11 a12 a13 = some x) : False := by rw [loop14_zero] at h; cases h
theorem loop14_s {A0 A1 A2 A3 A4 A5 A6 A7 A8 A9 A10 A11 A12 A13 : Type} {b : (A0 → A1 → A2 → A3 → A4 → A5 → A6 → A7 → A8 → A9 → A10 → A11 → A12 → A13 → Option R) → A0 → A1 → A2 → A3 → A4 → A5 → A6 → A7 → A8 → A9 → A10 → A11 → A12 → A13 → Option R} {n : Nat} {a0 : A0} {a1 : A1} {a2 : A2} {a3 : A3} {a4 : A4} {a5 : A5} {a6 : A6} {a7 : A7} {a8 : A8} {a9 : A9} {a10 : A10} {a11 : A11} {a12 : A12} {a13 : A13} (h : loop14 b (n + 1) a0 a1 a2 a3 a4 a5 a6 a7 a8 a9 a10 a11 a12 a13 = some x) : ∃ sf, sf = loop14 b n ∧ b sf a0 a1 a2 a3 a4 a5 a6 a7 a8 a9 a10 a11 a12 a13 = some x := ⟨_, rfl, loop14_succ.symm.trans h⟩
end model

section ink
theorem inK_wrap (k : IntKind) (n : Int) : InK k (k.wrap n) := wrap_within k n
theorem inK_bits (op : BinOp) (k : IntKind) (a b : Int) : InK k (Go.bits op k a b) := bits_within op k a b
theorem inK_u8 (b : UInt8) : InK .u8 (b.toNat : Int) := by
  have := b.toNat_lt
  constructor <;> simp [IntKind.min, IntKind.max, IntKind.bits, IntKind.signed]; omega
theorem inK_len {α : Type} {r : Rp α} {w : World} {O : List Nat} {a : Option Addr} {c : Nat} {xs : List α} (h : SlR r w O a c xs) : InK .i64 (xs.length : Int) := by
  have := h.len
  constructor <;> simp [IntKind.min, IntKind.max, IntKind.bits, IntKind.signed] <;> omega
theorem inK_cap {α : Type} {r : Rp α} {w : World} {O : List Nat} {a : Option Addr} {c : Nat} {xs : List α} (h : SlR r w O a c xs) : InK .i64 (c : Int) := by
  have := h.cap
  have : maxLen = 9223372036854775807 := rfl
  constructor <;> simp [IntKind.min, IntKind.max, IntKind.bits, IntKind.signed] <;> omega
theorem inK_lenG {α : Type} {q : Rp α} {e : TypeId} {w : World} {O : List Nat} {a : Option Addr} {c : Nat} {xs : List α} {kk : Option Nat} {o : Obj} (h : Gs q e w O a c xs kk o) : InK .i64 (xs.length : Int) := by
  have := h.le
  have : maxLen = 9223372036854775807 := rfl
  constructor <;> simp [IntKind.min, IntKind.max, IntKind.bits, IntKind.signed] <;> omega
theorem inK_of {k : Nat} (h : k ≤ 9223372036854775807) : InK .i64 (k : Int) := by
  constructor <;> simp [IntKind.min, IntKind.max, IntKind.bits, IntKind.signed] <;> omega
theorem inK_minlen {α : Type} {r : Rp α} {w : World} {O : List Nat} {a : Option Addr} {c k : Nat} {xs : List α} (h : SlR r w O a c xs) : InK .i64 ((min xs.length k : Nat) : Int) := by
  have := h.len
  constructor <;> simp [IntKind.min, IntKind.max, IntKind.bits, IntKind.signed] <;> omega
theorem inK_tmod {k : IntKind} {m n : Int} (h : InK k m) : InK k (m.tmod n) := by
  have h1 : m.tmod n = m - n * m.tdiv n := by have := Int.mul_tdiv_add_tmod m n; omega
  rcases Int.le_total 0 m with hm | hm
  · have h2 := Int.tmod_nonneg n hm
    have h3 : m.tmod n ≤ m := by
      have e := Int.natAbs_tmod m n
      have : m.natAbs % n.natAbs ≤ m.natAbs := Nat.mod_le _ _
      omega
    refine ⟨Int.le_trans ?_ h2, Int.le_trans h3 h.2⟩
    cases k <;> simp [IntKind.min, IntKind.bits, IntKind.signed]
  · have h3 : m ≤ m.tmod n ∧ m.tmod n ≤ 0 := by
      have e := Int.natAbs_tmod m n
      have : m.natAbs % n.natAbs ≤ m.natAbs := Nat.mod_le _ _
      have h4 : (-m).tmod n = -(m.tmod n) := Int.neg_tmod m n
      have h5 := Int.tmod_nonneg n (show 0 ≤ -m by omega)
      omega
    refine ⟨Int.le_trans h.1 h3.1, Int.le_trans h3.2 ?_⟩
    cases k <;> simp [IntKind.max, IntKind.bits, IntKind.signed]
theorem inK_shr {k : IntKind} {m : Int} {j : Nat} (h : InK k m) : InK k (m / 2 ^ j) := by
  have hp : (0 : Int) < 2 ^ j := Int.pow_pos (by decide)
  rcases Int.le_total 0 m with hm | hm
  · have h2 : 0 ≤ m / 2 ^ j := Int.ediv_nonneg hm (Int.le_of_lt hp)
    have h3 : m / 2 ^ j ≤ m := Int.ediv_le_self _ hm
    refine ⟨Int.le_trans ?_ h2, Int.le_trans h3 h.2⟩
    cases k <;> simp [IntKind.min, IntKind.bits, IntKind.signed]
  · have h2 : m ≤ m / 2 ^ j := by
      rw [Int.le_ediv_iff_mul_le hp]
      have : (1 : Int) ≤ 2 ^ j := hp
      have := Int.mul_le_mul_of_nonpos_left hm this
      simpa using this
    have h3 : m / 2 ^ j ≤ 0 := by
      have := Int.ediv_le_ediv hp hm
      simpa using this
    refine ⟨Int.le_trans h.1 h2, Int.le_trans h3 ?_⟩
    cases k <;> simp [IntKind.max, IntKind.bits, IntKind.signed]
theorem inK_max {k : IntKind} {m n : Int} (h1 : InK k m) (h2 : InK k n) : InK k (max m n) := ⟨Int.le_trans h1.1 (Int.le_max_left ..), Int.max_le.2 ⟨h1.2, h2.2⟩⟩
theorem inK_min {k : IntKind} {m n : Int} (h1 : InK k m) (h2 : InK k n) : InK k (min m n) := ⟨Int.le_min.2 ⟨h1.1, h2.1⟩, Int.le_trans (Int.min_le_left ..) h1.2⟩
theorem inK_cond {k : IntKind} {c : Bool} {m n : Int} (h1 : InK k m) (h2 : InK k n) : InK k (bif c then m else n) := by cases c <;> assumption
theorem mk_int {k : IntKind} {x : Int} {w : World} {O : List Nat} (h : InK k x) : (rInt k).rd w O [.int k x] x := ⟨rfl, h⟩
theorem u8_of {x : Int} (h : InK .u8 x) : ((UInt8.ofNat x.toNat).toNat : Int) = x := by
  obtain ⟨h1, h2⟩ := h
  simp [IntKind.min, IntKind.max, IntKind.bits, IntKind.signed] at h1 h2
  simp; omega
theorem mk_u8 {x : Int} {w : World} {O : List Nat} (h : InK .u8 x) : rU8.rd w O [.int .u8 x] (UInt8.ofNat x.toNat) := by
  show _ = [Value.int .u8 _]
  rw [u8_of h]
theorem val_u8 {x : Int} (h : InK .u8 x) : Value.int .u8 x = .int .u8 (UInt8.ofNat x.toNat).toNat := by rw [u8_of h]
end ink

theorem inK_ofu8 (k : IntKind) (hk : 8 ≤ k.bits ∧ (k.signed = true → 9 ≤ k.bits)) (b : UInt8) : InK k (b.toNat : Int) := by
  have := b.toNat_lt
  cases k <;> simp [IntKind.bits, IntKind.signed] at hk <;> constructor <;> simp [IntKind.min, IntKind.max, IntKind.bits, IntKind.signed] <;> omega
/-- a string's bytes, in one cell -/
def rStr : Rp (List UInt8) where
  n := 1
  rd _ _ vs x := vs = [.string (Fx.bs x)]
  len h := by rw [h]; rfl
  one h := by rw [h]; intro v hv; simp at hv; subst hv; rfl
  step _ h := h
theorem un_str {w : World} {O : List Nat} {v : Value} {x : List UInt8} (h : rStr.rd w O [v] x) : v = .string (Fx.bs x) := by simpa [rStr] using h
theorem mkStr {w : World} {O : List Nat} {x : List UInt8} : rStr.rd w O [.string (Fx.bs x)] x := rfl
theorem u8c {V : Value → World → Prop} {w : World} {x : Int} (h : InK .u8 x) (hV : V (.int .u8 (UInt8.ofNat x.toNat).toNat) w) : V (.int .u8 x) w := by rw [val_u8 h]; exact hV

section
variable {P : Program} {r : Option Nat} {ρ : Env} {w : World} {d : Option Nat} {ty : TypeId} {pos : String} {aft : Array Edge} {g : Option (Nat × Bool)} {V : Value → World → Prop}
variable {w0 : Zx} {w' : World} {O0 : List Nat} {bs bs' new : Ents}
variable {x y : Operand} {t s u : TypeId} {td : TypeDesc} {n b : Nat} {z : List Value} {ag : Bool} {k q q' : IntKind} {m j : Int}

theorem run1_u8 {o : Oper} {e : Int} (hr : InK .u8 e) (h : ∀ V : Value → World → Prop, V (.int .u8 e) w → Run1 P r ρ w o V) (k : V (.int .u8 (UInt8.ofNat e.toNat).toNat) w) : Run1 P r ρ w o V := h V (by rw [val_u8 hr]; exact k)
theorem op_and (hx : ev ρ x = .int q m) (hy : ev ρ y = .int q j) (h : V (.int q (Go.bits .and q m j)) w) : Run1 P r ρ w ⟨d, .binOp .and t x y u, ty, pos, aft, g⟩ V :=
  run1_value (by simp) (by simp [execOp, hx, hy, eqGuard, binOp, Op.intBits, Go.bits]) h
theorem op_or (hx : ev ρ x = .int q m) (hy : ev ρ y = .int q j) (h : V (.int q (Go.bits .or q m j)) w) : Run1 P r ρ w ⟨d, .binOp .or t x y u, ty, pos, aft, g⟩ V :=
  run1_value (by simp) (by simp [execOp, hx, hy, eqGuard, binOp, Op.intBits, Go.bits]) h
theorem op_xor (hx : ev ρ x = .int q m) (hy : ev ρ y = .int q j) (h : V (.int q (Go.bits .xor q m j)) w) : Run1 P r ρ w ⟨d, .binOp .xor t x y u, ty, pos, aft, g⟩ V :=
  run1_value (by simp) (by simp [execOp, hx, hy, eqGuard, binOp, Op.intBits, Go.bits]) h
theorem op_shl (hx : ev ρ x = .int q m) (hy : ev ρ y = .int q' j) (h0 : 0 ≤ j) (h : V (.int q (q.wrap (m * 2 ^ min j.toNat q.bits))) w) : Run1 P r ρ w ⟨d, .binOp .shl t x y u, ty, pos, aft, g⟩ V :=
  run1_value (by simp) (by simp [execOp, hx, hy, eqGuard, binOp, shift_shl_any _ _ _ _ h0]) h
theorem op_shr (hx : ev ρ x = .int q m) (hy : ev ρ y = .int q' j) (h0 : 0 ≤ j) (h : V (.int q (m / 2 ^ min j.toNat q.bits)) w) : Run1 P r ρ w ⟨d, .binOp .shr t x y u, ty, pos, aft, g⟩ V :=
  run1_value (by simp) (by simp [execOp, hx, hy, eqGuard, binOp, shift_shr_any _ _ _ _ h0]) h
theorem op_neg (hx : ev ρ x = .int q m) (h : V (.int q (q.wrap (0 - m))) w) : Run1 P r ρ w ⟨d, .unOp .neg t x, ty, pos, aft, g⟩ V :=
  run1_value (by simp) (by simp only [execOp, hx, Op.unary, Op.intArith]; simp) h
theorem op_com (hx : ev ρ x = .int q m) (h : V (.int q (Go.bits .xor q (if q.signed then -1 else q.max) m)) w) : Run1 P r ρ w ⟨d, .unOp .xor t x, ty, pos, aft, g⟩ V :=
  run1_value (by simp) (by simp [execOp, hx, Op.unary, Op.intBits, Go.bits]) h

theorem op_max {us : Array TypeId} (hx : ev ρ x = .int q m) (hy : ev ρ y = .int q j) (h : V (.int q (max m j)) w) : Run1 P r ρ w ⟨d, .call ⟨.builtin .max, #[x, y], us⟩, ty, pos, aft, g⟩ V := by
  have e : (if m < j then j else m) = max m j := by split <;> omega
  exact run1_value (v := .int q (max m j)) (by simp) (by simp [execOp, resolve, invoke, builtin, Builtin.max_, Builtin.max2, hx, hy, e]) h
theorem op_min {us : Array TypeId} (hx : ev ρ x = .int q m) (hy : ev ρ y = .int q j) (h : V (.int q (min m j)) w) : Run1 P r ρ w ⟨d, .call ⟨.builtin .min, #[x, y], us⟩, ty, pos, aft, g⟩ V := by
  have e : (if j < m then j else m) = min m j := by split <;> omega
  exact run1_value (v := .int q (min m j)) (by simp) (by simp [execOp, resolve, invoke, builtin, Builtin.min_, Builtin.min2, hx, hy, e]) h
theorem eqlen {a : Option Addr} {l l' c : Nat} (h : ev ρ x = .slice a l c) (e : l = l') : ev ρ x = .slice a l' c := e ▸ h
theorem eqlenV {a : Option Addr} {l l' c : Nat} (e : l = l') : Value.slice a l c = .slice a l' c := e ▸ rfl
theorem bndI {o : Operand} {dflt l : Nat} {m : Int} (h : ev ρ o = .int q m) (hk : m = (l : Int)) : Bnd ρ (some o) dflt l := ⟨q, by rw [h, hk]⟩
theorem Src.owned' {bl len : Nat} {cs news : List Value} {e : TypeId} {fz : Nat × Nat} (h : w.heap[bl]? = some (.cells cs.toArray e fz)) (hn : (cs.drop 0).take len = news) : Src w (some ⟨bl, 0, none⟩) news := hn ▸ Src.owned h
theorem Gs.of_make {α : Type} {p : Rp α} {O : List Nat} {e : TypeId} {bl l c : Nat} {v : Value} {x0 : α} (hp : p.n = 1) (hr : ∀ w O, p.rd w O [v] x0) (hlc : l ≤ c) (hc : c ≤ maxLen) :
    Gs p e w O (some ⟨bl, 0, none⟩) c (List.replicate l x0) (some bl) (.cells (List.replicate c v).toArray e) := by
  refine Gs.made (by simp [hp]) (by simpa using hlc) hc ?_
  simp only [hp, Nat.mul_one, List.length_replicate, List.take_replicate, Nat.min_eq_left hlc]
  clear hlc
  induction l with
  | zero => exact Els.nil
  | succ l ih => exact ⟨[v], List.replicate l v, by simp [List.replicate_succ], hr w O, ih⟩
theorem op_makeSliceI {α : Type} {q : Rp α} {e : TypeId} {bt : Nat} {tz : List Value} {ta : Bool} {v : Value} {x0 : α} {kl kc : IntKind} {l c : Int} (T : Ty P t (.slice e) 1 bt tz ta) (E : Ty P e td 1 b [v] ag) (hs : St w0 O0 w bs)
    (hx : ev ρ x = .int kl l) (hy : ev ρ y = .int kc c) (hc : 0 ≤ l ∧ l ≤ c ∧ b * c ≤ 281474976710656 ∧ c ≤ 281474976710656) (hq : q.n = 1) (hr : ∀ w O, q.rd w O [v] x0)
    (k : ∀ bl w', Ext w w' → Step (ks bs O0) w (ks ((some bl, .cells (List.replicate c.toNat v).toArray e) :: bs) O0) w' → St w0 O0 w' ((some bl, .cells (List.replicate c.toNat v).toArray e) :: bs) →
      Gs q e w' (ks ((some bl, .cells (List.replicate c.toNat v).toArray e) :: bs) O0) (some ⟨bl, 0, none⟩) c.toNat (List.replicate l.toNat x0) (some bl) (.cells (List.replicate c.toNat v).toArray e) →
      V (.slice (some ⟨bl, 0, none⟩) (List.replicate l.toNat x0).length c.toNat) w') :
    Run1 P r ρ w ⟨d, .makeSlice t x y, ty, pos, aft, g⟩ V := by
  have hm : maxLen = 9223372036854775807 := rfl
  refine op_makeSlice (l := l.toNat) (c := c.toNat) T E hs (hx.trans (by rw [Int.toNat_of_nonneg hc.1])) (hy.trans (by rw [Int.toNat_of_nonneg (by omega)])) (by omega) ?_ (by omega) fun bl w' hx h1 h2 => ?_
  · have e1 : ((c.toNat : Nat) : Int) = c := Int.toNat_of_nonneg (by omega)
    have e2 : ((b * c.toNat : Nat) : Int) = b * c := by rw [Int.natCast_mul, e1]
    have := hc.2.2.1
    rw [← e2] at this
    exact Int.ofNat_le.1 this
  · have := k bl w' hx h1 h2 (Gs.of_make hq hr (by omega) (by omega))
    rwa [List.length_replicate] at this
theorem perm_front {β : Type} : ∀ (l : List β) (i : Nat) (p : β), l[i]? = some p → (p :: l.eraseIdx i).Perm l
  | [], _, _, h => by simp at h
  | a :: l, 0, p, h => by simp at h; subst h; exact List.Perm.refl _
  | a :: l, i + 1, p, h => (List.Perm.swap a p _).trans ((perm_front l i p (by simpa using h)).cons a)
theorem St.front {i : Nat} {p : Option Nat × Obj} (hs : St w0 O0 w bs) (hi : bs[i]? = some p) : St w0 O0 w (p :: bs.eraseIdx i) ∧ Step (ks bs O0) w (ks (p :: bs.eraseIdx i) O0) w := by
  have hp : (p :: bs.eraseIdx i).Perm bs := perm_front bs i p hi
  have hk : ∀ b, b ∈ ks (p :: bs.eraseIdx i) O0 ↔ b ∈ ks bs O0 := fun b => by
    simp only [ks, List.mem_append]
    rw [(hp.filterMap Prod.fst).mem_iff]
  refine ⟨⟨hs.below, fun q hq => hs.own q (hp.mem_iff.1 hq), ?_, fun j hj => ⟨(hs.dj j hj).1, fun hm => (hs.dj j hj).2 ((hp.filterMap Prod.fst).mem_iff.1 hm)⟩, hs.dsn, hs.dfs⟩, Nat.le_refl _, fun j hj hn => ⟨fun h => hn ((hk j).1 h), rfl⟩⟩
  exact (hp.filterMap Prod.fst).nodup_iff.2 hs.nd

/-- a field of a struct's value -/
theorem op_field1 {fs : Array Field} {f fb : Nat} {fl : Field} {fd : TypeDesc} {fz cs : List Value} {v : Value} (T : Ty P t (.struct fs) n b z ag) (hf : fs[f]? = some fl) (F : Ty P fl.type fd 1 fb fz false)
    (hx : ev ρ x = .agg cs.toArray) (hv : cs[fl.offset]? = some v) (k : V v w) : Run1 P r ρ w ⟨d, .field t x f, ty, pos, aft, g⟩ V :=
  run1_value (by simp) (by simp [execOp, hx, Instr.field, T.runU, hf, part, F.agg, asAgg, hv]) k
theorem op_fieldA {fs : Array Field} {f fn fb : Nat} {fl : Field} {fd : TypeDesc} {fz cs vs : List Value} (T : Ty P t (.struct fs) n b z ag) (hf : fs[f]? = some fl) (F : Ty P fl.type fd fn fb fz true)
    (hx : ev ρ x = .agg cs.toArray) (hv : (cs.drop fl.offset).take fn = vs) (hl : fl.offset + fn ≤ cs.length) (k : V (.agg vs.toArray) w) : Run1 P r ρ w ⟨d, .field t x f, ty, pos, aft, g⟩ V :=
  run1_value (v := .agg vs.toArray) (by simp) (by
    have e : cs.toArray.extract fl.offset (fl.offset + fn) = vs.toArray := by
      apply Array.ext'
      simp [List.extract_eq_take_drop, ← hv]
    simp [execOp, hx, Instr.field, T.runU, hf, part, F.agg, F.runSize, asAgg, hv]) k

/-! slices of one's own, read and written -/
section own
variable {α : Type} {p : Rp α} {O O' : List Nat}
theorem Els.set : ∀ {cs : List Value} {xs : List α}, Els p w O cs xs → ∀ i, i < xs.length → ∀ {vs : List Value} {y : α}, p.rd w O vs y → Els p w O (cs.take (i * p.n) ++ vs ++ cs.drop (i * p.n + p.n)) (xs.set i y)
  | _, [], h, i, hi, _, _, _ => by simp at hi
  | _, x :: xs, ⟨v1, v2, h1, h2, h3⟩, 0, _, vs, y, hy => by
    refine ⟨vs, v2, ?_, hy, h3⟩
    rw [h1, ← p.len h2]; simp
  | _, x :: xs, ⟨v1, v2, h1, h2, h3⟩, i + 1, hi, vs, y, hy => by
    refine ⟨v1, v2.take (i * p.n) ++ vs ++ v2.drop (i * p.n + p.n), ?_, h2, Els.set h3 i (by simpa using hi) hy⟩
    have hl := p.len h2
    have e1 : (i + 1) * p.n = v1.length + i * p.n := by rw [hl, Nat.add_mul, Nat.one_mul, Nat.add_comm]
    rw [h1, e1, List.take_length_add_append, Nat.add_assoc, List.drop_append]
    simp [Nat.add_assoc]

theorem Gs.at_ {e : TypeId} {a : Option Addr} {c : Nat} {xs : List α} {kk : Option Nat} {o : Obj} (h : Gs p e w O a c xs kk o) (hx : 0 < xs.length) : ∃ bl, a = some ⟨bl, 0, none⟩ ∧ kk = some bl := by
  rcases h with ⟨_, _, rfl, _⟩ | ⟨bl, cur, h1, h2, _⟩
  · simp at hx
  · exact ⟨bl, h1, h2⟩
theorem op_indexAddrG {xs : List α} {e : TypeId} {dt : TypeDesc} {a : Option Addr} {c : Nat} {kd : IntKind} {bt : Nat} {tz : List Value} {ta : Bool} {kk : Option Nat} {o : Obj} (T : Ty P t (.slice e) 1 bt tz ta) (E : Ty P e dt n b z ag)
    (hx : ev ρ x = .slice a xs.length c) (hy : ev ρ y = .int kd m) (h : Gs p e w O a c xs kk o) (h0 : 0 ≤ m ∧ m < xs.length)
    (k : ∀ bl, a = some ⟨bl, 0, none⟩ → kk = some bl → V (.pointer (some ⟨bl, m.toNat * n, none⟩)) w) : Run1 P r ρ w ⟨d, .indexAddr t x y, ty, pos, aft, g⟩ V := by
  obtain ⟨bl, ha, hk⟩ := h.at_ (by omega)
  refine op_indexAddrO T E (hx.trans (by rw [ha])) hy h0.1 h0.2 ?_
  simpa using k bl ha hk
theorem Gs.cellsAt {e : TypeId} {a : Option Addr} {c bl : Nat} {xs : List α} {o : Obj} (h : Gs p e w O a c xs (some bl) o) {i : Nat} (hi : i < xs.length) :
    ∃ cur, o = .cells cur e (0, 0) ∧ (i + 1) * p.n ≤ cur.size ∧ p.rd w O ((cur.toList.drop (i * p.n)).take p.n) xs[i] := by
  rcases h with ⟨_, _, rfl, _⟩ | ⟨b2, cur, h1, h2, h3, h4, h5, h6, h7⟩
  · simp at hi
  · have e1 : (i + 1) * p.n ≤ xs.length * p.n := Nat.mul_le_mul_right _ hi
    have e2 : xs.length * p.n ≤ c * p.n := Nat.mul_le_mul_right _ h5
    refine ⟨cur, h3, by omega, ?_⟩
    have := h7.get i hi
    rwa [List.drop_take, List.take_take, Nat.min_eq_left (by rw [Nat.add_mul] at e1; omega)] at this
theorem op_loadG [Inhabited α] {xs : List α} {e : TypeId} {a : Option Addr} {c bl i : Nat} {o : Obj} (T : Ty P t td 1 b z false) (hp : p.n = 1) (hs : St w0 O0 w bs) (hi : bs[i]? = some (some bl, o))
    (hx : ev ρ x = .pointer (some ⟨bl, m.toNat * 1, none⟩)) (h : Gs p e w O a c xs (some bl) o) (h0 : 0 ≤ m ∧ m < xs.length)
    (k : ∀ v, p.rd w O [v] (xs.getD m.toNat default) → V v w) : Run1 P r ρ w ⟨d, .load t x, ty, pos, aft, g⟩ V := by
  have hm : m.toNat < xs.length := by omega
  obtain ⟨cur, h1, h2, h3⟩ := h.cellsAt hm
  subst h1
  rw [hp] at h2 h3
  simp only [Nat.mul_one] at h2 h3 hx
  have hl : m.toNat < cur.size := by omega
  have e1 : (cur.toList.drop m.toNat).take 1 = [cur[m.toNat]] := by
    rw [List.drop_eq_getElem_cons (by simpa using hl)]; simp
  rw [e1] at h3
  refine op_load (cs := cur.toList) (v := cur[m.toNat]) T hs hx (by rw [hi]) ?_ (k _ ?_)
  · rw [List.getElem?_eq_getElem (by simpa using hl)]; simp
  · have : xs.getD m.toNat default = xs[m.toNat] := by simp [List.getD_eq_getElem?_getD, List.getElem?_eq_getElem hm]
    rw [this]; exact h3
theorem op_loadGF [Inhabited α] {xs : List α} {e : TypeId} {a : Option Addr} {c bl i nn off : Nat} {o : Obj} (T : Ty P t td 1 b z false) (hp : p.n = nn) (hs : St w0 O0 w bs) (hi : bs[i]? = some (some bl, o))
    (hx : ev ρ x = .pointer (some ⟨bl, m.toNat * nn + off, none⟩)) (h : Gs p e w O a c xs (some bl) o) (h0 : 0 ≤ m ∧ m < xs.length) (hoff : off < nn)
    (k : ∀ vs v, p.rd w O vs (xs.getD m.toNat default) → vs[off]? = some v → V v w) : Run1 P r ρ w ⟨d, .load t x, ty, pos, aft, g⟩ V := by
  have hm : m.toNat < xs.length := by omega
  obtain ⟨cur, h1, h2, h3⟩ := h.cellsAt hm
  subst h1 hp
  have hl : m.toNat * p.n + off < cur.size := by rw [Nat.add_mul] at h2; omega
  refine op_load (cs := cur.toList) (v := cur[m.toNat * p.n + off]) T hs hx (by rw [hi]) ?_ (k ((cur.toList.drop (m.toNat * p.n)).take p.n) _ ?_ ?_)
  · rw [List.getElem?_eq_getElem (by simpa using hl)]; simp
  · have : xs.getD m.toNat default = xs[m.toNat] := by simp [List.getD_eq_getElem?_getD, List.getElem?_eq_getElem hm]
    rw [this]; exact h3
  · rw [List.getElem?_take, if_pos hoff, List.getElem?_drop, List.getElem?_eq_getElem (by simpa using hl)]; simp
theorem op_loadGA [Inhabited α] {xs : List α} {e : TypeId} {a : Option Addr} {c bl i : Nat} {o : Obj} (T : Ty P t td n b z true) (hp : p.n = n) (hs : St w0 O0 w bs) (hi : bs[i]? = some (some bl, o))
    (hx : ev ρ x = .pointer (some ⟨bl, m.toNat * n, none⟩)) (h : Gs p e w O a c xs (some bl) o) (h0 : 0 ≤ m ∧ m < xs.length)
    (k : ∀ vs, p.rd w O vs (xs.getD m.toNat default) → V (.agg vs.toArray) w) : Run1 P r ρ w ⟨d, .load t x, ty, pos, aft, g⟩ V := by
  have hm : m.toNat < xs.length := by omega
  obtain ⟨cur, h1, h2, h3⟩ := h.cellsAt hm
  subst h1 hp
  refine op_loadA (cs := cur.toList) T hs hx (by rw [hi]) rfl (p.len h3) (k _ ?_)
  have : xs.getD m.toNat default = xs[m.toNat] := by simp [List.getD_eq_getElem?_getD, List.getElem?_eq_getElem hm]
  rw [this]; exact h3
theorem op_storeG {xs : List α} {e : TypeId} {a : Option Addr} {c bl i : Nat} {o : Obj} {v : Value} {vs : List Value} {yv : α} (T : Ty P t td n b z ag) (hp : p.n = n) (hs : St w0 O0 w bs) (hi : bs[i]? = some (some bl, o))
    (hx : ev ρ x = .pointer (some ⟨bl, m.toNat * n, none⟩)) (hy : ev ρ y = v) (hv : v.cells = vs.toArray) (h : Gs p e w (ks bs O0) a c xs (some bl) o) (h0 : 0 ≤ m ∧ m < xs.length) (hr : p.rd w (ks bs O0) vs yv)
    (k : ∀ w' o', Step (ks bs O0) w (ks (bs.set i (some bl, o')) O0) w' → St w0 O0 w' (bs.set i (some bl, o')) → Gs p e w' (ks (bs.set i (some bl, o')) O0) a c (xs.set m.toNat yv) (some bl) o' → V undef w') :
    Run1 P r ρ w ⟨d, .store t x y, ty, pos, aft, g⟩ V := by
  have hm : m.toNat < xs.length := by omega
  rcases h with ⟨_, _, rfl, _⟩ | ⟨b2, cur, h1, h2, h3, h4, h5, h6, h7⟩
  · simp at hm
  · cases h2
    subst h3 hp
    have e1 : (m.toNat + 1) * p.n ≤ xs.length * p.n := Nat.mul_le_mul_right _ hm
    have e2 : xs.length * p.n ≤ c * p.n := Nat.mul_le_mul_right _ h5
    rw [Nat.add_mul, Nat.one_mul] at e1
    have hn := p.len hr
    refine op_store (cs := cur.toList) (vs := vs) T hs hx hy (by rw [hi]) hv hn (by simp; omega) (List.all_eq_true.2 fun v hv => by simpa using p.one hr v hv) rfl rfl fun w' h8 h9 => ?_
    refine k w' _ h8 h9 ?_
    refine .inr ⟨bl, _, h1, rfl, rfl, ?_, by simpa using h5, h6, ?_⟩
    · rw [List.size_toArray, setL_length (by simp; omega)]; simpa using h4
    · have e3 := (h7.set m.toNat hm hr).step h8
      simp only [List.length_set]
      have e4 : (setL cur.toList (m.toNat * p.n) vs).take (xs.length * p.n) = ((cur.toList.take (xs.length * p.n)).take (m.toNat * p.n)) ++ vs ++ (cur.toList.take (xs.length * p.n)).drop (m.toNat * p.n + p.n) := by
        apply List.ext_getElem?
        intro j
        rw [List.getElem?_take, setL_getAll (by simp; omega)]
        simp only [List.getElem?_append, List.length_append, List.length_take, Array.length_toList, List.getElem?_take, List.getElem?_drop, hn]
        rw [Nat.min_eq_left (show xs.length * p.n ≤ cur.size by omega), Nat.min_eq_left (show m.toNat * p.n ≤ xs.length * p.n by omega)]
        by_cases c1 : j < m.toNat * p.n
        · simp [c1, show j < m.toNat * p.n + p.n by omega, show j < xs.length * p.n by omega, show ¬ m.toNat * p.n ≤ j by omega]
        · by_cases c2 : j < m.toNat * p.n + p.n
          · simp [c1, c2, show j < xs.length * p.n by omega, show m.toNat * p.n ≤ j by omega]
          · simp only [c1, c2, if_false, and_false]
            have : m.toNat * p.n + p.n + (j - (m.toNat * p.n + p.n)) = j := by omega
            rw [this]
      rw [e4]; exact e3
theorem Gs.of_cells {e : TypeId} {bl c : Nat} {cs : List Value} {xs : List α} (h : Els p w O cs xs) (hc : xs.length = c) (hm : c ≤ maxLen) : Gs p e w O (some ⟨bl, 0, none⟩) c xs (some bl) (.cells cs.toArray e) := by
  refine Gs.made (by simp [h.len, hc]) (by omega) hm ?_
  simp only
  rw [List.take_of_length_le (by rw [h.len]; exact Nat.le_refl _)]; exact h
end own

/-! function values -/
/-- a call of a function value -/
def FvTo (P : Program) (fv : Value) (args : List Value) (w : World) (K : Value → World → Prop) : Prop :=
  ∃ f first cap, fv = .func (.func f) first cap ∧ (∀ (zs : Array Value) (w : World), (callFunc f zs).run P w = .ok (.enter f zs) w) ∧ Fn P f (first.toList ++ args ++ cap.toList) w K
theorem op_callF {fv : Value} {args : Array Operand} {us : Array TypeId} {vs : List Value} {K : Value → World → Prop} (hx : ev ρ x = fv) (h : FvTo P fv vs w K) (ha : args.toList.map (ev ρ) = vs) (hk : ∀ v w', K v w' → V v w') :
    Run1 P r ρ w ⟨d, .call ⟨.value x, args, us⟩, ty, pos, aft, g⟩ V := by
  obtain ⟨f, first, cap, rfl, hc, hf⟩ := h
  refine run1_enter (f := f) (args := first.toList ++ vs ++ cap.toList) (w' := w) (by simp) ?_ hf hk
  have : args.map (ev ρ) = vs.toArray := by rw [← ha, ← Array.toList_map]
  simp [execOp, resolve, Deferred.ofValue, hx, invoke, hc, this]
theorem op_makeFunc' {f : Go.Fn} {a c : Array Operand} {a' c' : List Value} (ha : a.toList.map (ev ρ) = a') (hc : c.toList.map (ev ρ) = c') (h : V (.func f a'.toArray c'.toArray) w) : Run1 P r ρ w ⟨d, .makeFunc f a c, ty, pos, aft, g⟩ V := by
  refine op_makeFunc ?_
  have e1 : a.map (ev ρ) = a'.toArray := by rw [← ha, ← Array.toList_map]
  have e2 : c.map (ev ρ) = c'.toArray := by rw [← hc, ← Array.toList_map]
  rw [e1, e2]; exact h
/-- a function value computes what f says -/
def CallsTo1 {α β : Type} (P : Program) (w : World) (O : List Nat) (fv : Value) (A : Vr α) (R : Vr β) (f : α → Option β) : Prop :=
  ∀ w' O', Step O w O' w' → (∀ k ∈ O', k < w'.heap.size) → ∀ v x y, A.vd w' O' v x → f x = some y → FvTo P fv [v] w' fun u w'' => Ext w' w'' ∧ R.vd w'' O' u y
def CallsTo2 {α α' β : Type} (P : Program) (w : World) (O : List Nat) (fv : Value) (A : Vr α) (A' : Vr α') (R : Vr β) (f : α → α' → Option β) : Prop :=
  ∀ w' O', Step O w O' w' → (∀ k ∈ O', k < w'.heap.size) → ∀ v v' x x' y, A.vd w' O' v x → A'.vd w' O' v' x' → f x x' = some y → FvTo P fv [v, v'] w' fun u w'' => Ext w' w'' ∧ R.vd w'' O' u y
theorem CallsTo1.step {α β : Type} {w' : World} {O O' : List Nat} {fv : Value} {A : Vr α} {R : Vr β} {f : α → Option β} (h : CallsTo1 P w O fv A R f) (s : Step O w O' w') : CallsTo1 P w' O' fv A R f :=
  fun _ _ s' => h _ _ (s.trans s')
theorem CallsTo2.step {α α' β : Type} {w' : World} {O O' : List Nat} {fv : Value} {A : Vr α} {A' : Vr α'} {R : Vr β} {f : α → α' → Option β} (h : CallsTo2 P w O fv A A' R f) (s : Step O w O' w') : CallsTo2 P w' O' fv A A' R f :=
  fun _ _ s' => h _ _ (s.trans s')
theorem CallsTo1.call {α β : Type} {O : List Nat} {fv : Value} {A : Vr α} {R : Vr β} {f : α → Option β} (h : CallsTo1 P w O fv A R f) (hO : ∀ k ∈ O, k < w.heap.size) {v : Value} {x : α} {y : β} (hv : A.vd w O v x) (hy : f x = some y) :
    FvTo P fv [v] w fun u w'' => Ext w w'' ∧ R.vd w'' O u y := h _ _ (Step.refl _ _) hO _ _ _ hv hy
theorem CallsTo2.call {α α' β : Type} {O : List Nat} {fv : Value} {A : Vr α} {A' : Vr α'} {R : Vr β} {f : α → α' → Option β} (h : CallsTo2 P w O fv A A' R f) (hO : ∀ k ∈ O, k < w.heap.size) {v v' : Value} {x : α} {x' : α'} {y : β} (hv : A.vd w O v x) (hv' : A'.vd w O v' x') (hy : f x x' = some y) :
    FvTo P fv [v, v'] w fun u w'' => Ext w w'' ∧ R.vd w'' O u y := h _ _ (Step.refl _ _) hO _ _ _ _ _ hv hv' hy
theorem St.publishP {α : Type} {p : Rp α} (hs : St w0 O0 w bs) {i bl : Nat} {cs : List Value} {e : TypeId} {fz : Nat × Nat} {x : α} (hi : bs[i]? = some (some bl, .cells cs.toArray e fz)) (h : p.rd w (ks bs O0) cs x) :
    St w0 O0 w (bs.eraseIdx i) ∧ Step (ks bs O0) w (ks (bs.eraseIdx i) O0) w ∧ PtR p w (ks (bs.eraseIdx i) O0) ⟨bl, 0, none⟩ x := by
  have hst := Step.drop w O0 bs i
  refine ⟨hs.drop i, hst, rfl, ⟨hs.lt (List.mem_of_getElem? hi) rfl, not_ks_erase hs hi⟩, _, e, fz, hs.get hi, ?_, ?_⟩
  · have := p.len h; simp; omega
  · have h1 := p.len h
    simp only [List.drop_zero]
    rw [← h1, List.take_length]; exact p.step hst h

/-! a slice handed back as the caller's own -/
def OkG {α : Type} (P : Program) (f : FuncId) (args : List Value) (w : World) (O : List Nat) (p : Rp α) (e : TypeId) (x : List α) : Prop :=
  Fn P f args w fun v w' => Ext w w' ∧ ∃ a c kk o, v = .slice a x.length c ∧ (∀ b, kk = some b → w.heap.size ≤ b ∧ w'.heap[b]? = some o) ∧ Gs p e w' (kk.toList ++ O) a c x kk o
theorem ks_cons (kk : Option Nat) (o : Obj) : ks ((kk, o) :: bs) O0 = kk.toList ++ ks bs O0 := by cases kk <;> rfl
theorem St.callG {kk : Option Nat} {o : Obj} (hs : St w0 O0 w bs) (hx : Ext w w') (hk : ∀ b, kk = some b → w.heap.size ≤ b ∧ w'.heap[b]? = some o) :
    St w0 O0 w' ((kk, o) :: bs) ∧ Step (ks bs O0) w (ks ((kk, o) :: bs) O0) w' := by
  have h1 := hs.call hx
  cases kk with
  | none => exact ⟨h1.ghost o, Step.ext hx⟩
  | some b =>
    obtain ⟨hb, hg⟩ := hk b rfl
    refine ⟨⟨h1.below, fun q hq j hj => ?_, ?_, fun j hj => ⟨(h1.dj j hj).1, fun hm => ?_⟩, h1.dsn, h1.dfs⟩, hx.size, fun j hj hn => ⟨fun hm => ?_, (Step.ext (O := ks bs O0) hx).keep j hj hn |>.2⟩⟩
    · rcases List.mem_cons.1 hq with rfl | hq
      · cases hj; exact ⟨.inr (Nat.le_trans hs.below.size hb), hg⟩
      · exact h1.own q hq j hj
    · show (b :: bs.filterMap Prod.fst).Nodup
      rw [List.nodup_cons]
      refine ⟨fun hm => ?_, h1.nd⟩
      have := hs.ltw b (List.mem_append_left _ hm)
      omega
    · rcases List.mem_cons.1 (show j ∈ b :: bs.filterMap Prod.fst from hm) with e | hm
      · have := hs.lt0 j hj; omega
      · exact (hs.dj j hj).2 hm
    · rw [ks_cons] at hm
      rcases List.mem_append.1 hm with hm | hm
      · simp at hm; omega
      · exact hn hm
theorem OkG.ok {α : Type} {f : FuncId} {args : List Value} {O : List Nat} {p : Rp α} {e : TypeId} {xs : List α} (hO : ∀ k ∈ O, k < w.heap.size) (h : OkG P f args w O p e xs) : Ok P f args w O (vC (rSl p)) xs := by
  refine Fn.mono h fun v w' ⟨hx, a, c, kk, o, hv, hk, hG⟩ => ⟨hx, ?_⟩
  obtain ⟨h1, h2⟩ := (St.start hO).callG hx hk
  obtain ⟨_, _, h3⟩ := Gs.publish (i := 0) h1 rfl (by rw [ks_cons]; exact hG)
  rw [hv]
  exact mkC (mk_sl h3)
theorem OkG.mk {w0 : World} {α : Type} {O : List Nat} {p : Rp α} {e : TypeId} {xs ys : List α} {a : Option Addr} {c i : Nat} {kk : Option Nat} {o : Obj} (hs : St ⟨w0, [], []⟩ O w' bs) (hi : bs[i]? = some (kk, o)) (h : Gs p e w' (ks bs O) a c xs kk o) (he : xs = ys) :
    ∃ a' c' kk o, Value.slice a xs.length c = .slice a' ys.length c' ∧ (∀ b, kk = some b → w0.heap.size ≤ b ∧ w'.heap[b]? = some o) ∧ Gs p e w' (kk.toList ++ O) a' c' ys kk o := by
  subst he
  refine ⟨a, c, kk, o, rfl, fun b hb => ⟨((hs.own _ (List.mem_of_getElem? hi) b hb).1).resolve_left (by simp), (hs.own _ (List.mem_of_getElem? hi) b hb).2⟩, h.step ⟨Nat.le_refl _, fun j hj hn => ⟨fun hm => hn ?_, rfl⟩⟩⟩
  rcases List.mem_append.1 hm with hm | hm
  · refine List.mem_append_left _ (mem_keys.2 ⟨_, List.mem_of_getElem? hi, ?_⟩)
    simpa using hm
  · exact List.mem_append_right _ hm
theorem OkG.mkNil {w0 : World} {α : Type} {O : List Nat} {p : Rp α} {e : TypeId} {ys : List α} (he : ([] : List α) = ys) :
    ∃ a' c' kk o, Value.slice none 0 0 = .slice a' ys.length c' ∧ (∀ b, kk = some b → w0.heap.size ≤ b ∧ w'.heap[b]? = some o) ∧ Gs p e w' (kk.toList ++ O) a' c' ys kk o := by
  subst he
  exact ⟨none, 0, none, .cells #[] e, rfl, (fun _ h => by cases h), Gs.nil_⟩

theorem Els.drop {α : Type} {p : Rp α} {O : List Nat} : ∀ {cs : List Value} {xs : List α}, Els p w O cs xs → ∀ k, Els p w O (cs.drop (k * p.n)) (xs.drop k)
  | _, [], h, k => by rw [show _ = _ from h]; simp [Els]
  | _, _ :: _, h, 0 => by simpa using h
  | _, x :: xs, ⟨v1, v2, h1, h2, h3⟩, k + 1 => by
    have := Els.drop h3 k
    rw [h1, Nat.add_mul, Nat.one_mul, Nat.add_comm, ← p.len h2, List.drop_append, List.drop_of_length_le (by omega)]
    simp only [List.nil_append, List.drop_succ_cons, p.len h2, Nat.add_sub_cancel_left]; exact this
theorem op_copyG {α : Type} {p : Rp α} {xs ys : List α} {e : TypeId} {a a2 : Option Addr} {c c2 i bt : Nat} {tz : List Value} {ta : Bool} {kk : Option Nat} {o : Obj} (T : Ty P t (.slice e) 1 bt tz ta) (E : Ty P e td 1 b z ag) (hp : p.n = 1)
    (hs : St w0 O0 w bs) (hi : bs[i]? = some (kk, o)) (hx : ev ρ x = .slice a xs.length c) (hG : Gs p e w (ks bs O0) a c xs kk o) (hy : ev ρ y = .slice a2 ys.length c2) (h : SlR p w (ks bs O0) a2 c2 ys) (hpos : 0 < xs.length)
    (k : ∀ o' w', Step (ks bs O0) w (ks (bs.set i (kk, o')) O0) w' → St w0 O0 w' (bs.set i (kk, o')) → Gs p e w' (ks (bs.set i (kk, o')) O0) a c (ys.take xs.length ++ xs.drop ys.length) kk o' → V (.int .i64 ((min ys.length xs.length : Nat) : Int)) w') :
    Run1 P r ρ w ⟨d, .call ⟨.builtin .copy, #[x, y], #[t, t]⟩, ty, pos, aft, g⟩ V := by
  rcases hG with ⟨_, _, rfl, _⟩ | ⟨bl, cur, rfl, rfl, rfl, h4, h5, h6, h7⟩
  · simp at hpos
  · obtain ⟨news, hE, hS⟩ := h.src
    have hnl : news.length = ys.length := by rw [hE.len, hp, Nat.mul_one]
    rw [hp, Nat.mul_one] at h4 h7
    refine op_copy (cs := cur.toList) T E hs (by rw [hi]) hx hy hS hnl hE.one (by simp; omega) rfl rfl fun w' h8 h9 => k _ w' h8 h9 ?_
    have hlen : (news.take (min ys.length xs.length)).length = min ys.length xs.length := by simp; omega
    refine .inr ⟨bl, _, rfl, rfl, rfl, ?_, by simp; omega, h6, ?_⟩
    · rw [List.size_toArray, setL_length (by simp; omega)]; simpa [hp] using h4
    · have e1 : (ys.take xs.length ++ xs.drop ys.length).length = xs.length := by simp; omega
      rw [hp, Nat.mul_one, e1]
      have e2 : (setL cur.toList 0 (news.take (min ys.length xs.length))).take xs.length = news.take (min ys.length xs.length) ++ (cur.toList.take xs.length).drop (min ys.length xs.length) := by
        unfold setL
        simp only [List.take_zero, List.nil_append, Nat.zero_add, hlen]
        rw [List.take_append, hlen, List.take_of_length_le (by rw [hlen]; omega), List.drop_take]
      rw [show (setL cur.toList 0 (news.take (min ys.length xs.length))).toArray.toList = setL cur.toList 0 (news.take (min ys.length xs.length)) from rfl, e2]
      have e3 : ys.take xs.length = ys.take (min ys.length xs.length) := by rw [← List.take_take, List.take_of_length_le (l := ys.take xs.length) (by simp; omega)] <;> omega
      have e4 : xs.drop ys.length = xs.drop (min ys.length xs.length) := by
        rcases Nat.le_total ys.length xs.length with hl | hl
        · rw [Nat.min_eq_left hl]
        · rw [Nat.min_eq_right hl, List.drop_of_length_le hl, List.drop_of_length_le (Nat.le_refl _)]
      rw [e3, e4]
      have f1 := (hE.take (min ys.length xs.length)).step h8
      have f2 := (h7.drop (min ys.length xs.length)).step h8
      rw [hp, Nat.mul_one] at f1 f2
      exact f1.append f2

/-- a slice whose capacity is its length -/
def vCl {α : Type} (p : Rp α) : Vr (List α) := ⟨fun w O v x => ∃ a, v = .slice a x.length x.length ∧ SlR p w O a x.length x, fun s ⟨a, h1, h2⟩ => ⟨a, h1, h2.step s⟩⟩
theorem mkCl {α : Type} {p : Rp α} {O : List Nat} {a : Option Addr} {c : Nat} {xs : List α} (h : SlR p w O a c xs) (e : c = xs.length) : (vCl p).vd w O (.slice a xs.length c) xs := by
  subst e; exact ⟨a, rfl, h⟩

/-- copy into a window of a slice of one's own -/
theorem op_copyW {α : Type} {p : Rp α} {xs ys : List α} {news : List Value} {e : TypeId} {a2 : Option Addr} {c c2 i bt bl l h : Nat} {tz : List Value} {ta : Bool} {a : Option Addr} {o : Obj} (T : Ty P t (.slice e) 1 bt tz ta) (E : Ty P e td 1 b z ag) (hp : p.n = 1)
    (hs : St w0 O0 w bs) (hi : bs[i]? = some (some bl, o)) (hx : ev ρ x = .slice (some ⟨bl, if c = l then 0 else 0 + l * 1, none⟩) (h - l) (c - l)) (hG : Gs p e w (ks bs O0) a c xs (some bl) o) (hy : ev ρ y = .slice a2 ys.length c2) (hE : Els p w (ks bs O0) news ys) (hS : Src w a2 news)
    (hlh : l < h) (hh : h ≤ xs.length)
    (k : ∀ o' w', Step (ks bs O0) w (ks (bs.set i (some bl, o')) O0) w' → St w0 O0 w' (bs.set i (some bl, o')) →
      Gs p e w' (ks (bs.set i (some bl, o')) O0) a c (xs.take l ++ (ys.take (h - l) ++ (xs.drop l).drop (min ys.length (h - l)))) (some bl) o' → V (.int .i64 ((min ys.length (h - l) : Nat) : Int)) w') :
    Run1 P r ρ w ⟨d, .call ⟨.builtin .copy, #[x, y], #[t, t]⟩, ty, pos, aft, g⟩ V := by
  rcases hG with ⟨_, _, rfl, _⟩ | ⟨b2, cur, rfl, hb2, rfl, h4, h5, h6, h7⟩
  · simp at hh; omega
  · cases hb2
    have hnl : news.length = ys.length := by rw [hE.len, hp, Nat.mul_one]
    rw [hp, Nat.mul_one] at h4 h7
    have hcl : c ≠ l := by omega
    rw [if_neg hcl, Nat.zero_add, Nat.mul_one] at hx
    have hlen : (news.take (min ys.length (h - l))).length = min ys.length (h - l) := by simp; omega
    have hcs : cur.toList.length = c := by simpa using h4
    refine op_copy (cs := cur.toList) T E hs (by rw [hi]) hx hy hS hnl hE.one (by rw [hcs]; omega) rfl rfl fun w' h8 h9 => k _ w' h8 h9 ?_
    have hL : (xs.take l ++ (ys.take (h - l) ++ (xs.drop l).drop (min ys.length (h - l)))).length = xs.length := by simp; omega
    refine .inr ⟨bl, _, rfl, rfl, rfl, ?_, by rw [hL]; exact h5, h6, ?_⟩
    · rw [List.size_toArray, setL_length (by rw [hlen, hcs]; omega), hcs, hp, Nat.mul_one]
    · rw [hp, Nat.mul_one, hL]
      have e2 : (setL cur.toList l (news.take (min ys.length (h - l)))).take xs.length =
          (cur.toList.take xs.length).take l ++ (news.take (min ys.length (h - l)) ++ ((cur.toList.take xs.length).drop l).drop (min ys.length (h - l))) := by
        apply List.ext_getElem?
        intro j
        rw [List.getElem?_take, setL_getAll (by rw [hlen, hcs]; omega), hlen]
        simp only [List.getElem?_append, List.length_take, List.getElem?_take, List.getElem?_drop, hnl, hcs, List.length_drop]
        have e5 : min l (min xs.length c) = l := by omega
        rw [e5]
        by_cases c1 : j < l
        · simp [c1, show j < xs.length by omega, show ¬ l ≤ j by omega]
        · simp only [c1, if_false]
          by_cases c2 : j < l + min ys.length (h - l)
          · have c3 : j - l < min (min ys.length (h - l)) ys.length := by omega
            have c4 : j - l < min ys.length (h - l) := by omega
            simp only [show j < xs.length by omega, show l ≤ j by omega, c2, c3, c4, and_self, if_true]
          · have c3 : ¬ j - l < min (min ys.length (h - l)) ys.length := by omega
            simp only [c2, c3, and_false, if_false]
            have e6 : l + (min ys.length (h - l) + (j - l - min (min ys.length (h - l)) ys.length)) = j := by omega
            rw [e6]
      rw [show (setL cur.toList l (news.take (min ys.length (h - l)))).toArray.toList = setL cur.toList l (news.take (min ys.length (h - l))) from rfl, e2]
      have e3 : ys.take (h - l) = ys.take (min ys.length (h - l)) := by
        rcases Nat.le_total ys.length (h - l) with hl | hl
        · rw [Nat.min_eq_left hl, List.take_of_length_le hl, List.take_length]
        · rw [Nat.min_eq_right hl]
      rw [e3]
      have f0 := (h7.take l).step h8
      have f1 := (hE.take (min ys.length (h - l))).step h8
      have f2 := ((h7.drop l).drop (min ys.length (h - l))).step h8
      rw [hp, Nat.mul_one] at f0 f1 f2
      rw [Nat.mul_one] at f2
      exact f0.append (f1.append f2)

theorem Gs.win {α : Type} {p : Rp α} {xs : List α} {e : TypeId} {O : List Nat} {a : Option Addr} {c bl l h i : Nat} {o : Obj} (hp : p.n = 1) (hs : St w0 O0 w bs) (hi : bs[i]? = some (some bl, o)) (hG : Gs p e w O a c xs (some bl) o) (hlh : l < h) (hh : h ≤ xs.length) :
    ∃ news, Els p w O news ((xs.drop l).take (h - l)) ∧ Src w (some ⟨bl, if c = l then 0 else 0 + l * 1, none⟩) news := by
  rcases hG with ⟨_, _, rfl, _⟩ | ⟨b2, cur, rfl, hb2, rfl, h4, h5, h6, h7⟩
  · simp at hh; omega
  · cases hb2
    rw [hp, Nat.mul_one] at h4 h7
    have f := (h7.drop l).take (h - l)
    rw [hp, Nat.mul_one, Nat.mul_one] at f
    refine ⟨_, f, ?_⟩
    rw [if_neg (by omega), Nat.zero_add, Nat.mul_one]
    have e1 : ((cur.toList.take xs.length).drop l).take (h - l) = (cur.toList.drop l).take (h - l) := by
      rw [List.drop_take, List.take_take, Nat.min_eq_left (by omega)]
    rw [e1]
    exact Src.owned (cs := cur.toList) (e := e) (fz := (0, 0)) (hs.get (by rw [hi]))
/-! arrays in blocks of one's own -/
def vArr {α : Type} (p : Rp α) : Vr (List α) := ⟨fun w O v x => ∃ cs : List Value, v = .agg cs.toArray ∧ Els p w O cs x, fun s ⟨cs, h1, h2⟩ => ⟨cs, h1, h2.step s⟩⟩
theorem op_indexAddrAG {α : Type} {p : Rp α} {O : List Nat} {xs : List α} {e c bl tn : Nat} {dt : TypeDesc} {kd : IntKind} {bt : Nat} {tz : List Value} {ta : Bool} {a : Option Addr} {o : Obj} {e' : TypeId} (T : Ty P t (.array c e) tn bt tz ta) (E : Ty P e dt n b z ag)
    (hx : ev ρ x = .pointer (some ⟨bl, 0, none⟩)) (hy : ev ρ y = .int kd m) (h : Gs p e' w O a c xs (some bl) o) (h0 : 0 ≤ m ∧ m < xs.length)
    (k : V (.pointer (some ⟨bl, m.toNat * n, none⟩)) w) : Run1 P r ρ w ⟨d, .indexAddr t x y, ty, pos, aft, g⟩ V := by
  have hl := h.le.1
  refine op_indexAddrA T E hx hy h0.1 (by omega) ?_
  rw [Addr.add_lit, Nat.zero_add]; exact k
theorem op_loadArr {α : Type} {p : Rp α} {O : List Nat} {xs : List α} {e' : TypeId} {c bl i : Nat} {a : Option Addr} {o : Obj} (T : Ty P t td c b z true) (hp : p.n = 1) (hs : St w0 O0 w bs) (hi : bs[i]? = some (some bl, o))
    (hx : ev ρ x = .pointer (some ⟨bl, 0, none⟩)) (h : Gs p e' w O a c xs (some bl) o) (hl : xs.length = c)
    (k : ∀ cs, Els p w O cs xs → V (.agg cs.toArray) w) : Run1 P r ρ w ⟨d, .load t x, ty, pos, aft, g⟩ V := by
  rcases h with ⟨_, _, _, h⟩ | ⟨b2, cur, h1, h2, rfl, h4, h5, h6, h7⟩
  · cases h
  · cases h2
    rw [hp, Nat.mul_one] at h4 h7
    refine op_loadA (cs := cur.toList) (vs := cur.toList.take c) T hs hx (by rw [hi]) (by simp) (by simp [h4]) (k _ ?_)
    rw [← hl]; exact h7

theorem mk_slL {α : Type} {p : Rp α} {O : List Nat} {xs : List α} {a : Option Addr} {c l : Nat} (e : l = xs.length) (h : SlR p w O a c xs) : (rSl p).rd w O [.slice a l c] xs := by subst e; exact mk_sl h
end
end Go.Fx


/- Ranges over functions: iterators as lists of what they hand out; the loop over one. No program in sight. -/
set_option linter.unusedSimpArgs false
set_option linter.unusedVariables false
namespace Go.Fx
open Go Go.RowKit

/-- blocks of one's own from one world to the next: those of old, and new ones -/
structure Grow (O O' : List Nat) (w w' : World) : Prop where
  new : ∀ k ∈ O', k ∈ O ∨ w.heap.size ≤ k
  lt : ∀ k ∈ O', k < w'.heap.size
theorem Grow.refl {O : List Nat} {w w' : World} (h : ∀ k ∈ O, k < w'.heap.size) : Grow O O w w' := ⟨fun _ h => .inl h, h⟩

/-- what has come, the world, what the loop owns, what the iterator owns -/
abbrev JP (α : Type) := List α → World → List Nat → List Nat → Prop
structure Abides {α : Type} (J : JP α) : Prop where
  loc : ∀ {pre : List α} {w w' : World} {O K K' : List Nat}, J pre w O K → (∀ k ∈ K, k ∉ O) → Loc K w w' → Grow K K' w w' → J pre w' O K'
/-- how the loop's body takes what it is handed -/
def YieldsTo {α : Type} (P : Program) (enc : α → World → List Nat → List Value → Prop) (L : List α) (l : Nat) (J Jx : JP α) : Prop :=
  ∀ (pre : List α) (x : α) (w : World) (O K : List Nat) (vs : List Value), pre ++ [x] <+: L → J pre w O K → (∀ k ∈ K, k < w.heap.size ∧ k ∉ O) → (∀ k ∈ O, k < w.heap.size) → enc x w (K ++ O) vs →
    YieldAt (FW none) 0 P l vs.toArray w fun e w' => ∃ O', Loc O w w' ∧ Grow O O' w w' ∧ ((e = .returned (.bool true) ∧ J (pre ++ [x]) w' O' K) ∨ (e = .returned (.bool false) ∧ Jx (pre ++ [x]) w' O' K))
/-- function f, over what it has captured, hands out the list L -/
def IterF {α : Type} (P : Program) (w : World) (O : List Nat) (f : FuncId) (caps : List Value) (enc : α → World → List Nat → List Value → Prop) (L : List α) : Prop :=
  ∀ (w1 : World) (O1 : List Nat), Step O w O1 w1 → (∀ k ∈ O1, k < w1.heap.size) → ∀ (l : Nat) (J Jx : JP α), Abides J → Abides Jx → YieldsTo P enc L l J Jx → J [] w1 O1 [] →
    Fn P f (.func (.yield l) #[] #[] :: caps) w1 fun _ w2 => ∃ O2, J L w2 O2 [] ∨ ∃ pre, Jx pre w2 O2 []
theorem IterF.step {α : Type} {P : Program} {w w' : World} {O O' : List Nat} {f : FuncId} {caps : List Value} {enc : α → World → List Nat → List Value → Prop} {L : List α} (h : IterF P w O f caps enc L) (s : Step O w O' w') : IterF P w' O' f caps enc L :=
  fun w1 O1 s1 => h w1 O1 (s.trans s1)
def enc1 {α : Type} (a : Vr α) : α → World → List Nat → List Value → Prop := fun x w O vs => ∃ v, vs = [v] ∧ a.vd w O v x
def enc2 {α β : Type} (a : Vr α) (b : Vr β) : α × β → World → List Nat → List Value → Prop := fun x w O vs => ∃ v1 v2, vs = [v1, v2] ∧ a.vd w O v1 x.1 ∧ b.vd w O v2 x.2
theorem enc1_len {α : Type} {a : Vr α} {x : α} {w : World} {O : List Nat} {vs : List Value} (h : enc1 a x w O vs) : vs.length = 1 := by obtain ⟨v, rfl, _⟩ := h; rfl
theorem enc2_len {α β : Type} {a : Vr α} {b : Vr β} {x : α × β} {w : World} {O : List Nat} {vs : List Value} (h : enc2 a b x w O vs) : vs.length = 2 := by obtain ⟨v1, v2, rfl, _⟩ := h; rfl
theorem enc1_step {α : Type} {a : Vr α} {x : α} {w w' : World} {O O' : List Nat} {vs : List Value} (s : Step O w O' w') (h : enc1 a x w O vs) : enc1 a x w' O' vs := by obtain ⟨v, e, h⟩ := h; exact ⟨v, e, a.step s h⟩
theorem enc2_step {α β : Type} {a : Vr α} {b : Vr β} {x : α × β} {w w' : World} {O O' : List Nat} {vs : List Value} (s : Step O w O' w') (h : enc2 a b x w O vs) : enc2 a b x w' O' vs := by
  obtain ⟨v1, v2, e, h1, h2⟩ := h; exact ⟨v1, v2, e, a.step s h1, b.step s h2⟩

/-! ### what is owned, said anew -/
theorem Step.sub {O O' : List Nat} {w : World} (h : ∀ k ∈ O', k ∈ O) : Step O w O' w := ⟨Nat.le_refl _, fun k _ hn => ⟨fun hm => hn (h k hm), rfl⟩⟩
theorem Step.of_loc {O O' K : List Nat} {w w' : World} (h : Loc K w w') (hK : ∀ k ∈ K, k ∈ O) (hO : ∀ k ∈ O', k ∈ O ∨ w.heap.size ≤ k) : Step O w O' w' :=
  ⟨h.size, fun k hk hn => ⟨fun hm => (hO k hm).elim hn (fun h => by omega), h.block k hk fun hm => hn (hK k hm)⟩⟩
section
variable {z : Zx} {O0 O1 : List Nat} {w w' : World} {bs : Ents}
theorem mem_ks {k : Nat} : k ∈ ks bs O0 ↔ k ∈ bs.filterMap Prod.fst ∨ k ∈ O0 := List.mem_append
/-- what others own has turned -/
theorem St.loc (h : St z O0 w bs) {K : List Nat} (hl : Loc K w w') (hK : ∀ k ∈ K, k ∉ bs.filterMap Prod.fst ∧ (k ∈ z.K ∨ z.w.heap.size ≤ k) ∧ k ∉ z.ds) : St z O0 w' bs :=
  ⟨h.below.trans' hl fun k hk => (hK k hk).2.1, fun p hp b hb => ⟨(h.own p hp b hb).1, by rw [hl.block b (h.lt hp hb) fun hm => (hK b hm).1 (mem_keys.2 ⟨p, hp, hb⟩)]; exact (h.own p hp b hb).2⟩, h.nd,
   fun k hk => ⟨Nat.lt_of_lt_of_le (h.dj k hk).1 hl.size, (h.dj k hk).2⟩, h.dsn,
   fun D hD => ⟨(h.dfs D hD).1, (h.dfs D hD).2.1, by rw [hl.block D (h.lt0 D (h.dfs D hD).1) fun hm => (hK D hm).2.2 hD]; exact (h.dfs D hD).2.2⟩⟩
/-- others own other blocks -/
theorem St.others (h : St z O0 w bs) (hO : ∀ k ∈ O1, k < w.heap.size ∧ k ∉ bs.filterMap Prod.fst) (hd : ∀ D ∈ z.ds, D ∈ O1) : St z O1 w bs :=
  ⟨h.below, h.own, h.nd, hO, h.dsn, fun D hD => ⟨hd D hD, (h.dfs D hD).2⟩⟩
/-- said from here on -/
theorem St.re (h : St z O0 w bs) : St ⟨w, bs.filterMap Prod.fst, []⟩ O0 w bs :=
  ⟨Loc.refl _ _, fun p hp b hb => ⟨.inl (mem_keys.2 ⟨p, hp, hb⟩), (h.own p hp b hb).2⟩, h.nd, h.dj, List.nodup_nil, fun _ h => by cases h⟩
/-- and from the old beginning again -/
theorem St.back {w1 : World} {K1 : List Nat} (h : St ⟨w1, K1, []⟩ O0 w bs) (hl : Loc z.K z.w w1) (hK : ∀ k ∈ K1, k ∈ z.K ∨ z.w.heap.size ≤ k) (hdn : z.ds.Nodup)
    (hd : ∀ D ∈ z.ds, D ∈ O0 ∧ (D ∈ z.K ∨ z.w.heap.size ≤ D) ∧ w.heap[D]? = some (.deferred (some []))) : St z O0 w bs :=
  ⟨hl.trans' h.below hK, fun p hp b hb => ⟨(h.own p hp b hb).1.elim (hK b) fun h1 => .inr (Nat.le_trans hl.size h1), (h.own p hp b hb).2⟩, h.nd, h.dj, hdn, hd⟩
/-- what is no longer spoken of is let go -/
theorem St.sub {bs' : Ents} (h : St z O0 w bs) (hb : bs'.Sublist bs) : St z O0 w bs' ∧ Step (ks bs O0) w (ks bs' O0) w :=
  ⟨⟨h.below, fun p hp => h.own p (hb.subset hp), (hb.filterMap _).nodup h.nd, fun k hk => ⟨(h.dj k hk).1, fun hm => (h.dj k hk).2 ((hb.filterMap _).subset hm)⟩, h.dsn, h.dfs⟩,
   Step.sub fun k hk => (mem_ks.1 hk).elim (fun hm => mem_ks.2 (.inl ((hb.filterMap _).subset hm))) fun hm => mem_ks.2 (.inr hm)⟩
/-- the marks are taken up -/
theorem St.close {w0 : World} {K0 : List Nat} : ∀ {ds : List Nat} {w : World}, St ⟨w0, K0, ds⟩ O0 w bs → ∃ w', Closes ds w w' ∧ St ⟨w0, K0, []⟩ O0 w' bs ∧ Step (ks bs O0) w (ks bs O0) w'
  | [], w, h => ⟨w, rfl, h, Step.refl _ _⟩
  | D :: ds, w, h => by
    obtain ⟨h1, h2, h3⟩ := h.dfs D (by simp)
    have hlt := h.lt0 D h1
    have hn := List.nodup_cons.1 h.dsn
    have hl : Loc [D] w (w.putObj D (.deferred none)) := ⟨rfl, rfl, rfl, by simp, fun k hk hn => World.putObj_heap_other (by simpa using hn), Nat.le_refl _⟩
    have h4 : St ⟨w0, K0, ds⟩ O0 w bs := ⟨h.below, h.own, h.nd, h.dj, hn.2, fun E hE => h.dfs E (List.mem_cons_of_mem _ hE)⟩
    have h5 : St ⟨w0, K0, ds⟩ O0 (w.putObj D (.deferred none)) bs := h4.loc hl (by rintro k hk; simp at hk; subst hk; exact ⟨(h.dj _ h1).2, h2, hn.1⟩)
    obtain ⟨w', hc, hs, hp⟩ := h5.close
    exact ⟨w', ⟨h3, hc⟩, hs, (Step.of_loc hl (by rintro k hk; simp at hk; subst hk; exact mem_ks.2 (.inr h1)) (fun k hk => .inl hk)).trans hp⟩
end

def updP (ρ : Env) : List Nat → List Value → Env
  | p :: ps, v :: vs => updP (upd ρ p v) ps vs
  | _, _ => ρ
theorem isAct_round {n : Nat} : ∀ (ps : List Nat) (vs : List Value) {ρ : Env} {t : Array Value}, IsAct n ρ { tmps := t, defers := [] } → ps.all (· < n) = true →
    IsAct n (updP ρ ps vs) { tmps := (ps.zip vs).foldl (fun t (p, v) => t.setIfInBounds p v) t, defers := [] }
  | [], vs, ρ, t, h, _ => by cases vs <;> exact h
  | p :: ps, [], ρ, t, h, _ => h
  | p :: ps, v :: vs, ρ, t, h, hp => by
    simp only [List.all_cons, Bool.and_eq_true, decide_eq_true_eq] at hp
    have := h.put (d := some p) (by simpa using hp.1) v
    exact isAct_round ps vs (ρ := upd ρ p v) (t := t.setIfInBounds p v) (by simpa [Act.put, updO] using this) hp.2

theorem isAct_f {n : Nat} {ρ : Env} {a : Act} (h : IsAct n ρ a) : IsAct n ⟨ρ.f, []⟩ { tmps := a.tmps, defers := [] } := ⟨h.size, rfl, h.get⟩

/-- how a round is left for good: by a return (none), or out of a block -/
def exitOf : Option Nat → Exit
  | none => .ret
  | some id => .exit id
def codeOf : Option Nat → Code
  | none => .ret
  | some id => .exit id

section rule
variable {P : Program} {n : Nat} {Q : Post} {ρ : Env} {w : World} {z : Zx} {O0 : List Nat} {bs : Ents}
variable {α σ : Type} {g : Operand} {ps : List Nat} {assign body : Code} {f : FuncId} {caps : List Value} {enc : α → World → List Nat → List Value → Prop} {L : List α}
/-- what is known of the loop's own between two rounds; E: what the iterator and the loop's machinery own -/
structure Core (bs : Ents) (O0 : List Nat) (w : World) (z : Zx) (bsF : σ → Ents) (fct : σ → World → List Nat → Prop) (E : List Nat) (s : σ) (w' : World) : Prop where
  st : St z (E ++ O0) w' (bsF s)
  ch : Step (ks bs O0) w (ks (bsF s) (E ++ O0)) w'
  fc : fct s w' (ks (bsF s) (E ++ O0))

theorem Core.loc {bsF : σ → Ents} {fct : σ → World → List Nat → Prop} (hfs : ∀ s w O w' O', Step O w O' w' → fct s w O → fct s w' O') {K K' F : List Nat} {s : σ} {w' w'' : World} (h : Core bs O0 w z bsF fct (K ++ F) s w')
    (hK : ∀ k ∈ K, k ∉ ks (bsF s) (F ++ O0)) (hz : ∀ k ∈ K, k ∈ z.K ∨ z.w.heap.size ≤ k) (hds : ∀ D ∈ z.ds, D ∈ F ++ O0) (hl : Loc K w' w'') (hg : Grow K K' w' w'') : Core bs O0 w z bsF fct (K' ++ F) s w'' := by
  have h1 : St z (K ++ F ++ O0) w'' (bsF s) := h.st.loc hl fun k hk => ⟨fun hm => hK k hk (mem_ks.2 (.inl hm)), hz k hk, fun hm => hK k hk (mem_ks.2 (.inr (hds k hm)))⟩
  have h2 : St z (K' ++ F ++ O0) w'' (bsF s) := by
    refine h1.others (fun k hk => ?_) (fun D hD => ?_)
    · rw [List.append_assoc] at hk
      rcases List.mem_append.1 hk with hk | hk
      · refine ⟨hg.lt k hk, fun hm => ?_⟩
        rcases hg.new k hk with h5 | h5
        · exact hK k h5 (mem_ks.2 (.inl hm))
        · obtain ⟨p, hp, e⟩ := mem_keys.1 hm
          have := h.st.lt hp e
          omega
      · exact h1.dj k (by rw [List.append_assoc]; exact List.mem_append_right _ hk)
    · rw [List.append_assoc]; exact List.mem_append_right _ (hds D hD)
  have hst : Step (ks (bsF s) (K ++ F ++ O0)) w' (ks (bsF s) (K' ++ F ++ O0)) w'' := Step.of_loc hl (fun k hk => mem_ks.2 (.inr (by simp [hk]))) fun k hk => by
    rcases mem_ks.1 hk with hk | hk
    · exact .inl (mem_ks.2 (.inl hk))
    · rw [List.append_assoc] at hk
      rcases List.mem_append.1 hk with hk | hk
      · rcases hg.new k hk with h | h
        · exact .inl (mem_ks.2 (.inr (by simp [h])))
        · exact .inr h
      · exact .inl (mem_ks.2 (.inr (by rw [List.append_assoc]; exact List.mem_append_right _ hk)))
  exact ⟨h2, h.ch.trans hst, hfs _ _ _ _ _ hst h.fc⟩

/-- the loop over an iterator: s tells what the loop's own holds; tl: what is still to come; tx: how it is left -/
theorem Wp_rangeFunc (hs : St z O0 w bs) (hv : ev ρ g = .func (.func f) #[] caps.toArray) (hcall : ∀ (args : Array Value) (w : World), (callFunc f args).run P w = .ok (.enter f args) w) (it : IterF P w (ks bs O0) f caps enc L)
    (hps : ps.all (· < n) = true) (hlen : ∀ {x w O vs}, enc x w O vs → vs.length = ps.length) (henc : ∀ {x w O w' O' vs}, Step O w O' w' → enc x w O vs → enc x w' O' vs)
    (bsF : σ → Ents) (fct : σ → World → List Nat → Prop) (hfs : ∀ s w O w' O', Step O w O' w' → fct s w O → fct s w' O') (tl : σ → List α → Prop) (xs : List (Option Nat)) (tx : Option Nat → σ → Prop)
    (s0 : σ) (hb0 : bsF s0 = bs) (hf0 : fct s0 w (ks bs O0)) (ht0 : tl s0 L)
    (round : ∀ l E s x rest w' vs za, za.ds = [] → St za (E ++ O0) w' (bsF s) → Step (ks bs O0) w (ks (bsF s) (E ++ O0)) w' → fct s w' (ks (bsF s) (E ++ O0)) → tl s (x :: rest) → enc x w' (ks (bsF s) (E ++ O0)) vs →
      Wp P (some l) n assign (thenE (fun ρ' w2 => ∃ bs2, St za (E ++ O0) w2 bs2 ∧ ∀ w3 zb (RQ : Post), zb.ds = [] → St zb (E ++ O0) w3 bs2 → Step (ks bs2 (E ++ O0)) w2 (ks bs2 (E ++ O0)) w3 →
          (∀ s' ρ' w4, St zb (E ++ O0) w4 (bsF s') → Step (ks bs O0) w (ks (bsF s') (E ++ O0)) w4 → fct s' w4 (ks (bsF s') (E ++ O0)) → tl s' rest → RQ .normal ρ' w4) →
          (∀ e s' ρ' w4, e ∈ xs → St zb (E ++ O0) w4 (bsF s') → Step (ks bs O0) w (ks (bsF s') (E ++ O0)) w4 → fct s' w4 (ks (bsF s') (E ++ O0)) → tx e s' → RQ (exitOf e) ρ' w4) →
          Wp P (some l) n body RQ ρ' w3) (fun _ _ _ => False)) (updP ⟨ρ.f, []⟩ ps vs) w')
    (done : ∀ D s w', St ⟨z.w, z.K, D :: z.ds⟩ (D :: O0) w' (bsF s) → Step (ks bs O0) w (ks (bsF s) (D :: O0)) w' → fct s w' (ks (bsF s) (D :: O0)) → tl s [] → Q .normal ⟨ρ.f, D :: ρ.ds⟩ w')
    (stop : ∀ e D s w', e ∈ xs → St ⟨z.w, z.K, D :: z.ds⟩ (D :: O0) w' (bsF s) → Step (ks bs O0) w (ks (bsF s) (D :: O0)) w' → fct s w' (ks (bsF s) (D :: O0)) → tx e s → Q (exitOf e) ⟨ρ.f, D :: ρ.ds⟩ w') :
    Wp P none n (.rangeFunc g ps.toArray assign body) Q ρ w := by
  subst hb0
  unfold Wp
  intro a ha
  refine wpIn_rangeFunc ?_
  intro fn hfn
  obtain ⟨rec, hrec⟩ : ∃ rec : LoopState → Option Code → Loop, rec = fun st pe => { state := st, pending := pe, fn, tmps := a.tmps, params := ps.toArray, assign, body, defers := w.heap.size } := ⟨_, rfl⟩
  obtain ⟨w1, hw1⟩ : ∃ w1, (w.alloc (.deferred (some []))).alloc (.loop (rec .ready none)) = w1 := ⟨_, rfl⟩
  have hx1 : Ext w w1 := by rw [← hw1]; exact (Ext.alloc w _).trans (Ext.alloc _ _)
  have hsz : w1.heap.size = w.heap.size + 2 := by rw [← hw1]; simp
  have hl1 : w1.heap[w.heap.size + 1]? = some (.loop (rec .ready none)) := by
    rw [← hw1]; have := heap_alloc_new (w.alloc (.deferred (some []))) (.loop (rec .ready none)); simpa using this
  have hd1 : w1.heap[w.heap.size]? = some (.deferred (some [])) := by
    rw [← hw1, heap_alloc_old _ _ _ (by simp)]; exact heap_alloc_new w _
  obtain ⟨zD, hzD⟩ : ∃ zD : Zx, zD = ⟨z.w, z.K, w.heap.size :: z.ds⟩ := ⟨_, rfl⟩
  obtain ⟨F, hF⟩ : ∃ F : List Nat, F = [w.heap.size + 1, w.heap.size] := ⟨_, rfl⟩
  have hmF : ∀ k, k ∈ F ↔ k = w.heap.size + 1 ∨ k = w.heap.size := fun k => by rw [hF]; simp
  have hzds : ∀ D ∈ zD.ds, D ∈ F ++ O0 := fun D hD => by
    rw [hzD] at hD
    rcases List.mem_cons.1 hD with e | hD
    · exact List.mem_append_left _ ((hmF D).2 (.inr e))
    · exact List.mem_append_right _ (hs.dfs D hD).1
  have hzw : z.w.heap.size ≤ w.heap.size := hs.below.size
  -- the loop's invariant
  obtain ⟨J0, hJ0⟩ : ∃ J0 : (LoopState × Option Code) → List Nat → List Nat → World → σ → Prop, J0 = fun st O K w' s => O = ks (bsF s) (F ++ O0) ∧ (∀ k ∈ K, w.heap.size + 2 ≤ k) ∧ Core (bsF s0) O0 w zD bsF fct (K ++ F) s w' ∧
      w'.heap[w.heap.size + 1]? = some (.loop (rec st.1 st.2)) := ⟨_, rfl⟩
  have hJ0ab : ∀ {st : LoopState × Option Code} {O K K' : List Nat} {w' w'' : World} {s : σ}, J0 st O K w' s → (∀ k ∈ K, k ∉ O) → Loc K w' w'' → Grow K K' w' w'' → J0 st O K' w'' s := by
    intro st O K K' w' w'' s h hKO hl hg
    rw [hJ0] at h ⊢
    obtain ⟨h1, h2, h3, h4⟩ := h
    have hsz' : w.heap.size + 2 ≤ w'.heap.size := by
      have := h3.st.lt0 (w.heap.size + 1) (by simp [hF]); omega
    refine ⟨h1, fun k hk => (hg.new k hk).elim (h2 k) fun h => by omega, h3.loc hfs (fun k hk => h1 ▸ hKO k hk) (fun k hk => .inr ?_) hzds hl hg, ?_⟩
    · have := h2 k hk; rw [hzD]; simp only; omega
    · rw [hl.block _ (h3.st.lt0 _ (by simp [hF])) fun hm => by have := h2 _ hm; omega]; exact h4
  have hst0 : St z O0 w1 (bsF s0) := hs.call hx1
  have hcore1 : Core (bsF s0) O0 w zD bsF fct ([] ++ F) s0 w1 := by
    have h1 : St zD ([] ++ F ++ O0) w1 (bsF s0) := by
      refine ⟨by rw [hzD]; exact hst0.below, by rw [hzD]; exact hst0.own, hst0.nd, fun k hk => ?_, ?_, fun D hD => ?_⟩
      · rw [List.nil_append] at hk
        rcases List.mem_append.1 hk with hk | hk
        · have hk' := (hmF k).1 hk
          refine ⟨by omega, fun hm => ?_⟩
          obtain ⟨p, hp, e⟩ := mem_keys.1 hm
          have := hs.lt hp e; omega
        · exact hst0.dj k hk
      · rw [hzD]
        exact List.nodup_cons.2 ⟨fun hm => by have := hs.lt0 _ (hs.dfs _ hm).1; omega, hs.dsn⟩
      · refine ⟨by rw [List.nil_append]; exact hzds D hD, ?_⟩
        rw [hzD] at hD ⊢
        rcases List.mem_cons.1 hD with e | hD
        · subst e; exact ⟨.inr hzw, hd1⟩
        · exact (hst0.dfs D hD).2
    have h2 : Step (ks (bsF s0) O0) w (ks (bsF s0) ([] ++ F ++ O0)) w1 := Step.of_loc (K := []) (.of_ext hx1) (by simp) fun k hk => by
      rw [List.nil_append] at hk
      rcases mem_ks.1 hk with hk | hk
      · exact .inl (mem_ks.2 (.inl hk))
      · rcases List.mem_append.1 hk with hk | hk
        · have := (hmF k).1 hk; exact .inr (by omega)
        · exact .inl (mem_ks.2 (.inr hk))
    exact ⟨h1, h2, hfs _ _ _ _ _ h2 hf0⟩
  refine ⟨w.heap.size + 1, [dcol w.heap.size], w1, { target := .fn (.func f) caps.toArray, args := #[.func (.yield (w.heap.size + 1)) #[] #[]] }, w1, f,
    #[.func (.yield (w.heap.size + 1)) #[] #[]] ++ caps.toArray, w1, ?_, ?_, fun _ _ => trivial, ?_, fun h => by simp [FW] at h, ?_⟩
  · rw [← hw1, hrec]; exact run_enterLoop_outer _ _ _ _ _
  · simp only [resolve, ha.eval, hv]
    simp [go_sem, ev]
  · simp [invoke, go_sem, hcall]
  · have hfn' := it w1 (ks (bsF s0) (F ++ O0)) (by have := hcore1.ch; simpa using this) (fun k hk => by have := hcore1.st.ltw k (by simpa using hk); exact this) (w.heap.size + 1)
      (fun pre w' O K => ∃ s rest, L = pre ++ rest ∧ J0 (.ready, none) O K w' s ∧ tl s rest)
      (fun _ w' O K => ∃ s e, e ∈ xs ∧ J0 (.done, some (codeOf e)) O K w' s ∧ tx e s)
      ⟨fun ⟨s, rest, h1, h2, h3⟩ hk hl hg => ⟨s, rest, h1, hJ0ab h2 hk hl hg, h3⟩⟩ ⟨fun ⟨s, e, h1, h2, h3⟩ hk hl hg => ⟨s, e, h1, hJ0ab h2 hk hl hg, h3⟩⟩
      ?_ ⟨s0, L, rfl, by rw [hJ0]; exact ⟨rfl, by simp, hcore1, hl1⟩, ht0⟩
    · -- behind the iterator
      unfold Fn at hfn'
      have hcl : (#[Value.func (.yield (w.heap.size + 1)) #[] #[]] ++ caps.toArray) = (Value.func (.yield (w.heap.size + 1)) #[] #[] :: caps).toArray := by simp
      rw [hcl]
      refine CallsIn.mono hfn' ?_
      rintro e w2 ⟨v, rfl, O2, h⟩
      have fin : ∀ {st : LoopState × Option Code} {s : σ}, st.1 ≠ .busy → J0 st O2 [] w2 s → ∃ w3, (Instr.endLoop (w.heap.size + 1)).run P w2 = .ok st.2 w3 ∧
          St ⟨z.w, z.K, w.heap.size :: z.ds⟩ (w.heap.size :: O0) w3 (bsF s) ∧ Step (ks (bsF s0) O0) w (ks (bsF s) (w.heap.size :: O0)) w3 ∧ fct s w3 (ks (bsF s) (w.heap.size :: O0)) := by
        intro st s hb h
        rw [hJ0] at h
        obtain ⟨h1, h2, h3, h4⟩ := h
        have hrun := run_endLoop (P := P) h4 (by rw [hrec]; exact hb)
        have hlo : Loc [w.heap.size + 1] w2 (w2.putObj (w.heap.size + 1) (.loop { rec st.1 st.2 with state := .exhausted })) := ⟨rfl, rfl, rfl, by simp, fun k hk hn => World.putObj_heap_other (by simpa using hn), Nat.le_refl _⟩
        have h5 := h3.st.loc hlo (by
          rintro k hk
          simp at hk; subst hk
          exact ⟨(h3.st.dj _ (by simp [hF])).2, .inr (by rw [hzD]; simp only; omega), fun hm => by
            rw [hzD] at hm
            rcases List.mem_cons.1 hm with e | hm
            · omega
            · have := hs.lt0 _ (hs.dfs _ hm).1; omega⟩)
        have h6 : St ⟨z.w, z.K, w.heap.size :: z.ds⟩ (w.heap.size :: O0) (w2.putObj (w.heap.size + 1) (.loop { rec st.1 st.2 with state := .exhausted })) (bsF s) := by
          rw [← hzD]
          refine h5.others (fun k hk => h5.dj k ?_) fun D hD => ?_
          · rcases List.mem_cons.1 hk with e | hk
            · subst e; simp [hF]
            · simp [hk]
          · have := hzds D hD
            rw [hF] at this
            simp only [List.cons_append, List.nil_append, List.mem_cons] at this
            rcases this with e | e | e
            · exfalso
              rw [hzD] at hD
              rcases List.mem_cons.1 hD with e' | hD
              · omega
              · have := hs.lt0 _ (hs.dfs _ hD).1; omega
            · subst e; simp
            · simp [e]
        have h7 : Step (ks (bsF s) ([] ++ F ++ O0)) w2 (ks (bsF s) (w.heap.size :: O0)) (w2.putObj (w.heap.size + 1) (.loop { rec st.1 st.2 with state := .exhausted })) := Step.of_loc hlo (by
          rintro k hk
          simp at hk; subst hk
          exact mem_ks.2 (.inr (by simp [hF]))) fun k hk => .inl (by
          rcases mem_ks.1 hk with hk | hk
          · exact mem_ks.2 (.inl hk)
          · refine mem_ks.2 (.inr ?_)
            rcases List.mem_cons.1 hk with e | hk
            · subst e; simp [hF]
            · simp [hk])
        refine ⟨_, ?_, h6, h3.ch.trans h7, hfs _ _ _ _ _ h7 h3.fc⟩
        rw [hrun, hrec]
      have hav : ∀ D, IsAct n (⟨ρ.f, D :: ρ.ds⟩ : Env) { a with defers := [dcol D] ++ a.defers } := fun D => ⟨ha.size, by simp [ha.defers], ha.get⟩
      rcases h with ⟨s, rest, h1, h2, h3⟩ | ⟨pre, s, e, h1, h2, h3⟩
      · have hr : rest = [] := by simpa using h1
        subst hr
        obtain ⟨w3, h4, h5, h6, h7⟩ := fin (by simp) h2
        exact ⟨none, w3, h4, (fun _ h => by cases h), _, hav _, done _ s w3 h5 h6 h7 h3⟩
      · obtain ⟨w3, h4, h5, h6, h7⟩ := fin (by simp) h2
        refine ⟨some (codeOf e), w3, h4, ?_⟩
        have h8 := stop e _ s w3 h1 h5 h6 h7 h3
        cases e with
        | none => exact wpIn_ret ⟨(fun _ h => by cases h), _, hav _, h8⟩
        | some id => exact wpIn_exit ⟨(fun _ h => by cases h), _, hav _, h8⟩
    · -- one round
      rintro pre x w' O K vs ⟨tail, hpre⟩ ⟨s, rest, h1, h2, h3⟩ hK hO hen
      rw [hJ0] at h2
      obtain ⟨g1, g2, g3, g4⟩ := h2
      have hrest : rest = x :: tail := by
        rw [← hpre] at h1
        simpa using h1.symm
      subst hrest
      subst g1
      have hy := run_yield (P := P) (args := vs.toArray) g4 (by rw [hrec]; simpa using hlen hen)
      rw [hrec] at hy
      refine ⟨fn, _, assign, body, hy, roundIn_of_wpIn hfn ?_⟩
      have hen' : enc x w' (ks (bsF s) (K ++ F ++ O0)) vs := henc (Step.sub fun k hk => by
        rcases mem_ks.1 hk with hk | hk
        · exact List.mem_append_right _ (mem_ks.2 (.inl hk))
        · rw [List.append_assoc] at hk
          rcases List.mem_append.1 hk with hk | hk
          · exact List.mem_append_left _ hk
          · exact List.mem_append_right _ (mem_ks.2 (.inr hk))) hen
      have hza := g3.st.re
      have hrd := round (w.heap.size + 1) (K ++ F) s x tail w' vs _ rfl hza g3.ch g3.fc h3 hen'
      have hact := isAct_round ps vs (isAct_f ha) hps
      unfold Wp at hrd
      have hzip : (ps.toArray.zip vs.toArray).foldl (fun t (p : Nat × Value) => t.setIfInBounds p.1 p.2) a.tmps = (ps.zip vs).foldl (fun t (p, v) => t.setIfInBounds p v) a.tmps := by
        rw [← Array.foldl_toList, Array.toList_zip]
      rw [hzip]
      have hlF : w.heap.size + 1 ∈ K ++ F ++ O0 := by simp [hF]
      refine wpIn_mono (hrd _ hact) ?_
      rintro e a2 w2 ⟨hp, ρ2, ha2, hq⟩
      cases e <;> try exact hq.elim
      obtain ⟨bs2, hs2, hq⟩ := hq
      -- the record is as it was
      have hl2 : w2.heap[w.heap.size + 1]? = some (.loop (rec .ready none)) := by
        rw [hs2.below.block _ (by have := g3.st.lt0 _ hlF; exact this) (g3.st.dj _ hlF).2]; exact g4
      have hbr := run_beginRound (P := P) hl2 (by rw [hrec])
      refine ⟨_, hbr, ?_⟩
      have hlo2 : Loc [w.heap.size + 1] w2 (w2.putObj (w.heap.size + 1) (.loop { rec .ready none with state := .busy })) := ⟨rfl, rfl, rfl, by simp, fun k hk hn => World.putObj_heap_other (by simpa using hn), Nat.le_refl _⟩
      have hs2' := hs2.re
      have hs3 : St ⟨w2.putObj (w.heap.size + 1) (.loop { rec .ready none with state := .busy }), bs2.filterMap Prod.fst, []⟩ (K ++ F ++ O0) (w2.putObj (w.heap.size + 1) (.loop { rec .ready none with state := .busy })) bs2 := by
        refine ⟨Loc.refl _ _, fun p hp b hb => ⟨.inl (mem_keys.2 ⟨p, hp, hb⟩), ?_⟩, hs2.nd, fun k hk => ⟨by simpa using (hs2.dj k hk).1, (hs2.dj k hk).2⟩, List.nodup_nil, fun _ h => by cases h⟩
        rw [hlo2.block b (hs2.lt hp hb) (by simp; rintro rfl; exact (hs2.dj _ hlF).2 (mem_keys.2 ⟨p, hp, hb⟩))]
        exact (hs2.own p hp b hb).2
      have hst3 : Step (ks bs2 (K ++ F ++ O0)) w2 (ks bs2 (K ++ F ++ O0)) (w2.putObj (w.heap.size + 1) (.loop { rec .ready none with state := .busy })) :=
        Step.of_loc hlo2 (by rintro k hk; simp at hk; subst hk; exact mem_ks.2 (.inr hlF)) fun k hk => .inl hk
      obtain ⟨w3, hw3⟩ : ∃ w3, w3 = w2.putObj (w.heap.size + 1) (.loop { rec .ready none with state := .busy }) := ⟨_, rfl⟩
      rw [← hw3] at hs3 hst3 hlo2 ⊢
      have hl3 : w3.heap[w.heap.size + 1]? = some (.loop { rec .ready none with state := .busy }) := by
        rw [hw3]; exact World.putObj_heap_same (hs2.lt0 _ hlF)
      -- what the round's end makes of it
      have ends : ∀ (jump : Option Code) (s' : σ) (w4 : World), St ⟨w3, bs2.filterMap Prod.fst, []⟩ (K ++ F ++ O0) w4 (bsF s') → Step (ks (bsF s0) O0) w (ks (bsF s') (K ++ F ++ O0)) w4 → fct s' w4 (ks (bsF s') (K ++ F ++ O0)) →
          ∃ w5, (Instr.endRound (w.heap.size + 1) jump).run P w4 = .ok (.bool jump.isNone) w5 ∧ Loc (ks (bsF s) (F ++ O0)) w' w5 ∧ Grow (ks (bsF s) (F ++ O0)) (ks (bsF s') (F ++ O0)) w' w5 ∧
            J0 (if jump.isNone then .ready else .done, jump) (ks (bsF s') (F ++ O0)) K w5 s' := by
        intro jump s' w4 e1 e2 e3
        have hl4 : w4.heap[w.heap.size + 1]? = some (.loop { rec .ready none with state := .busy }) := by
          rw [e1.below.block _ (by have := hs3.lt0 _ hlF; exact this) (hs3.dj _ hlF).2]; exact hl3
        have hrun := run_endRound (P := P) jump hl4
        obtain ⟨w5, hw5⟩ : ∃ w5, w5 = w4.putObj (w.heap.size + 1) (.loop (rec (if jump.isNone then .ready else .done) jump)) := ⟨_, rfl⟩
        have hlo5 : Loc [w.heap.size + 1] w4 w5 := by rw [hw5]; exact ⟨rfl, rfl, rfl, by simp, fun k hk hn => World.putObj_heap_other (by simpa using hn), Nat.le_refl _⟩
        -- from w' to w5
        have hk2 : ∀ k ∈ bs2.filterMap Prod.fst, k ∈ (bsF s).filterMap Prod.fst ∨ w'.heap.size ≤ k := fun k hk => by
          obtain ⟨p, hp, e⟩ := mem_keys.1 hk
          exact (hs2.own p hp k e).1
        have L1 : Loc (ks (bsF s) (F ++ O0)) w' w2 := hs2.below.sub fun k hk => .inl (mem_ks.2 (.inl hk))
        have L2 : Loc (ks (bsF s) (F ++ O0)) w' w3 := L1.trans' hlo2 fun k hk => .inl (by simp at hk; subst hk; exact mem_ks.2 (.inr (by simp [hF])))
        have L3 : Loc (ks (bsF s) (F ++ O0)) w' w4 := L2.trans' e1.below fun k hk => (hk2 k hk).imp (fun h => mem_ks.2 (.inl h)) id
        have L4 : Loc (ks (bsF s) (F ++ O0)) w' w5 := L3.trans' hlo5 fun k hk => .inl (by simp at hk; subst hk; exact mem_ks.2 (.inr (by simp [hF])))
        have hsz2 : w'.heap.size ≤ w2.heap.size := hs2.below.size
        have hsz3 : w3.heap.size = w2.heap.size := by rw [hw3]; simp
        have keys' : ∀ k ∈ (bsF s').filterMap Prod.fst, k ∈ (bsF s).filterMap Prod.fst ∨ w'.heap.size ≤ k := fun k hk => by
          obtain ⟨p, hp, e⟩ := mem_keys.1 hk
          rcases (e1.own p hp k e).1 with h | h
          · exact hk2 k h
          · exact .inr (by simp only at h; omega)
        have hG : Grow (ks (bsF s) (F ++ O0)) (ks (bsF s') (F ++ O0)) w' w5 := ⟨fun k hk => by
            rcases mem_ks.1 hk with hk | hk
            · exact (keys' k hk).imp (fun h => mem_ks.2 (.inl h)) id
            · exact .inl (mem_ks.2 (.inr hk)), fun k hk => by
            have : k < w4.heap.size := e1.ltw k (by
              rcases mem_ks.1 hk with hk | hk
              · exact mem_ks.2 (.inl hk)
              · exact mem_ks.2 (.inr (by rw [List.append_assoc]; exact List.mem_append_right _ hk)))
            have := hlo5.size; omega⟩
        have hzk : ∀ k ∈ (bsF s).filterMap Prod.fst, k ∈ zD.K ∨ zD.w.heap.size ≤ k := fun k hk => by
          obtain ⟨p, hp, e⟩ := mem_keys.1 hk
          exact (g3.st.own p hp k e).1
        have hzs : zD.w.heap.size ≤ w.heap.size := by rw [hzD]; exact hzw
        have hzw' : zD.w.heap.size ≤ w'.heap.size := g3.st.below.size
        have hlds : w.heap.size + 1 ∉ zD.ds := fun hm => by
          rw [hzD] at hm
          rcases List.mem_cons.1 hm with e | hm
          · omega
          · have := hs.lt0 _ (hs.dfs _ hm).1; omega
        have B3 : Loc zD.K zD.w w3 := (g3.st.below.trans' hs2.below hzk).trans' hlo2 fun k hk => by simp at hk; subst hk; exact .inr (by omega)
        have S4 : St zD (K ++ F ++ O0) w4 (bsF s') := e1.back B3 (fun k hk => by
          rcases hk2 k hk with h | h
          · exact hzk k h
          · exact .inr (by omega)) g3.st.dsn fun D hD => by
          obtain ⟨d1, d2, d3⟩ := g3.st.dfs D hD
          refine ⟨d1, d2, ?_⟩
          have hlt := g3.st.lt0 D d1
          rw [e1.below.block D (by rw [hsz3]; omega) (hs2.dj D d1).2, hlo2.block D (by omega) (by simp; rintro rfl; exact hlds hD), hs2.below.block D hlt (g3.st.dj D d1).2]
          exact d3
        have S5 : St zD (K ++ F ++ O0) w5 (bsF s') := S4.loc hlo5 (by
          rintro k hk; simp at hk; subst hk
          exact ⟨(e1.dj _ hlF).2, .inr (by omega), hlds⟩)
        have P5 : Step (ks (bsF s') (K ++ F ++ O0)) w4 (ks (bsF s') (K ++ F ++ O0)) w5 := Step.of_loc hlo5 (by rintro k hk; simp at hk; subst hk; exact mem_ks.2 (.inr hlF)) fun k hk => .inl hk
        refine ⟨w5, ?_, L4, hG, ?_⟩
        · rw [hrun, hw5, hrec]
        · rw [hJ0]
          refine ⟨rfl, g2, ⟨S5, e2.trans P5, hfs _ _ _ _ _ P5 e3⟩, ?_⟩
          rw [hw5]; exact World.putObj_heap_same (by have := e1.lt0 _ hlF; exact this)
      have hbody := hq w3 _ (fun e _ w4 => match e with
          | .normal => ∃ s', St ⟨w3, bs2.filterMap Prod.fst, []⟩ (K ++ F ++ O0) w4 (bsF s') ∧ Step (ks (bsF s0) O0) w (ks (bsF s') (K ++ F ++ O0)) w4 ∧ fct s' w4 (ks (bsF s') (K ++ F ++ O0)) ∧ tl s' tail
          | e => ∃ e', e = exitOf e' ∧ e' ∈ xs ∧ ∃ s', St ⟨w3, bs2.filterMap Prod.fst, []⟩ (K ++ F ++ O0) w4 (bsF s') ∧ Step (ks (bsF s0) O0) w (ks (bsF s') (K ++ F ++ O0)) w4 ∧ fct s' w4 (ks (bsF s') (K ++ F ++ O0)) ∧ tx e' s') rfl hs3 hst3
          (fun s' _ w4 e1 e2 e3 e4 => ⟨s', e1, e2, e3, e4⟩) (fun e s' _ w4 he e1 e2 e3 e4 => by
            cases e with
            | none => exact ⟨none, rfl, he, s', e1, e2, e3, e4⟩
            | some id => exact ⟨some id, rfl, he, s', e1, e2, e3, e4⟩)
      unfold Wp at hbody
      refine wpIn_mono (hbody a2 ha2) ?_
      rintro e a4 w4 ⟨hp4, ρ4, ha4, hq4⟩
      cases e with
      | normal =>
        obtain ⟨s', e1, e2, e3, e4⟩ := hq4
        obtain ⟨w5, r1, r2, r3, r4⟩ := ends none s' w4 e1 e2 e3
        exact ⟨_, w5, r1, _, r2, r3, .inl ⟨rfl, s', tail, by rw [List.append_assoc]; exact h1, r4, e4⟩⟩
      | ret =>
        obtain ⟨e', hee, he, s', e1, e2, e3, e4⟩ := hq4
        cases e' with
        | some id => cases hee
        | none =>
          obtain ⟨w5, r1, r2, r3, r4⟩ := ends (some .ret) s' w4 e1 e2 e3
          exact ⟨_, w5, r1, _, r2, r3, .inr ⟨rfl, s', none, he, r4, e4⟩⟩
      | exit id =>
        obtain ⟨e', hee, he, s', e1, e2, e3, e4⟩ := hq4
        cases e' with
        | none => cases hee
        | some id' =>
          cases hee
          obtain ⟨w5, r1, r2, r3, r4⟩ := ends (some (.exit id)) s' w4 e1 e2 e3
          exact ⟨_, w5, r1, _, r2, r3, .inr ⟨rfl, s', some id, he, r4, e4⟩⟩
      | goto t => obtain ⟨e', hee, _⟩ := hq4; cases e' <;> cases hee
      | panic c => exact absurd rfl (hp4 c)
      | outgrown => obtain ⟨e', hee, _⟩ := hq4; cases e' <;> cases hee
end rule
/-! models: a list gone through -/
section model
universe u
variable {R : Type} {A : Type u} {x : R} {a : A} {L : List A}
def rng0 (b : (Option R) → A → Option R) (k : (Option R)) : List A → Option R
  | [] => k
  | x :: L => b (rng0 b k L) x
theorem rng0_nil {b : (Option R) → A → Option R} {k : (Option R)} : rng0 b k [] = k := rfl
theorem rng0_cons {b : (Option R) → A → Option R} {k : (Option R)} : rng0 b k (a :: L) = b (rng0 b k L) a := rfl
theorem rng0_z {b : (Option R) → A → Option R} {k : (Option R)} (h : rng0 b k [] = some x) : k = some x := rng0_nil.symm.trans h
theorem rng0_s {b : (Option R) → A → Option R} {k : (Option R)} (h : rng0 b k (a :: L) = some x) : ∃ sf, sf = rng0 b k L ∧ b sf a = some x := ⟨_, rfl, rng0_cons.symm.trans h⟩
def rng1 {A0 : Type} (b : (A0 → Option R) → A → A0 → Option R) (k : (A0 → Option R)) : List A → A0 → Option R
  | [] => k
  | x :: L => b (rng1 b k L) x
theorem rng1_nil {A0 : Type} {b : (A0 → Option R) → A → A0 → Option R} {k : (A0 → Option R)} {a0 : A0} : rng1 b k [] a0 = k a0 := rfl
theorem rng1_cons {A0 : Type} {b : (A0 → Option R) → A → A0 → Option R} {k : (A0 → Option R)} {a0 : A0} : rng1 b k (a :: L) a0 = b (rng1 b k L) a a0 := rfl
theorem rng1_z {A0 : Type} {b : (A0 → Option R) → A → A0 → Option R} {k : (A0 → Option R)} {a0 : A0} (h : rng1 b k [] a0 = some x) : k a0 = some x := rng1_nil.symm.trans h
theorem rng1_s {A0 : Type} {b : (A0 → Option R) → A → A0 → Option R} {k : (A0 → Option R)} {a0 : A0} (h : rng1 b k (a :: L) a0 = some x) : ∃ sf, sf = rng1 b k L ∧ b sf a a0 = some x := ⟨_, rfl, rng1_cons.symm.trans h⟩
def rng2 {A0 A1 : Type} (b : (A0 → A1 → Option R) → A → A0 → A1 → Option R) (k : (A0 → A1 → Option R)) : List A → A0 → A1 → Option R
  | [] => k
  | x :: L => b (rng2 b k L) x
theorem rng2_nil {A0 A1 : Type} {b : (A0 → A1 → Option R) → A → A0 → A1 → Option R} {k : (A0 → A1 → Option R)} {a0 : A0} {a1 : A1} : rng2 b k [] a0 a1 = k a0 a1 := rfl
theorem rng2_cons {A0 A1 : Type} {b : (A0 → A1 → Option R) → A → A0 → A1 → Option R} {k : (A0 → A1 → Option R)} {a0 : A0} {a1 : A1} : rng2 b k (a :: L) a0 a1 = b (rng2 b k L) a a0 a1 := rfl
theorem rng2_z {A0 A1 : Type} {b : (A0 → A1 → Option R) → A → A0 → A1 → Option R} {k : (A0 → A1 → Option R)} {a0 : A0} {a1 : A1} (h : rng2 b k [] a0 a1 = some x) : k a0 a1 = some x := rng2_nil.symm.trans h
theorem rng2_s {A0 A1 : Type} {b : (A0 → A1 → Option R) → A → A0 → A1 → Option R} {k : (A0 → A1 → Option R)} {a0 : A0} {a1 : A1} (h : rng2 b k (a :: L) a0 a1 = some x) : ∃ sf, sf = rng2 b k L ∧ b sf a a0 a1 = some x := ⟨_, rfl, rng2_cons.symm.trans h⟩
def rng3 {A0 A1 A2 : Type} (b : (A0 → A1 → A2 → Option R) → A → A0 → A1 → A2 → Option R) (k : (A0 → A1 → A2 → Option R)) : List A → A0 → A1 → A2 → Option R
  | [] => k
  | x :: L => b (rng3 b k L) x
theorem rng3_nil {A0 A1 A2 : Type} {b : (A0 → A1 → A2 → Option R) → A → A0 → A1 → A2 → Option R} {k : (A0 → A1 → A2 → Option R)} {a0 : A0} {a1 : A1} {a2 : A2} : rng3 b k [] a0 a1 a2 = k a0 a1 a2 := rfl
theorem rng3_cons {A0 A1 A2 : Type} {b : (A0 → A1 → A2 → Option R) → A → A0 → A1 → A2 → Option R} {k : (A0 → A1 → A2 → Option R)} {a0 : A0} {a1 : A1} {a2 : A2} : rng3 b k (a :: L) a0 a1 a2 = b (rng3 b k L) a a0 a1 a2 := rfl
theorem rng3_z {A0 A1 A2 : Type} {b : (A0 → A1 → A2 → Option R) → A → A0 → A1 → A2 → Option R} {k : (A0 → A1 → A2 → Option R)} {a0 : A0} {a1 : A1} {a2 : A2} (h : rng3 b k [] a0 a1 a2 = some x) : k a0 a1 a2 = some x := rng3_nil.symm.trans h
theorem rng3_s {A0 A1 A2 : Type} {b : (A0 → A1 → A2 → Option R) → A → A0 → A1 → A2 → Option R} {k : (A0 → A1 → A2 → Option R)} {a0 : A0} {a1 : A1} {a2 : A2} (h : rng3 b k (a :: L) a0 a1 a2 = some x) : ∃ sf, sf = rng3 b k L ∧ b sf a a0 a1 a2 = some x := ⟨_, rfl, rng3_cons.symm.trans h⟩
def rng4 {A0 A1 A2 A3 : Type} (b : (A0 → A1 → A2 → A3 → Option R) → A → A0 → A1 → A2 → A3 → Option R) (k : (A0 → A1 → A2 → A3 → Option R)) : List A → A0 → A1 → A2 → A3 → Option R
  | [] => k
  | x :: L => b (rng4 b k L) x
theorem rng4_nil {A0 A1 A2 A3 : Type} {b : (A0 → A1 → A2 → A3 → Option R) → A → A0 → A1 → A2 → A3 → Option R} {k : (A0 → A1 → A2 → A3 → Option R)} {a0 : A0} {a1 : A1} {a2 : A2} {a3 : A3} : rng4 b k [] a0 a1 a2 a3 = k a0 a1 a2 a3 := rfl
theorem rng4_cons {A0 A1 A2 A3 : Type} {b : (A0 → A1 → A2 → A3 → Option R) → A → A0 → A1 → A2 → A3 → Option R} {k : (A0 → A1 → A2 → A3 → Option R)} {a0 : A0} {a1 : A1} {a2 : A2} {a3 : A3} : rng4 b k (a :: L) a0 a1 a2 a3 = b (rng4 b k L) a a0 a1 a2 a3 := rfl
theorem rng4_z {A0 A1 A2 A3 : Type} {b : (A0 → A1 → A2 → A3 → Option R) → A → A0 → A1 → A2 → A3 → Option R} {k : (A0 → A1 → A2 → A3 → Option R)} {a0 : A0} {a1 : A1} {a2 : A2} {a3 : A3} (h : rng4 b k [] a0 a1 a2 a3 = some x) : k a0 a1 a2 a3 = some x := rng4_nil.symm.trans h
theorem rng4_s {A0 A1 A2 A3 : Type} {b : (A0 → A1 → A2 → A3 → Option R) → A → A0 → A1 → A2 → A3 → Option R} {k : (A0 → A1 → A2 → A3 → Option R)} {a0 : A0} {a1 : A1} {a2 : A2} {a3 : A3} (h : rng4 b k (a :: L) a0 a1 a2 a3 = some x) : ∃ sf, sf = rng4 b k L ∧ b sf a a0 a1 a2 a3 = some x := ⟨_, rfl, rng4_cons.symm.trans h⟩
def rng5 {A0 A1 A2 A3 A4 : Type} (b : (A0 → A1 → A2 → A3 → A4 → Option R) → A → A0 → A1 → A2 → A3 → A4 → Option R) (k : (A0 → A1 → A2 → A3 → A4 → Option R)) : List A → A0 → A1 → A2 → A3 → A4 → Option R
  | [] => k
  | x :: L => b (rng5 b k L) x
theorem rng5_nil {A0 A1 A2 A3 A4 : Type} {b : (A0 → A1 → A2 → A3 → A4 → Option R) → A → A0 → A1 → A2 → A3 → A4 → Option R} {k : (A0 → A1 → A2 → A3 → A4 → Option R)} {a0 : A0} {a1 : A1} {a2 : A2} {a3 : A3} {a4 : A4} : rng5 b k [] a0 a1 a2 a3 a4 = k a0 a1 a2 a3 a4 := rfl
theorem rng5_cons {A0 A1 A2 A3 A4 : Type} {b : (A0 → A1 → A2 → A3 → A4 → Option R) → A → A0 → A1 → A2 → A3 → A4 → Option R} {k : (A0 → A1 → A2 → A3 → A4 → Option R)} {a0 : A0} {a1 : A1} {a2 : A2} {a3 : A3} {a4 : A4} : rng5 b k (a :: L) a0 a1 a2 a3 a4 = b (rng5 b k L) a a0 a1 a2 a3 a4 := rfl
theorem rng5_z {A0 A1 A2 A3 A4 : Type} {b : (A0 → A1 → A2 → A3 → A4 → Option R) → A → A0 → A1 → A2 → A3 → A4 → Option R} {k : (A0 → A1 → A2 → A3 → A4 → Option R)} {a0 : A0} {a1 : A1} {a2 : A2} {a3 : A3} {a4 : A4} (h : rng5 b k [] a0 a1 a2 a3 a4 = some x) : k a0 a1 a2 a3 a4 = some x := rng5_nil.symm.trans h
theorem rng5_s {A0 A1 A2 A3 A4 : Type} {b : (A0 → A1 → A2 → A3 → A4 → Option R) → A → A0 → A1 → A2 → A3 → A4 → Option R} {k : (A0 → A1 → A2 → A3 → A4 → Option R)} {a0 : A0} {a1 : A1} {a2 : A2} {a3 : A3} {a4 : A4} (h : rng5 b k (a :: L) a0 a1 a2 a3 a4 = some x) : ∃ sf, sf = rng5 b k L ∧ b sf a a0 a1 a2 a3 a4 = some x := ⟨_, rfl, rng5_cons.symm.trans h⟩
def rng6 {A0 A1 A2 A3 A4 A5 : Type} (b : (A0 → A1 → A2 → A3 → A4 → A5 → Option R) → A → A0 → A1 → A2 → A3 → A4 → A5 → Option R) (k : (A0 → A1 → A2 → A3 → A4 → A5 → Option R)) : List A → A0 → A1 → A2 → A3 → A4 → A5 → Option R
  | [] => k
  | x :: L => b (rng6 b k L) x
theorem rng6_nil {A0 A1 A2 A3 A4 A5 : Type} {b : (A0 → A1 → A2 → A3 → A4 → A5 → Option R) → A → A0 → A1 → A2 → A3 → A4 → A5 → Option R} {k : (A0 → A1 → A2 → A3 → A4 → A5 → Option R)} {a0 : A0} {a1 : A1} {a2 : A2} {a3 : A3} {a4 : A4} {a5 : A5} : rng6 b k [] a0 a1 a2 a3 a4 a5 = k a0 a1 a2 a3 a4 a5 := rfl
theorem rng6_cons {A0 A1 A2 A3 A4 A5 : Type} {b : (A0 → A1 → A2 → A3 → A4 → A5 → Option R) → A → A0 → A1 → A2 → A3 → A4 → A5 → Option R} {k : (A0 → A1 → A2 → A3 → A4 → A5 → Option R)} {a0 : A0} {a1 : A1} {a2 : A2} {a3 : A3} {a4 : A4} {a5 : A5} : rng6 b k (a :: L) a0 a1 a2 a3 a4 a5 = b (rng6 b k L) a a0 a1 a2 a3 a4 a5 := rfl
theorem rng6_z {A0 A1 A2 A3 A4 A5 : Type} {b : (A0 → A1 → A2 → A3 → A4 → A5 → Option R) → A → A0 → A1 → A2 → A3 → A4 → A5 → Option R} {k : (A0 → A1 → A2 → A3 → A4 → A5 → Option R)} {a0 : A0} {a1 : A1} {a2 : A2} {a3 : A3} {a4 : A4} {a5 : A5} (h : rng6 b k [] a0 a1 a2 a3 a4 a5 = some x) : k a0 a1 a2 a3 a4 a5 = some x := rng6_nil.symm.trans h
theorem rng6_s {A0 A1 A2 A3 A4 A5 : Type} {b : (A0 → A1 → A2 → A3 → A4 → A5 → Option R) → A → A0 → A1 → A2 → A3 → A4 → A5 → Option R} {k : (A0 → A1 → A2 → A3 → A4 → A5 → Option R)} {a0 : A0} {a1 : A1} {a2 : A2} {a3 : A3} {a4 : A4} {a5 : A5} (h : rng6 b k (a :: L) a0 a1 a2 a3 a4 a5 = some x) : ∃ sf, sf = rng6 b k L ∧ b sf a a0 a1 a2 a3 a4 a5 = some x := ⟨_, rfl, rng6_cons.symm.trans h⟩
def rng7 {A0 A1 A2 A3 A4 A5 A6 : Type} (b : (A0 → A1 → A2 → A3 → A4 → A5 → A6 → Option R) → A → A0 → A1 → A2 → A3 → A4 → A5 → A6 → Option R) (k : (A0 → A1 → A2 → A3 → A4 → A5 → A6 → Option R)) : List A → A0 → A1 → A2 → A3 → A4 → A5 → A6 → Option R
  | [] => k
  | x :: L => b (rng7 b k L) x
theorem rng7_nil {A0 A1 A2 A3 A4 A5 A6 : Type} {b : (A0 → A1 → A2 → A3 → A4 → A5 → A6 → Option R) → A → A0 → A1 → A2 → A3 → A4 → A5 → A6 → Option R} {k : (A0 → A1 → A2 → A3 → A4 → A5 → A6 → Option R)} {a0 : A0} {a1 : A1} {a2 : A2} {a3 : A3} {a4 : A4} {a5 : A5} {a6 : A6} : rng7 b k [] a0 a1 a2 a3 a4 a5 a6 = k a0 a1 a2 a3 a4 a5 a6 := rfl
theorem rng7_cons {A0 A1 A2 A3 A4 A5 A6 : Type} {b : (A0 → A1 → A2 → A3 → A4 → A5 → A6 → Option R) → A → A0 → A1 → A2 → A3 → A4 → A5 → A6 → Option R} {k : (A0 → A1 → A2 → A3 → A4 → A5 → A6 → Option R)} {a0 : A0} {a1 : A1} {a2 : A2} {a3 : A3} {a4 : A4} {a5 : A5} {a6 : A6} : rng7 b k (a :: L) a0 a1 a2 a3 a4 a5 a6 = b (rng7 b k L) a a0 a1 a2 a3 a4 a5 a6 := rfl
theorem rng7_z {A0 A1 A2 A3 A4 A5 A6 : Type} {b : (A0 → A1 → A2 → A3 → A4 → A5 → A6 → Option R) → A → A0 → A1 → A2 → A3 → A4 → A5 → A6 → Option R} {k : (A0 → A1 → A2 → A3 → A4 → A5 → A6 → Option R)} {a0 : A0} {a1 : A1} {a2 : A2} {a3 : A3} {a4 : A4} {a5 : A5} {a6 : A6} (h : rng7 b k [] a0 a1 a2 a3 a4 a5 a6 = some x) : k a0 a1 a2 a3 a4 a5 a6 = some x := rng7_nil.symm.trans h
theorem rng7_s {A0 A1 A2 A3 A4 A5 A6 : Type} {b : (A0 → A1 → A2 → A3 → A4 → A5 → A6 → Option R) → A → A0 → A1 → A2 → A3 → A4 → A5 → A6 → Option R} {k : (A0 → A1 → A2 → A3 → A4 → A5 → A6 → Option R)} {a0 : A0} {a1 : A1} {a2 : A2} {a3 : A3} {a4 : A4} {a5 : A5} {a6 : A6} (h : rng7 b k (a :: L) a0 a1 a2 a3 a4 a5 a6 = some x) : ∃ sf, sf = rng7 b k L ∧ b sf a a0 a1 a2 a3 a4 a5 a6 = some x := ⟨_, rfl, rng7_cons.symm.trans h⟩
def rng8 {A0 A1 A2 A3 A4 A5 A6 A7 : Type} (b : (A0 → A1 → A2 → A3 → A4 → A5 → A6 → A7 → Option R) → A → A0 → A1 → A2 → A3 → A4 → A5 → A6 → A7 → Option R) (k : (A0 → A1 → A2 → A3 → A4 → A5 → A6 → A7 → Option R)) : List A → A0 → A1 → A2 → A3 → A4 → A5 → A6 → A7 → Option R
  | [] => k
  | x :: L => b (rng8 b k L) x
theorem rng8_nil {A0 A1 A2 A3 A4 A5 A6 A7 : Type} {b : (A0 → A1 → A2 → A3 → A4 → A5 → A6 → A7 → Option R) → A → A0 → A1 → A2 → A3 → A4 → A5 → A6 → A7 → Option R} {k : (A0 → A1 → A2 → A3 → A4 → A5 → A6 → A7 → Option R)} {a0 : A0} {a1 : A1} {a2 : A2} {a3 : A3} {a4 : A4} {a5 : A5} {a6 : A6} {a7 : A7} : rng8 b k [] a0 a1 a2 a3 a4 a5 a6 a7 = k a0 a1 a2 a3 a4 a5 a6 a7 := rfl
theorem rng8_cons {A0 A1 A2 A3 A4 A5 A6 A7 : Type} {b : (A0 → A1 → A2 → A3 → A4 → A5 → A6 → A7 → Option R) → A → A0 → A1 → A2 → A3 → A4 → A5 → A6 → A7 → Option R} {k : (A0 → A1 → A2 → A3 → A4 → A5 → A6 → A7 → Option R)} {a0 : A0} {a1 : A1} {a2 : A2} {a3 : A3} {a4 : A4} {a5 : A5} {a6 : A6} {a7 : A7} : rng8 b k (a :: L) a0 a1 a2 a3 a4 a5 a6 a7 = b (rng8 b k L) a a0 a1 a2 a3 a4 a5 a6 a7 := rfl
theorem rng8_z {A0 A1 A2 A3 A4 A5 A6 A7 : Type} {b : (A0 → A1 → A2 → A3 → A4 → A5 → A6 → A7 → Option R) → A → A0 → A1 → A2 → A3 → A4 → A5 → A6 → A7 → Option R} {k : (A0 → A1 → A2 → A3 → A4 → A5 → A6 → A7 → Option R)} {a0 : A0} {a1 : A1} {a2 : A2} {a3 : A3} {a4 : A4} {a5 : A5} {a6 : A6} {a7 : A7} (h : rng8 b k [] a0 a1 a2 a3 a4 a5 a6 a7 = some x) : k a0 a1 a2 a3 a4 a5 a6 a7 = some x := rng8_nil.symm.trans h
theorem rng8_s {A0 A1 A2 A3 A4 A5 A6 A7 : Type} {b : (A0 → A1 → A2 → A3 → A4 → A5 → A6 → A7 → Option R) → A → A0 → A1 → A2 → A3 → A4 → A5 → A6 → A7 → Option R} {k : (A0 → A1 → A2 → A3 → A4 → A5 → A6 → A7 → Option R)} {a0 : A0} {a1 : A1} {a2 : A2} {a3 : A3} {a4 : A4} {a5 : A5} {a6 : A6} {a7 : A7} (h : rng8 b k (a :: L) a0 a1 a2 a3 a4 a5 a6 a7 = some x) : ∃ sf, sf = rng8 b k L ∧ b sf a a0 a1 a2 a3 a4 a5 a6 a7 = some x := ⟨_, rfl, rng8_cons.symm.trans h⟩
attribute [irreducible] rng0 rng1 rng2 rng3 rng4 rng5 rng6 rng7 rng8
/-- what is handed out, and what comes behind -/
def yl {α : Type} (x : α) (m : Option (List α)) : Option (List α) := m.map (x :: ·)
theorem yl_elim {α : Type} {x : α} {m : Option (List α)} {L : List α} (h : yl x m = some L) : ∃ L', m = some L' ∧ L = x :: L' := by
  cases m with
  | none => cases h
  | some L' => exact ⟨L', rfl, (Option.some.inj h).symm⟩
end model

/-! the iterator's own walk -/
/-- an iterator as a value -/
def vIt {α : Type} (P : Program) (enc : α → World → List Nat → List Value → Prop) : Vr (List α) :=
  ⟨fun w O v L => ∃ f caps, v = .func (.func f) #[] (List.toArray caps) ∧ (∀ (args : Array Value) (w : World), (callFunc f args).run P w = .ok (.enter f args) w) ∧ IterF P w O f caps enc L,
   fun s ⟨f, caps, h1, h2, h3⟩ => ⟨f, caps, h1, h2, h3.step s⟩⟩
/-- the same, to be carried along -/
def ItR {α : Type} (P : Program) (enc : α → World → List Nat → List Value → Prop) (w : World) (O : List Nat) (v : Value) (L : List α) : Prop := (vIt P enc).vd w O v L
theorem ItR.step {α : Type} {P : Program} {enc : α → World → List Nat → List Value → Prop} {w w' : World} {O O' : List Nat} {v : Value} {L : List α} (h : ItR P enc w O v L) (s : Step O w O' w') : ItR P enc w' O' v L := (vIt P enc).step s h
section iter
variable {P : Program} {ρ : Env} {w : World} {z : Zx} {O : List Nat} {bs : Ents} {α : Type} {J Jx : JP α} {L pre : List α} {a : α} {l : Nat} {enc : α → World → List Nat → List Value → Prop}
structure Itr (J : JP α) (pre : List α) (z : Zx) (O : List Nat) : Prop where
  j : J pre z.w O z.K
  dj : ∀ k ∈ z.K, k ∉ O
theorem Itr.now (h : Itr J pre z O) (hJ : Abides J) (hs : St z O w bs) : J pre w O (bs.filterMap Prod.fst) :=
  hJ.loc h.j h.dj hs.below ⟨fun k hk => by obtain ⟨p, hp, e⟩ := mem_keys.1 hk; exact (hs.own p hp k e).1, fun k hk => by obtain ⟨p, hp, e⟩ := mem_keys.1 hk; exact hs.lt hp e⟩
theorem Itr.fin (h : Itr J pre z O) (hJ : Abides J) (hs : St z O w bs) : J pre w O [] :=
  hJ.loc (h.now hJ hs) (fun k hk hm => (hs.dj k hm).2 hk) (Loc.refl _ _) ⟨(fun _ h => by cases h), fun _ h => by cases h⟩
theorem Itr.start {w : World} (h : J [] w O []) : Itr J [] ⟨w, [], []⟩ O := ⟨h, fun _ h => by cases h⟩
theorem op_yield {d : Option Nat} {ty : TypeId} {pos : String} {aft : Array Edge} {g : Option (Nat × Bool)} {V : Value → World → Prop} {x : Operand} {args : List Operand} {us : Array TypeId} {vs : List Value}
    (hx : ev ρ x = .func (.yield l) #[] #[]) (ha : args.map (ev ρ) = vs) (hY : YieldsTo P enc L l J Jx) (hJ : Abides J) (hI : Itr J pre z O) (hs : St z O w bs) (hL : pre ++ [a] <+: L) (hen : enc a w (ks bs O) vs)
    (kt : ∀ w' O', St ⟨w', bs.filterMap Prod.fst, []⟩ O' w' bs → Step (ks bs O) w (ks bs O') w' → Itr J (pre ++ [a]) ⟨w', bs.filterMap Prod.fst, []⟩ O' → V (.bool true) w')
    (kf : ∀ w' O', St ⟨w', bs.filterMap Prod.fst, []⟩ O' w' bs → Itr Jx (pre ++ [a]) ⟨w', bs.filterMap Prod.fst, []⟩ O' → V (.bool false) w') :
    Run1 P none ρ w ⟨d, .call ⟨.value x, args.toArray, us⟩, ty, pos, aft, g⟩ V := by
  obtain ⟨fn, tmps, assign, body, hy, hR⟩ := hY pre a w O (bs.filterMap Prod.fst) vs hL (hI.now hJ hs) (fun k hk => ⟨hs.ltw k (mem_ks.2 (.inl hk)), fun hm => (hs.dj k hm).2 hk⟩) hs.lt0 hen
  unfold Run1
  rw [Oper.semAt_eq _ _ _ (by simp)]
  have hrun : (execOp (ev ρ) ⟨d, .call ⟨.value x, args.toArray, us⟩, ty, pos, aft, g⟩).run P w = .ok (.round l fn tmps assign body) w := by
    simp only [execOp, resolve, hx]
    subst ha
    simpa [go_sem, invoke] using hy
  rw [hrun]
  simp only
  refine RoundIn.mono hR ?_
  rintro e w' ⟨O', hl, hg, h⟩
  have hS : St ⟨w', bs.filterMap Prod.fst, []⟩ O' w' bs := by
    refine ⟨Loc.refl _ _, fun p hp b hb => ⟨.inl (mem_keys.2 ⟨p, hp, hb⟩), ?_⟩, hs.nd, fun k hk => ⟨hg.lt k hk, fun hm => ?_⟩, List.nodup_nil, fun _ h => by cases h⟩
    · rw [hl.block b (hs.lt hp hb) fun hm => (hs.dj b hm).2 (mem_keys.2 ⟨p, hp, hb⟩)]; exact (hs.own p hp b hb).2
    · rcases hg.new k hk with h1 | h1
      · exact (hs.dj k h1).2 hm
      · obtain ⟨p, hp, e⟩ := mem_keys.1 hm
        have := hs.lt hp e; omega
  have hP : Step (ks bs O) w (ks bs O') w' := Step.of_loc hl (fun k hk => mem_ks.2 (.inr hk)) fun k hk => by
    rcases mem_ks.1 hk with hk | hk
    · exact .inl (mem_ks.2 (.inl hk))
    · exact (hg.new k hk).imp (fun h => mem_ks.2 (.inr h)) id
  have hdj : ∀ k ∈ bs.filterMap Prod.fst, k ∉ O' := fun k hk hm => (hS.dj k hm).2 hk
  rcases h with ⟨rfl, h⟩ | ⟨rfl, h⟩
  · exact ⟨_, rfl, kt w' O' hS hP ⟨h, hdj⟩⟩
  · exact ⟨_, rfl, kf w' O' hS ⟨h, hdj⟩⟩
end iter
end Go.Fx


/- From what an argument reads as in a row to what it reads as here. No program in sight. -/
set_option linter.unusedSimpArgs false
set_option linter.unusedVariables false
namespace Go.Fx
open Go Go.RowKit Go.ChangeShapes

section
variable {H : Type} {enc : TypeId × Value → H} {P : Program} {w : World} {base : Nat} {spare : Nat → Bool} {held : Bool}
/-- no slice longer than memory -/
def SmL {α : Type} (Sm : α → Prop) (xs : List α) : Prop := xs.length ≤ 140737488351232 ∧ ∀ x ∈ xs, Sm x
def SmT {α : Type} (_ : α) : Prop := True
/-- whatever is read as a datum of type t stands in cells as one of α -/
def Rd {α : Type} (enc : TypeId × Value → H) (P : Program) (w : World) (base : Nat) (spare : Nat → Bool) (held : Bool) (t : TypeId) (q : Rp α) (Sm : α → Prop) : Prop :=
  P.cellsOf t = q.n ∧ ∀ (fuel : Nat) (cs : List Value) (y : DataW H × List MemPlace), DataW.trod enc P w base spare held fuel t cs = some y → ∃ x, q.rd w [] cs x ∧ ((∀ n ∈ y.1.weights P t, n ≤ reachBytes) → Sm x)

theorem wf_inK {k : IntKind} {n : Int} (h : (Lit.int k n).wf = true) : k.min ≤ n ∧ n ≤ k.max := by
  simpa [Lit.wf, IntKind.has] using h
theorem Rd_int {t : TypeId} {k : IntKind} (ht : P.underlying t = some (.int k)) (hc : P.cellsOf t = 1) : Rd enc P w base spare held t (rInt k) (InK k) := by
  refine ⟨hc, fun fuel cs y h => ?_⟩
  obtain ⟨n, rfl, _, hw⟩ := DataW.trod_int ht h
  exact ⟨n, ⟨rfl, wf_inK hw⟩, fun _ => wf_inK hw⟩
theorem Rd_u8 {t : TypeId} (ht : P.underlying t = some (.int .u8)) (hc : P.cellsOf t = 1) : Rd enc P w base spare held t rU8 SmT := by
  refine ⟨hc, fun fuel cs y h => ?_⟩
  obtain ⟨n, rfl, _, hw⟩ := DataW.trod_int ht h
  exact ⟨UInt8.ofNat n.toNat, mk_u8 (wf_inK hw), fun _ => trivial⟩
theorem Rd_bool {t : TypeId} (ht : P.underlying t = some .bool) (hc : P.cellsOf t = 1) : Rd enc P w base spare held t rBool SmT := by
  refine ⟨hc, fun fuel cs y h => ?_⟩
  obtain ⟨b, rfl, _⟩ := DataW.trod_bool ht h
  exact ⟨b, rfl, fun _ => trivial⟩
theorem bs_toList (s : ByteArray) : Fx.bs s.data.toList = s := by cases s; simp [Fx.bs]
theorem Rd_str {t : TypeId} (ht : P.underlying t = some .string) (hc : P.cellsOf t = 1) : Rd enc P w base spare held t rStr (SmL SmT) := by
  refine ⟨hc, fun fuel cs y h => ?_⟩
  obtain ⟨s, rfl, hy, _⟩ := DataW.trod_string ht h
  refine ⟨s.data.toList, by show _ = _; rw [bs_toList], fun hw => ⟨?_, fun _ _ => trivial⟩⟩
  have := hw s.data.toList.length (by rw [hy]; simp [DataW.weights])
  simpa [reachBytes] using this
theorem ptR_of_cells {α : Type} {q : Rp α} {a : Addr} {cs : List Value} {x : α} (hn : 0 < q.n) (hc : w.cells? base a q.n = some cs) (hr : q.rd w [] cs x) : PtR q w [] a x := by
  obtain ⟨_, hl, hg⟩ := World.cells?_some hc
  have h0 := hg 0 hn
  have hs0 : (cs[0]?).isSome := by simp; omega
  obtain ⟨v0, hv0⟩ := Option.isSome_iff_exists.1 hs0
  rw [hv0] at h0
  have hsp : a.spot = none := by have := World.cell?_spot h0; rwa [Addr.add_zero'] at this
  obtain ⟨b, off, sp⟩ := a
  simp only at hsp; subst hsp
  have hblk : ∃ c T fz, w.heap[b]? = some (.cells c T fz) := by
    simp only [Addr.add_lit, World.cell?, Option.isSome_none, Bool.false_eq_true, if_false] at h0
    cases hb : w.heap[b]? with
    | none => rw [hb] at h0; simp at h0
    | some o => cases o <;> simp [hb] at h0; exact ⟨_, _, _, rfl⟩
  obtain ⟨c, T, fz, hb⟩ := hblk
  have hget : ∀ i, i < q.n → c[off + i]? = cs[i]? := fun i hi => by
    have := hg i hi
    rw [Addr.add_lit, cell_at hb] at this
    exact this
  have hsz : off + q.n ≤ c.size := by
    have := hget (q.n - 1) (by omega)
    rw [List.getElem?_eq_getElem (by omega)] at this
    have := (Array.getElem?_eq_some_iff.1 this).1
    omega
  refine ⟨rfl, ⟨(Array.getElem?_eq_some_iff.1 hb).1, by simp⟩, c, T, fz, hb, hsz, ?_⟩
  have e : (c.toList.drop off).take q.n = cs := by
    apply List.ext_getElem?
    intro i
    rw [List.getElem?_take, List.getElem?_drop]
    split
    · rename_i hi; rw [← hget i hi]; simp
    · rw [List.getElem?_eq_none (by omega)]
  simp only [e]; exact hr
theorem weightsAll_mem {e : TypeId} : ∀ {l : List (DataW H)} {d : DataW H}, d ∈ l → ∀ n ∈ d.weights P e, n ∈ DataW.weightsAll P e l
  | [], _, h, _, _ => by cases h
  | x :: l, d, h, n, hn => by
    rw [DataW.weightsAll]
    rcases List.mem_cons.1 h with e | h
    · subst e; exact List.mem_append_left _ hn
    · exact List.mem_append_right _ (weightsAll_mem h n hn)
theorem Rd_slice {α : Type} {q : Rp α} {Sm : α → Prop} {t e : TypeId} (ht : P.underlying t = some (.slice e)) (hc : P.cellsOf t = 1) (hn : 0 < q.n) (hby : 1 ≤ P.bytesOf e) (R : Rd enc P w base spare held e q Sm) : Rd enc P w base spare held t (rSl q) (SmL Sm) := by
  refine ⟨hc, fun fuel cs y h => ?_⟩
  rcases DataW.trod_slice ht h with ⟨rfl, _⟩ | ⟨a, len, cap, elems, rest, n, _, rfl, hy, hb, hl, hm, hlen, hel, _, _⟩
  · exact ⟨[], ⟨none, 0, rfl, SlR.nil_⟩, fun _ => ⟨by simp, by simp⟩⟩
  · have hex : ∀ i (hi : i < elems.length), ∃ x, PtR q w [] (a.add (i * q.n)) x ∧ ((∀ n ∈ elems[i].1.weights P e, n ≤ reachBytes) → Sm x) := fun i hi => by
      have h1 := hel i (by omega)
      rw [List.getElem?_eq_getElem hi, Option.bind_eq_some_iff] at h1
      obtain ⟨cs, h2, h3⟩ := h1
      obtain ⟨x, hx, hs⟩ := R.2 _ _ _ h3
      rw [R.1] at h2
      exact ⟨x, ptR_of_cells hn h2 hx, hs⟩
    have key : ∀ k, k ≤ elems.length → ∃ xs : List α, xs.length = k ∧ ∀ i (h : i < xs.length) (hi : i < elems.length), PtR q w [] (a.add (i * q.n)) xs[i] ∧ ((∀ n ∈ elems[i].1.weights P e, n ≤ reachBytes) → Sm xs[i]) := by
      intro k
      induction k with
      | zero => exact fun _ => ⟨[], rfl, by simp⟩
      | succ k ih =>
        intro hk
        obtain ⟨xs, h1, h2⟩ := ih (by omega)
        obtain ⟨x, hx⟩ := hex k (by omega)
        refine ⟨xs ++ [x], by simp [h1], fun i hi hi2 => ?_⟩
        by_cases hik : i < xs.length
        · rw [List.getElem_append_left hik]; exact h2 i hik hi2
        · have : i = k := by simp at hi; omega
          subst this
          rw [List.getElem_append_right (by omega)]; simpa [h1] using hx
    obtain ⟨xs, h1, h2⟩ := key elems.length (Nat.le_refl _)
    refine ⟨xs, ⟨some a, cap, by rw [h1, hlen], ⟨by omega, hm, (fun h => by cases h), fun ad he i hi => by cases he; exact (h2 i hi (by omega)).1⟩⟩, fun hw => ?_⟩
    rw [hy] at hw
    simp only [DataW.weights, ht, List.mem_cons, List.mem_append] at hw
    refine ⟨?_, fun x hx => ?_⟩
    · have h3 := hw _ (.inl rfl)
      simp only [List.length_map, reachBytes] at h3
      have h4 : elems.length * 1 ≤ (elems.length + rest.length) * P.bytesOf e := Nat.mul_le_mul (by omega) hby
      rw [h1]; omega
    · obtain ⟨i, hi, rfl⟩ := List.mem_iff_getElem.1 hx
      refine (h2 i hi (by omega)).2 fun n hn' => hw n (.inr (.inl (weightsAll_mem (d := elems[i].1) (List.mem_map.2 ⟨elems[i], List.getElem_mem _, rfl⟩) n hn')))
theorem fld {α : Type} {q : Rp α} {Sm : α → Prop} {fs : Array Field} {cs : List Value} {xs : List (DataW H × List MemPlace)} {n i : Nat} {f : Field} {t : TypeId} {y : DataW H × List MemPlace} (ht : P.underlying t = some (.struct fs))
    (h : ∀ (i : Nat) (f : Field), fs[i]? = some f → DataW.trod enc P w base spare held n f.type ((cs.drop f.offset).take (P.cellsOf f.type)) = xs[i]?) (hl : xs.length = fs.size) (hy : y = (.agg (xs.map (·.1)), xs.flatMap (·.2))) (hf : fs[i]? = some f)
    (R : Rd enc P w base spare held f.type q Sm) : ∃ x, q.rd w [] ((cs.drop f.offset).take q.n) x ∧ ((∀ n ∈ y.1.weights P t, n ≤ reachBytes) → Sm x) := by
  have h1 := h i f hf
  have hi : i < xs.length := by rw [hl]; exact (Array.getElem?_eq_some_iff.1 hf).1
  rw [List.getElem?_eq_getElem hi] at h1
  obtain ⟨x, hx, hs⟩ := R.2 _ _ _ h1
  rw [R.1] at hx
  refine ⟨x, hx, fun hw => hs fun n hn => hw n ?_⟩
  rw [hy]
  simp only [DataW.weights, ht]
  exact DataW.weights_mem_each (j := i) (t := f.type) (d := xs[i].1) (by simp [hf]) (by simp [hi]) n hn
theorem rd_pair {α β : Type} {r : Rp α} {s : Rp β} {O : List Nat} {cs : List Value} {o : Nat} {x : α} {y : β} (h1 : r.rd w O ((cs.drop o).take r.n) x) (h2 : s.rd w O ((cs.drop (o + r.n)).take s.n) y) :
    (rPair r s).rd w O ((cs.drop o).take (rPair r s).n) (x, y) := by
  refine ⟨_, _, ?_, h1, h2⟩
  show (cs.drop o).take (r.n + s.n) = _
  rw [List.take_add, List.drop_drop]
theorem rd_all {α : Type} {q : Rp α} {O : List Nat} {cs : List Value} {x : α} (h : q.rd w O ((cs.drop 0).take q.n) x) (hl : cs.length = q.n) : q.rd w O cs x := by
  rwa [List.drop_zero, List.take_of_length_le (by omega)] at h
end
end Go.Fx


/- Function values that may be nil; append of fresh zeros; slices cut to nothing. No program in sight. -/
set_option linter.unusedSimpArgs false
set_option linter.unusedVariables false
namespace Go.Fx
open Go Go.RowKit

/-! function values that may be nil -/
/-- a call of one -/
def callO {α β : Type} (f : Option (α → Option β)) (x : α) : Option β := f.bind fun g => g x
/-- it is nil, or computes what f says -/
def CallsO1 {α β : Type} (P : Program) (w : World) (O : List Nat) (fv : Value) (A : Vr α) (R : Vr β) (f : Option (α → Option β)) : Prop :=
  (f = none ∧ fv = .nilFunc) ∨ ∃ g fn first cap, f = some g ∧ fv = .func fn first cap ∧ CallsTo1 P w O fv A R g
theorem CallsO1.step {α β : Type} {P : Program} {w w' : World} {O O' : List Nat} {fv : Value} {A : Vr α} {R : Vr β} {f : Option (α → Option β)} (h : CallsO1 P w O fv A R f) (s : Step O w O' w') : CallsO1 P w' O' fv A R f := by
  rcases h with h | ⟨g, fn, first, cap, h1, h2, h3⟩
  · exact .inl h
  · exact .inr ⟨g, fn, first, cap, h1, h2, h3.step s⟩
theorem CallsO1.nil_ {α β : Type} {P : Program} {w : World} {O : List Nat} {A : Vr α} {R : Vr β} : CallsO1 P w O .nilFunc A R (none : Option (α → Option β)) := .inl ⟨rfl, rfl⟩
theorem CallsO1.some_ {α β : Type} {P : Program} {w : World} {O : List Nat} {fn : Go.Fn} {first cap : Array Value} {A : Vr α} {R : Vr β} {g : α → Option β} (h : CallsTo1 P w O (.func fn first cap) A R g) : CallsO1 P w O (.func fn first cap) A R (some g) := .inr ⟨g, fn, first, cap, rfl, rfl, h⟩
theorem CallsO1.call {α β : Type} {P : Program} {w : World} {O : List Nat} {fv : Value} {A : Vr α} {R : Vr β} {f : Option (α → Option β)} (h : CallsO1 P w O fv A R f) (hO : ∀ k ∈ O, k < w.heap.size) {v : Value} {x : α} {y : β} (hv : A.vd w O v x) (hy : callO f x = some y) :
    FvTo P fv [v] w fun u w'' => Ext w w'' ∧ R.vd w'' O u y := by
  rcases h with ⟨rfl, _⟩ | ⟨g, fn, first, cap, rfl, h2, h3⟩
  · cases hy
  · exact h3.call hO hv hy
theorem CallsO1.cells {α β : Type} {P : Program} {w : World} {O : List Nat} {fv : Value} {A : Vr α} {R : Vr β} {f : Option (α → Option β)} (h : CallsO1 P w O fv A R f) : fv.cells = [fv].toArray := by
  rcases h with ⟨_, rfl⟩ | ⟨_, _, _, _, _, rfl, _⟩ <;> rfl
/-- in a cell -/
def rFO {α β : Type} (P : Program) (A : Vr α) (R : Vr β) : Rp (Option (α → Option β)) where
  n := 1
  rd w O cs f := ∃ v, cs = [v] ∧ CallsO1 P w O v A R f
  len := fun ⟨_, h, _⟩ => by rw [h]; rfl
  one := fun ⟨v, h, h2⟩ => by
    subst h
    rcases h2 with ⟨_, rfl⟩ | ⟨_, _, _, _, _, rfl, _⟩ <;> simp [Value.oneCell']
  step := fun s ⟨v, h, h2⟩ => ⟨v, h, h2.step s⟩
section
variable {α β : Type} {P : Program} {w : World} {O : List Nat} {A : Vr α} {R : Vr β} {f : Option (α → Option β)} {v : Value} {cs : List Value}
theorem mk_fo (h : CallsO1 P w O v A R f) : (rFO P A R).rd w O [v] f := ⟨v, rfl, h⟩
theorem un_fo (h : (rFO P A R).rd w O [v] f) : CallsO1 P w O v A R f := by obtain ⟨v', h1, h2⟩ := h; cases h1; exact h2
end
section
variable {P : Program} {r : Option Nat} {ρ : Env} {w : World} {d : Option Nat} {ty : TypeId} {pos : String} {aft : Array Edge} {g : Option (Nat × Bool)} {V : Value → World → Prop}
variable {w0 : Zx} {O0 : List Nat} {bs bs' : Ents} {x y : Operand} {t u : TypeId} {td : TypeDesc} {n b : Nat} {z : List Value} {ag : Bool}
theorem run_equalIn_func_nil (d : Nat) {t : TypeId} {u1 u2 : Array TypeId} {vr : Bool} (hu : P.underlying t = some (.func u1 u2 vr)) : (Op.equalIn (d + 1) t .nilFunc .nilFunc).run P w = .ok true w := by
  simp [Op.equalIn, run_underlying hu]
theorem run_equalIn_func_some (d : Nat) {t : TypeId} {u1 u2 : Array TypeId} {vr : Bool} (fn : Go.Fn) (first cap : Array Value) (hu : P.underlying t = some (.func u1 u2 vr)) : (Op.equalIn (d + 1) t (.func fn first cap) .nilFunc).run P w = .ok false w := by
  simp [Op.equalIn, run_underlying hu]
/-- held against nil -/
theorem op_nilF {α β : Type} {O : List Nat} {A : Vr α} {R : Vr β} {f : Option (α → Option β)} {fv : Value} {u1 u2 : Array TypeId} {vr : Bool} (hu : P.underlying t = some (.func u1 u2 vr)) (hx : ev ρ x = fv) (hf : CallsO1 P w O fv A R f) (hy : ev ρ y = .nilFunc) (h : V (.bool f.isSome) w) :
    Run1 P r ρ w ⟨d, .binOp .neq t x y u, ty, pos, aft, g⟩ V := by
  refine run1_value (v := .bool f.isSome) (by simp) ?_ h
  rcases hf with ⟨rfl, rfl⟩ | ⟨_, fn, first, cap, rfl, rfl, _⟩
  · simp [execOp, hx, hy, eqGuard, binOp, Op.equal, Op.maxDepth, run_equalIn_func_nil 9999 hu]
  · simp [execOp, hx, hy, eqGuard, binOp, Op.equal, Op.maxDepth, run_equalIn_func_some 9999 fn first cap hu]
/-- append(nil, make([]E, m)...) -/
theorem op_appendZ {α : Type} {q : Rp α} {e ti : TypeId} {bt : Nat} {tz : List Value} {ta : Bool} {m : Int} (T : Ty P t (.slice e) 1 bt tz ta) (E : Ty P e td n b z ag) (hqn : q.n = n) (hti : P.underlying ti = some (.int .i64)) (hs : St w0 O0 w bs)
    (hx : ev ρ x = .slice none 0 0) (hy : ev ρ y = .int .i64 m) (hm : InK .i64 m) (h0 : 0 < m) (hb : m * b ≤ 281474976710656)
    (k : ∀ bl c o w', m.toNat ≤ c → Step (ks bs O0) w (ks ((some bl, o) :: bs) O0) w' → St w0 O0 w' ((some bl, o) :: bs) → Gs q e w' (ks ((some bl, o) :: bs) O0) (some ⟨bl, 0, none⟩) c ([] : List α) (some bl) o → V (.slice (some ⟨bl, 0, none⟩) m.toNat c) w') :
    Run1 P r ρ w ⟨d, .call ⟨.builtin .append, #[x, y], #[t, ti]⟩, ty, pos, aft, g⟩ V := by
  obtain ⟨inf, hi1, hi2, hi3, zv, hi4, hi5⟩ := E.info
  have hzl : zv.cells.size = n := by rw [hi5]; simpa using E.zl
  have hw : IntKind.i64.wrap m = m := wrap_i64 (by have := hm.1; simp [IntKind.min, IntKind.signed, IntKind.bits] at this; omega) (by have := hm.2; simp [IntKind.max, IntKind.signed, IntKind.bits] at this; omega)
  obtain ⟨mn, rfl⟩ : ∃ mn : Nat, m = mn := ⟨m.toNat, by omega⟩
  have hmx : (mn : Int) ≤ 9223372036854775807 := by have := hm.2; simp [IntKind.max, IntKind.signed, IntKind.bits] at this; omega
  have h0' : 0 < mn := by omega
  have e1 : (mn : Int).toNat = mn := Int.toNat_natCast mn
  rw [e1] at k
  obtain ⟨o', ho'⟩ : ∃ o', o' = Obj.cells ((if mn * inf.size = 0 then #[] else Builtin.zeroCells zv.cells mn) ++ Builtin.zeroCells zv.cells (grownCap w mn 0 e - mn)) e := ⟨_, rfl⟩
  have hge := grownCap_ge w mn 0 e
  have hcm := grownCap_le_maxLen w mn 0 e (by simp [maxLen]; omega)
  have hr : (Builtin.append_ #[t, ti] ty #[.slice none 0 0, .int .i64 mn]).run P w = .ok (.slice (some ⟨w.heap.size, 0, none⟩) mn (grownCap w mn 0 e)) (w.drew.alloc o') := by
    have hn : mn ≠ 0 := by omega
    have a1 : ¬ (mn : Int) < 0 := by omega
    have a2 : ¬ (281474976710656 < (mn : Int) * inf.bytes) := by rw [hi3]; omega
    have a3 : ¬ (9223372036854775807 < (mn : Int)) := by omega
    have a4 : ¬ (281474976710656 < Builtin.nextslicecap mn 0 * inf.bytes) := by rw [nextslicecap_zero h0', hi3]; omega
    subst ho'
    by_cases hz : mn * inf.size = 0
    · simp [Builtin.append_, T.runU, run_underlying hti, sizeOf, typeInfo, zeroValue, hi1, hi4, asInt, asIntOf, hw, hn, a1, a2, a3, a4, hz, Question.forced, run_firstCells_none, newRow, grownCap]
    · simp [Builtin.append_, T.runU, run_underlying hti, sizeOf, typeInfo, zeroValue, hi1, hi4, asInt, asIntOf, hw, hn, a1, a2, a3, a4, hz, Question.forced, run_firstCells_none, newRow, grownCap]
  have hs1 := hs.ghost default
  obtain ⟨h1, h2⟩ := hs1.extend (i := 0) rfl o'
  rw [ks_ghost] at h2
  have hG : Gs q e (w.drew.alloc o') (ks ((some w.heap.size, o') :: bs) O0) (some ⟨w.heap.size, 0, none⟩) (grownCap w mn 0 e) ([] : List α) (some w.heap.size) o' := by
    subst ho'
    refine Gs.made ?_ (by simp) hcm ?_
    · simp only [Array.size_append, size_zeroCells, hzl, hqn]
      by_cases hz : mn * inf.size = 0
      · rw [if_pos hz]
        have : n = 0 := by rw [← hi2]; rcases Nat.mul_eq_zero.1 hz with h | h <;> omega
        simp [this]
      · rw [if_neg hz, size_zeroCells, hzl, ← Nat.add_mul]; congr 1; omega
    · simp [Els]
  refine run1_value (by simp) ?_ (k _ _ _ _ hge h2 h1 hG)
  simp [execOp, resolve, invoke, builtin, hx, hy, hr]
/-- a slice cut to nothing keeps its capacity -/
theorem op_slice0 {bl len c bt : Nat} {tz : List Value} {ta : Bool} {e : TypeId} {hi : Option Operand} (T : Ty P t (.slice e) 1 bt tz ta) (E : Ty P e td n b z ag)
    (hx : ev ρ x = .slice (some ⟨bl, 0, none⟩) len c) (hh : Bnd ρ hi len 0) (k : V (.slice (some ⟨bl, 0, none⟩) 0 c) w) : Run1 P r ρ w ⟨d, .slice t x none hi none, ty, pos, aft, g⟩ V := by
  refine op_sliceO (l := 0) (h := 0) (m := c) T E hx rfl hh rfl (by simp) (Nat.le_refl _) (Nat.zero_le _) (Nat.le_refl _) ?_
  have : (if c = 0 then (0 : Nat) else 0 + 0 * n) = 0 := by split <;> simp
  simpa [this] using k
theorem op_sliceNil {bt : Nat} {tz : List Value} {ta : Bool} {e : TypeId} {hi : Option Operand} (T : Ty P t (.slice e) 1 bt tz ta) (E : Ty P e td n b z ag)
    (hx : ev ρ x = .slice none 0 0) (hh : Bnd ρ hi 0 0) (k : V (.slice none 0 0) w) : Run1 P r ρ w ⟨d, .slice t x none hi none, ty, pos, aft, g⟩ V := by
  refine run1_value (by simp) ?_ k
  have hb := run_sliceBounds (P := P) (w := w) (ρ := ρ) (lo := none) (hi := hi) (mx := none) (l := 0) (h := 0) (m := 0) (len := 0) (cap := 0) (is := true) rfl hh rfl (Nat.le_refl _) (Nat.le_refl _) (Nat.le_refl _) (by simp)
  simp only [execOp, hx, Instr.sliceAt, Sem.run_bind, T.runU, Result.andThen_ok, Instr.slice, hb, E.runSize, Sem.run_pure]
  simp
theorem op_cap0 {e : TypeId} {a : Option Addr} {l c : Nat} (hu : P.underlying t = some (.slice e)) (hx : ev ρ x = .slice a l c) (h : V (.int .i64 (c : Nat)) w) : Run1 P r ρ w ⟨d, .call ⟨.builtin .cap, #[x], #[t]⟩, ty, pos, aft, g⟩ V := by
  refine run1_value (by simp) ?_ h
  simp [execOp, resolve, invoke, builtin, hx, Builtin.cap_, run_underlying hu, goInt]
end
end Go.Fx


/- Sorting a slice of one's own by a function value (the kit's contract of slices.SortFunc, over my facts). No program in sight. -/
set_option linter.unusedSimpArgs false
set_option linter.unusedVariables false
namespace Go.Fx
open Go Go.RowKit Go.Shelf Go.Proofs
section sortm
variable {α : Type}
/-- less, as a comparison says -/
def ltM (cmp : α → α → Option Int) (x y : α) : Bool := match cmp x y with | some n => decide (n < 0) | none => false
/-- the comparison is a total order of these -/
def okSort [DecidableEq α] (cmp : α → α → Option Int) (xs : List α) : Bool :=
  xs.all fun x => !ltM cmp x x && xs.all fun y => (cmp x y).isSome && (ltM cmp x y || ltM cmp y x || decide (x = y)) && xs.all fun z => !(ltM cmp x y && ltM cmp y z) || ltM cmp x z
def insM (lt : α → α → Bool) (x : α) : List α → List α
  | [] => [x]
  | y :: t => bif lt x y then x :: y :: t else y :: insM lt x t
def isortM (lt : α → α → Bool) (xs : List α) : List α := xs.foldr (insM lt) []
/-- the list, sorted: nothing is said where the comparison is no total order of its elements -/
def sortM [DecidableEq α] (cmp : α → α → Option Int) (xs : List α) : Option (List α) := bif okSort cmp xs then some (isortM (ltM cmp) xs) else none
theorem insM_perm (lt : α → α → Bool) (x : α) : ∀ l, (insM lt x l).Perm (x :: l)
  | [] => List.Perm.refl _
  | y :: t => by
    unfold insM
    cases lt x y
    · exact ((insM_perm lt x t).cons y).trans (List.Perm.swap x y t)
    · exact List.Perm.refl _
theorem isortM_perm (lt : α → α → Bool) : ∀ l : List α, (isortM lt l).Perm l
  | [] => List.Perm.refl _
  | x :: t => (insM_perm lt x _).trans ((isortM_perm lt t).cons x)
structure TotalOn (lt : α → α → Bool) (xs : List α) : Prop where
  irr : ∀ x ∈ xs, lt x x = false
  tot : ∀ x ∈ xs, ∀ y ∈ xs, lt x y = false → lt y x = false → x = y
  tr : ∀ x ∈ xs, ∀ y ∈ xs, ∀ z ∈ xs, lt x y = true → lt y z = true → lt x z = true
theorem okSort_iff [DecidableEq α] {cmp : α → α → Option Int} {xs : List α} : okSort cmp xs = true ↔ TotalOn (ltM cmp) xs ∧ ∀ x ∈ xs, ∀ y ∈ xs, ∃ n, cmp x y = some n := by
  unfold okSort
  simp only [List.all_eq_true, Bool.and_eq_true, Bool.or_eq_true, Bool.not_eq_true', decide_eq_true_eq, Option.isSome_iff_exists]
  constructor
  · intro h
    refine ⟨⟨fun x hx => (h x hx).1, fun x hx y hy h1 h2 => ?_, fun x hx y hy z hz h1 h2 => ?_⟩, fun x hx y hy => ((h x hx).2 y hy).1.1⟩
    · rcases ((h x hx).2 y hy).1.2 with (h3 | h3) | h3
      · rw [h1] at h3; cases h3
      · rw [h2] at h3; cases h3
      · exact h3
    · rcases ((h x hx).2 y hy).2 z hz with h3 | h3
      · rw [h1, h2] at h3; cases h3
      · exact h3
  · rintro ⟨⟨h1, h2, h3⟩, h4⟩ x hx
    refine ⟨h1 x hx, fun y hy => ⟨⟨h4 x hx y hy, ?_⟩, fun z hz => ?_⟩⟩
    · cases h5 : ltM cmp x y
      · cases h6 : ltM cmp y x
        · exact .inr (h2 x hx y hy h5 h6)
        · exact .inl (.inr rfl)
      · exact .inl (.inl rfl)
    · cases h5 : ltM cmp x y
      · exact .inl rfl
      · cases h6 : ltM cmp y z
        · exact .inl rfl
        · exact .inr (h3 x hx y hy z hz h5 h6)
theorem TotalOn.ntrans {lt : α → α → Bool} {xs : List α} (T : TotalOn lt xs) {x y z : α} (hx : x ∈ xs) (hy : y ∈ xs) (hz : z ∈ xs) (h1 : lt x y = false) (h2 : lt y z = false) : lt x z = false := by
  cases h3 : lt x z
  · rfl
  · cases h4 : lt y x
    · have := T.tot x hx y hy h1 h4; subst this; rw [h3] at h2; cases h2
    · have := T.tr y hy x hx z hz h4 h3; rw [this] at h2; cases h2
theorem insM_sorted {lt : α → α → Bool} {xs : List α} (T : TotalOn lt xs) {x : α} (hx : x ∈ xs) : ∀ l : List α, (∀ y ∈ l, y ∈ xs) → l.Pairwise (fun a b => lt b a = false) → (insM lt x l).Pairwise (fun a b => lt b a = false)
  | [], _, _ => by simp [insM]
  | y :: t, hl, hp => by
    unfold insM
    have hy := hl y (by simp)
    cases h : lt x y
    · rw [cond_false, List.pairwise_cons]
      have hp' := List.pairwise_cons.1 hp
      refine ⟨fun z hz => ?_, insM_sorted T hx t (fun z hz => hl z (by simp [hz])) hp'.2⟩
      rcases List.mem_cons.1 ((insM_perm lt x t).mem_iff.1 hz) with e | hz
      · subst e; exact h
      · exact hp'.1 z hz
    · rw [cond_true, List.pairwise_cons]
      refine ⟨fun z hz => ?_, hp⟩
      have hyx : lt y x = false := by
        cases h' : lt y x
        · rfl
        · have := T.tr x hx y hy x hx h h'; rw [T.irr x hx] at this; cases this
      rcases List.mem_cons.1 hz with e | hz'
      · subst e; exact hyx
      · exact T.ntrans (hl z (by simp [hz'])) hy hx ((List.pairwise_cons.1 hp).1 z hz') hyx
theorem isortM_sorted {lt : α → α → Bool} {xs : List α} (T : TotalOn lt xs) : ∀ l : List α, (∀ y ∈ l, y ∈ xs) → (isortM lt l).Pairwise (fun a b => lt b a = false)
  | [], _ => by simp [isortM]
  | x :: t, hl => insM_sorted T (hl x (by simp)) _ (fun y hy => hl y (by simp [(isortM_perm lt t).mem_iff.1 hy])) (isortM_sorted T t fun y hy => hl y (by simp [hy]))
/-- there is one sorted permutation -/
theorem isortM_unique {lt : α → α → Bool} {xs ys : List α} (T : TotalOn lt xs) (hp : ys.Perm xs) (hs : ys.Pairwise (fun a b => lt b a = false)) : ys = isortM lt xs := by
  refine List.Perm.eq_of_pairwise (le := fun x y => (!lt y x) = true) ?_ ?_ ?_ (hp.trans (isortM_perm lt xs).symm)
  · intro a b ha hb h1 h2
    simp only [Bool.not_eq_true'] at h1 h2
    exact T.tot a (hp.mem_iff.1 ha) b (by simpa [(isortM_perm lt xs).mem_iff] using hb) h2 h1
  · exact hs.imp (by simp)
  · exact (isortM_sorted T xs fun _ h => h).imp (by simp)
theorem sortM_len [DecidableEq α] {cmp : α → α → Option Int} {xs ys : List α} (h : sortM cmp xs = some ys) : ys.length = xs.length := by
  unfold sortM at h
  cases he : okSort cmp xs
  · rw [he] at h; cases h
  · rw [he] at h; rw [← Option.some.inj h]; exact (isortM_perm _ _).length_eq
end sortm

theorem Ext.grow {w w' : World} (h : Ext w w') : ∃ q os, w' = Go.Sort.grow (w.drewN q) os := by
  refine ⟨w'.drawn - w.drawn, w'.heap.extract w.heap.size w'.heap.size, ?_⟩
  obtain ⟨h1, h2, h3, h4, h5, h6⟩ := h
  cases w with | mk heap tape drawn os output => cases w' with | mk heap' tape' drawn' os' output' =>
  simp only at h1 h2 h3 h4 h5 h6
  subst h1; subst h2; subst h3
  simp only [Go.Sort.grow, World.drewN, World.mk.injEq, true_and, and_true]
  refine ⟨?_, by omega⟩
  apply Array.ext_getElem?
  intro k
  by_cases hk : k < heap.size
  · rw [Array.getElem?_append_left hk, h5 k hk]
  · rw [Array.getElem?_append_right (by omega), Array.getElem?_extract]
    by_cases hk' : k < heap'.size
    · rw [if_pos (by omega)]; congr 1; omega
    · rw [if_neg (by omega), Array.getElem?_eq_none (by omega)]

section
variable {α : Type} {q : Rp α} {w w' : World} {O : List Nat}
theorem Els.one1 (hq : q.n = 1) : ∀ {cs : List Value} {xs : List α}, Els q w O cs xs → cs.length = xs.length ∧ ∀ j (h1 : j < cs.length) (h2 : j < xs.length), q.rd w O [cs[j]] xs[j] := by
  intro cs xs h
  have hl : cs.length = xs.length := by rw [h.len, hq, Nat.mul_one]
  refine ⟨hl, fun j h1 h2 => ?_⟩
  have := h.get j h2
  rw [hq, Nat.mul_one] at this
  rw [show [cs[j]] = (cs.drop j).take 1 from by rw [List.drop_eq_getElem_cons h1]; rfl]
  exact this
theorem Els.of_one (hq : q.n = 1) : ∀ {cs : List Value} {xs : List α}, cs.length = xs.length → (∀ j (h1 : j < cs.length) (h2 : j < xs.length), q.rd w O [cs[j]] xs[j]) → Els q w O cs xs
  | [], [], _, _ => rfl
  | c :: cs, x :: xs, hl, h => ⟨[c], cs, rfl, h 0 (by simp) (by simp), Els.of_one hq (by simpa using hl) fun j h1 h2 => h (j + 1) (by simp [h1]) (by simp [h2])⟩
end

theorem Fn.of_calls {P : Program} {f : FuncId} {args : List Value} {w : World} {R : Value → World → Prop} (h : Calls P f args.toArray w fun e w' => ∃ v, e = .returned v ∧ R v w') : Fn P f args w R := by
  unfold Fn; rw [FW_none]; exact callsIn_wide.2 h
section op
variable {P : Program} {r : Option Nat} {ρ : Env} {w : World} {z : Zx} {O0 : List Nat} {bs : Ents} {V : Value → World → Prop} {d : Option Nat} {ty : TypeId} {pos : String} {aft : Array Edge} {g : Option (Nat × Bool)}
variable {α : Type} [DecidableEq α] {q : Rp α}
/-- what the sort hands its comparison: a value, and what it reads as -/
abbrev Sd (q : Rp α) (w : World) (O : List Nat) (xs : List α) := { p : Value × α // q.rd w O [p.1] p.2 ∧ p.2 ∈ xs }
theorem sort_fn {ρs : Ren} (L : SlLaysF.n6 P ρs) (hq : q.n = 1) {e : TypeId} {f : Nat} {caps : Array Value}
    (hf : ∀ (args : Array Value) (w : World), (callFunc f args).run P w = .ok (.enter f args) w) (hs : St z O0 w bs) {i c : Nat} {kk : Option Nat} {o : Obj} {a : Option Addr} {xs ys : List α} (hi : bs[i]? = some (kk, o)) (gs : Gs q e w (ks bs O0) a c xs kk o)
    {cmp : α → α → Option Int} (hF : CallsTo2 P w (ks bs O0) (.func (.func f) #[] caps) (vC q) (vC q) (vI .i64) cmp) (hm : sortM cmp xs = some ys) (hsz : xs.length < 4611686018427387904) :
    Fn P (ρs.f 6) [.slice a xs.length c, .func (.func f) #[] caps] w fun v w' => v = .tuple #[] ∧ ∃ o', St z O0 w' (bs.set i (kk, o')) ∧ Step (ks bs O0) w (ks (bs.set i (kk, o')) O0) w' ∧ Gs q e w' (ks (bs.set i (kk, o')) O0) a c ys kk o' := by
  have hok : okSort cmp xs = true := by
    unfold sortM at hm; cases h : okSort cmp xs
    · rw [h] at hm; cases hm
    · rfl
  have hys : ys = isortM (ltM cmp) xs := by unfold sortM at hm; rw [hok] at hm; exact (Option.some.inj hm).symm
  obtain ⟨T, htot⟩ := okSort_iff.1 hok
  have hset : bs.set i (kk, o) = bs := by
    obtain ⟨h, e⟩ := List.getElem?_eq_some_iff.1 hi
    rw [← e, List.set_getElem_self]
  cases xs with
  | nil =>
    have he : ys = [] := hys
    subst he
    have := AnyF.slices_SortFunc_none (P := P) (ρ := ρs) { L with } a c (.func (.func f) #[] caps) w
    refine Fn.mono (R := fun v w' => v = .tuple #[] ∧ w' = w) (Fn.of_calls (Calls.mono this ?_)) ?_
    · rintro e w' ⟨rfl, rfl⟩; exact ⟨_, rfl, rfl, rfl⟩
    · rintro v w' ⟨rfl, rfl⟩
      exact ⟨rfl, o, by rw [hset]; exact ⟨hs, Step.refl _ _, gs⟩⟩
  | cons x0 xt =>
    obtain ⟨xs, hxs⟩ : ∃ xs, xs = x0 :: xt := ⟨_, rfl⟩
    rw [← hxs] at hm hok hys T htot hsz gs ⊢
    rcases gs with ⟨_, _, h, _⟩ | ⟨bl, cur, rfl, rfl, rfl, g4, g5, g6, g7⟩
    · rw [hxs] at h; cases h
    rw [hq, Nat.mul_one] at g4 g7
    obtain ⟨hl, hrd⟩ := g7.one1 hq
    have hcl : xs.length ≤ cur.size := by omega
    have hrd' : ∀ j (h : j < xs.length), q.rd w (ks bs O0) [cur[j]'(by omega)] xs[j] := fun j h => by
      have := hrd j (by rw [hl]; exact h) h
      simpa using this
    have x0in : 0 < xs.length := by rw [hxs]; simp
    letI : Inhabited (Sd q w (ks bs O0) xs) := ⟨⟨(cur[0]'(by omega), xs[0]), hrd' 0 x0in, List.getElem_mem _⟩⟩
    obtain ⟨D, hD⟩ : ∃ D : Array (Sd q w (ks bs O0) xs), D = Array.ofFn (n := xs.length) fun j => ⟨(cur[j.val]'(by omega), xs[j.val]), hrd' j.val j.isLt, List.getElem_mem _⟩ := ⟨_, rfl⟩
    have hDs : D.size = xs.length := by rw [hD]; simp
    obtain ⟨enc, henc⟩ : ∃ enc : Sd q w (ks bs O0) xs → Value, enc = fun p => p.1.1 := ⟨_, rfl⟩
    obtain ⟨cf, hcf⟩ : ∃ cf : Sd q w (ks bs O0) xs → Sd q w (ks bs O0) xs → Int, cf = fun p p' => (cmp p.1.2 p'.1.2).getD 0 := ⟨_, rfl⟩
    have hlt : ∀ p p', ltOf cf p p' = ltM cmp p.1.2 p'.1.2 := fun p p' => by
      unfold ltOf ltM; rw [hcf]
      obtain ⟨n, hn⟩ := htot p.1.2 p.2.2 p'.1.2 p'.2.2
      simp [hn]
    have hO : Go.Sort.SWO (ltOf cf) := ⟨fun p => by rw [hlt]; exact T.irr _ p.2.2, fun p p' p'' k1 k2 => by rw [hlt] at *; exact T.tr _ p.2.2 _ p'.2.2 _ p''.2.2 k1 k2, fun p p' p'' k1 k2 => by rw [hlt] at *; exact T.ntrans p.2.2 p'.2.2 p''.2.2 k1 k2⟩
    have hbl := hs.get hi
    have hblk : bl < w.heap.size := hs.lt (List.mem_of_getElem? hi) rfl
    have hH : Go.Sort.Holds enc w bl 0 D := by
      intro j hj
      rw [hDs] at hj
      have e1 : D[j]! = ⟨(cur[j]'(by omega), xs[j]), hrd' j hj, List.getElem_mem _⟩ := by rw [getElem!_pos D j (by omega)]; subst hD; simp
      rw [e1, henc]
      constructor
      · simp only [World.cell?, hbl, Nat.zero_add]; simp [show j < cur.size by omega]
      · simp only [World.frozen?, hbl]; simp
    have hrow : ∀ (m : Nat) (os : Array Obj) (dk : Array (Sd q w (ks bs O0) xs)), dk.size = D.size →
        Loc [bl] w (sortWorld enc w bl 0 m dk os) ∧ (sortWorld enc w bl 0 m dk os).heap[bl]? = some (.cells (Go.Sort.putCells enc 0 dk cur) e (0, 0)) := by
      intro m os dk hdk
      have hsz' : (Go.Sort.mapBlock (Go.Sort.ahead w m) bl (Go.Sort.putCells enc 0 dk)).heap.size = w.heap.size := by simp [Go.Sort.mapBlock, Go.Sort.ahead]
      constructor
      · refine ⟨rfl, rfl, rfl, ?_, fun k hk hn => ?_, ?_⟩
        · simp only [sortWorld, Go.Sort.grow, Go.Sort.putRow, Array.size_append, hsz']; omega
        · simp only [sortWorld, Go.Sort.grow, Go.Sort.putRow]
          rw [Array.getElem?_append_left (by rw [hsz']; exact hk)]
          simp only [Go.Sort.mapBlock, Go.Sort.ahead, Array.getElem?_modify]
          have : ¬ bl = k := fun e => hn (by simp [e])
          simp [this]
        · simp only [sortWorld, Go.Sort.grow, Go.Sort.putRow, Go.Sort.mapBlock, Go.Sort.ahead]; omega
      · simp only [sortWorld, Go.Sort.grow, Go.Sort.putRow]
        rw [Array.getElem?_append_left (by rw [hsz']; exact hblk)]
        simp only [Go.Sort.mapBlock, Go.Sort.ahead, Array.getElem?_modify, if_true, hbl, Option.map_some, Go.Sort.onCells]
    have hkey : bl ∈ ks bs O0 := mem_ks.2 (.inl (mem_keys.2 ⟨_, List.mem_of_getElem? hi, rfl⟩))
    have hcmp : CmpLays1 P f caps enc cf bl 0 D.size w := by
      intro m os dk hdk p p'
      obtain ⟨hl1, hl2⟩ := hrow m os dk hdk
      have hst : Step (ks bs O0) w (ks bs O0) (sortWorld enc w bl 0 m dk os) := Step.of_loc hl1 (by rintro k hk; simp at hk; subst hk; exact hkey) fun k hk => .inl hk
      obtain ⟨n, hn⟩ := htot p.1.2 p.2.2 p'.1.2 p'.2.2
      have := hF _ _ hst (fun k hk => Nat.lt_of_lt_of_le (hs.ltw k hk) hl1.size) p.1.1 p'.1.1 p.1.2 p'.1.2 n ((vC q).step hst p.2.1) ((vC q).step hst p'.2.1) hn
      obtain ⟨f', first, cap, hv, _, hfn⟩ := this
      cases hv
      have hc := hfn.calls
      refine Calls.mono ?_ ?_ (R := fun e w' => ∃ v, e = .returned v ∧ Ext (sortWorld enc w bl 0 m dk os) w' ∧ (vI .i64).vd w' (ks bs O0) v n)
      · have e1 : ((#[] : Array Value).toList ++ [p.1.1, p'.1.1] ++ caps.toList).toArray = #[enc p, enc p'] ++ caps := by rw [henc]; apply Array.ext'; simp
        rw [e1] at hc; exact hc
      · rintro e w' ⟨v, rfl, hx, hv⟩
        refine ⟨?_, hx.grow⟩
        have hv' : v = .int .i64 n := hv.1
        rw [hv', hcf]; simp [hn]
    have := Any.slices_SortFunc (P := P) (ρ := ρs) L enc (fun p => by rw [henc]; exact q.one p.2.1 p.1.1 (by simp)) cf hO f caps bl 0 c D w hf hcmp hH hblk (by rw [hDs]; exact hsz)
    rw [hDs] at this
    refine Fn.of_calls (Calls.mono this ?_)
    rintro e' w' ⟨rfl, d', n, os, hp, hso, rfl⟩
    refine ⟨_, rfl, rfl, .cells (Go.Sort.putCells enc 0 d' cur) e (0, 0), ?_⟩
    obtain ⟨hd1, _, hd3⟩ := hp
    rw [hDs] at hd1
    obtain ⟨hl1, hl2⟩ := hrow n os d' (by rw [hDs]; exact hd1)
    have ho : ∀ j, j < w.heap.size → some bl ≠ some j → (sortWorld enc w bl 0 n d' os).heap[j]? = w.heap[j]? := fun j hj hn => hl1.block j hj (by simp; rintro rfl; exact hn rfl)
    have hb := (hs.own _ (List.mem_of_getElem? hi) bl rfl).1
    have hst : Step (ks bs O0) w (ks (bs.set i (some bl, .cells (Go.Sort.putCells enc 0 d' cur) e (0, 0))) O0) (sortWorld enc w bl 0 n d' os) := Step.put hi hl1.size (fun j hj => .inl hj) ho
    refine ⟨hs.put hi (hs.below.trans' hl1 (by rintro k hk; simp at hk; subst hk; exact hb)) hl1.size (fun j hj => by cases hj; exact ⟨.inl rfl, hl2⟩) ho, hst, ?_⟩
    -- what the row holds
    have hex : d'.extract 0 xs.length = d' := by rw [← hd1]; exact Array.extract_size
    have hexD : D.extract 0 xs.length = D := by rw [← hDs]; exact Array.extract_size
    rw [hex, hexD] at hd3
    have hDl : D.toList.map (fun p => p.1.2) = xs := by
      apply List.ext_getElem
      · simp [hDs]
      · intro j h1 h2; subst hD; simp
    have hyl : d'.toList.map (fun p => p.1.2) = ys := by
      rw [hys]
      refine isortM_unique T ?_ ?_
      · have := hd3.map (fun p : Sd q w (ks bs O0) xs => p.1.2); rwa [hDl] at this
      · rw [List.pairwise_map, List.pairwise_iff_getElem]
        intro j k hj hk hjk
        have hj' : j < d'.size := by simpa using hj
        have hk' : k < d'.size := by simpa using hk
        have := hso j k (Nat.zero_le _) hjk (by omega)
        rw [hlt, getElem!_pos d' k hk', getElem!_pos d' j hj'] at this
        simpa using this
    have hylen : ys.length = xs.length := by rw [← hyl]; simp [hd1]
    refine .inr ⟨bl, Go.Sort.putCells enc 0 d' cur, rfl, rfl, rfl, by rw [hq, Nat.mul_one]; simp [Go.Sort.putCells, g4], by omega, g6, ?_⟩
    rw [hq, Nat.mul_one]
    refine Els.of_one hq (by simp [Go.Sort.putCells]; omega) fun j k1 k2 => ?_
    have hjx : j < d'.size := by omega
    have e1 : ((Go.Sort.putCells enc 0 d' cur).toList.take ys.length)[j] = (d'[j]'hjx).1.1 := by
      simp only [List.getElem_take, Array.getElem_toList, Go.Sort.putCells, Array.getElem_mapIdx, Nat.zero_le, Nat.zero_add, true_and, Nat.sub_zero]
      rw [if_pos hjx, getElem!_pos d' j hjx, henc]
    have e2 : ys[j] = (d'[j]'hjx).1.2 := by
      have : ∀ (l : List α) (h : l = ys) (hj : j < l.length), ys[j] = l[j] := by rintro l rfl hj; rfl
      rw [this _ hyl (by simpa using hjx)]; simp
    rw [e1, e2]
    exact q.step hst (d'[j]'hjx).2.1
/-- slices.SortFunc over a slice of one's own -/
theorem op_sortG {ρs : Ren} {k : FuncId} (L : SlLaysF.n6 P ρs) (hk : ρs.f 6 = k) (hcall : ∀ (args : Array Value) (w : World), (callFunc k args).run P w = .ok (.enter k args) w) (hq : q.n = 1) {e : TypeId} {f : Nat} {caps : Array Value}
    (hf : ∀ (args : Array Value) (w : World), (callFunc f args).run P w = .ok (.enter f args) w) (hs : St z O0 w bs) {i c : Nat} {kk : Option Nat} {o : Obj} {a : Option Addr} {xs ys : List α} (hi : bs[i]? = some (kk, o)) (gs : Gs q e w (ks bs O0) a c xs kk o)
    {cmp : α → α → Option Int} (hF : CallsTo2 P w (ks bs O0) (.func (.func f) #[] caps) (vC q) (vC q) (vI .i64) cmp) (hm : sortM cmp xs = some ys) (hsz : xs.length < 4611686018427387904)
    {args : Array Operand} {us : Array TypeId} (ha : args.toList.map (ev ρ) = [.slice a xs.length c, .func (.func f) #[] caps])
    (kont : ∀ w' o', St z O0 w' (bs.set i (kk, o')) → Step (ks bs O0) w (ks (bs.set i (kk, o')) O0) w' → Gs q e w' (ks (bs.set i (kk, o')) O0) a c ys kk o' → V (.tuple #[]) w') :
    Run1 P r ρ w ⟨d, .call ⟨.value (.func k), args, us⟩, ty, pos, aft, g⟩ V := by
  refine op_call hcall (by rw [← hk]; exact sort_fn L hq hf hs hi gs hF hm hsz) ha ?_
  rintro v w' ⟨rfl, o', h2, h3, h4⟩
  exact kont w' o' h2 h3 h4
end op
end Go.Fx


/-
  DERIVED: THE SHELF's CONTRACTS AT THIS DUMP, IN PLAIN WORDS (tools/lay-plain.mjs out of 'FxYteohplgecfdafaaSort.lean', which tools/lay-shelf.mjs wrote): THE SAME DECLARATIONS UNDER THE SAME NAMES: 'import', 'namespace', 'open', 'def', 'theorem' AND NOTHING ELSE: no command of the shelf's: FOR A HAND-IN. Each laying: the table of numbers ('.._ren') and one theorem, a field a fact of the dump's own or the kernel's comparison; each contract: ONE APPLICATION.
-/
namespace Go.Proofs
open Go.Shelf
def sortL51_ren : Go.Shelf.Ren := ⟨fun | 6 => 51 | 15 => 60 | 14 => 59 | 28 => 69 | 29 => 70 | 20 => 61 | 21 => 62 | 22 => 63 | 23 => 64 | 24 => 65 | 25 => 66 | 26 => 67 | 27 => 68 | 46 => 71 | 47 => 72 | 48 => 73 | 49 => 74 | 50 => 75 | 57 => 76 | n => n, fun | 22 => 33 | 24 => 22 | 25 => 48 | 3 => 3 | 39 => 65 | 0 => 0 | 53 => 75 | 55 => 77 | 4 => 4 | 46 => 68 | 45 => 67 | 50 => 72 | 5 => 5 | 9 => 9 | 66 => 78 | 70 => 82 | 76 => 84 | 77 => 85 | n => n, fun | n => n⟩
theorem sortL51 : Go.Proofs.SlLaysF.n6 Try.prog sortL51_ren := {
  mixed := by kernel_rfl
  f6 := ⟨Try.f51.name, by decide, Try.func51.trans (congrArg some (by kernel_rfl))⟩
  f14 := ⟨Try.f59.name, by decide, Try.func59.trans (congrArg some (by kernel_rfl))⟩
  f15 := Try.func60.trans (congrArg some (by kernel_rfl))
  f20 := ⟨Try.f61.name, by decide, Try.func61.trans (congrArg some (by kernel_rfl))⟩
  f21 := ⟨Try.f62.name, by decide, Try.func62.trans (congrArg some (by kernel_rfl))⟩
  f22 := ⟨Try.f63.name, by decide, Try.func63.trans (congrArg some (by kernel_rfl))⟩
  f23 := ⟨Try.f64.name, by decide, Try.func64.trans (congrArg some (by kernel_rfl))⟩
  f24 := ⟨Try.f65.name, by decide, Try.func65.trans (congrArg some (by kernel_rfl))⟩
  f25 := ⟨Try.f66.name, by decide, Try.func66.trans (congrArg some (by kernel_rfl))⟩
  f26 := ⟨Try.f67.name, by decide, Try.func67.trans (congrArg some (by kernel_rfl))⟩
  f27 := ⟨Try.f68.name, by decide, Try.func68.trans (congrArg some (by kernel_rfl))⟩
  f28 := Try.func69.trans (congrArg some (by kernel_rfl))
  f29 := Try.func70.trans (congrArg some (by kernel_rfl))
  f46 := ⟨Try.f71.name, by decide, Try.func71.trans (congrArg some (by kernel_rfl))⟩
  f47 := Try.func72.trans (congrArg some (by kernel_rfl))
  f48 := Try.func73.trans (congrArg some (by kernel_rfl))
  f49 := ⟨Try.f74.name, by decide, Try.func74.trans (congrArg some (by kernel_rfl))⟩
  f50 := ⟨Try.f75.name, by decide, Try.func75.trans (congrArg some (by kernel_rfl))⟩
  f57 := ⟨Try.f76.name, by decide, Try.func76.trans (congrArg some (by kernel_rfl))⟩
  t0 := Try.underlying0
  a0 := Try.isAgg0
  z0 := Try.sizeOf0
  v0 := Try.zeroValue0
  t3 := Try.underlying3
  a3 := Try.isAgg3
  z3 := Try.sizeOf3
  v3 := Try.zeroValue3
  t4 := Try.underlying4
  a4 := Try.isAgg4
  z4 := Try.sizeOf4
  v4 := Try.zeroValue4
  t5 := Try.underlying5
  a5 := Try.isAgg5
  z5 := Try.sizeOf5
  v5 := Try.zeroValue5
  t9 := Try.underlying9
  a9 := Try.isAgg9
  z9 := Try.sizeOf9
  v9 := Try.zeroValue9
  t22 := Try.underlying33
  a22 := Try.isAgg33
  z22 := Try.sizeOf33
  v22 := Try.zeroValue33
  a24 := Try.isAgg22
  z24 := Try.sizeOf22
  t25 := Try.underlying48
  a25 := Try.isAgg48
  z25 := Try.sizeOf48
  v25 := Try.zeroValue48
  t39 := Try.underlying65
  a39 := Try.isAgg65
  z39 := Try.sizeOf65
  v39 := Try.zeroValue65
  t45 := Try.underlying67
  a45 := Try.isAgg67
  z45 := Try.sizeOf67
  v45 := Try.zeroValue67
  t46 := Try.underlying68
  a46 := Try.isAgg68
  z46 := Try.sizeOf68
  v46 := Try.zeroValue68
  t50 := Try.underlying72
  a50 := Try.isAgg72
  z50 := Try.sizeOf72
  v50 := Try.zeroValue72
  t53 := Try.underlying75
  a53 := Try.isAgg75
  z53 := Try.sizeOf75
  v53 := Try.zeroValue75
  t55 := Try.underlying77
  a55 := Try.isAgg77
  z55 := Try.sizeOf77
  v55 := Try.zeroValue77
  t66 := Try.underlying78
  a66 := Try.isAgg78
  z66 := Try.sizeOf78
  v66 := Try.zeroValue78
  t70 := Try.underlying82
  a70 := Try.isAgg82
  z70 := Try.sizeOf82
  v70 := Try.zeroValue82
  t76 := Try.underlying84
  a76 := Try.isAgg84
  z76 := Try.sizeOf84
  v76 := Try.zeroValue84
  t77 := Try.underlying85
  a77 := Try.isAgg85
  z77 := Try.sizeOf85
  v77 := Try.zeroValue85 }
end Go.Proofs


set_option linter.unusedVariables false
set_option linter.unusedSimpArgs false
set_option maxRecDepth 100000
set_option maxHeartbeats 0
namespace Go.Fx
open Go Go.RowKit Go.Proofs
theorem ty22 : Ty Try.prog 22 (.slice 3) 1 24 [(.slice none 0 0)] false :=
  ⟨Try.underlying22, ⟨Try.t22, info_of Try.type22, rfl, rfl, _, rfl, rfl⟩, Try.isAgg22, rfl⟩
theorem ty3 : Ty Try.prog 3 (.int .i64) 1 8 [(.int .i64 0)] false :=
  ⟨Try.underlying3, ⟨Try.t3, info_of Try.type3, rfl, rfl, _, rfl, rfl⟩, Try.isAgg3, rfl⟩
theorem ty4 : Ty Try.prog 4 .bool 1 1 [(.bool false)] false :=
  ⟨Try.underlying4, ⟨Try.t4, info_of Try.type4, rfl, rfl, _, rfl, rfl⟩, Try.isAgg4, rfl⟩
theorem ty33 : Ty Try.prog 33 (.slice 22) 1 24 [(.slice none 0 0)] false :=
  ⟨Try.underlying33, ⟨Try.t33, info_of Try.type33, rfl, rfl, _, rfl, rfl⟩, Try.isAgg33, rfl⟩
theorem ty44 : Ty Try.prog 44 (.func #[22] #[4] false) 1 8 [.nilFunc] false :=
  ⟨Try.underlying44, ⟨Try.t44, info_of Try.type44, rfl, rfl, _, rfl, rfl⟩, Try.isAgg44, rfl⟩
theorem ty59 : Ty Try.prog 59 (.slice 33) 1 24 [(.slice none 0 0)] false :=
  ⟨Try.underlying59, ⟨Try.t59, info_of Try.type59, rfl, rfl, _, rfl, rfl⟩, Try.isAgg59, rfl⟩

end Go.Fx


/- What the arguments read as. -/
namespace Go.Fx
open Go Go.Proofs Go.ChangeShapes Go.WideShapes Go.ChangeAt Go.RowKit Go.Fx
open Go.ChangeMaps (open_string shut_string)
set_option linter.unusedVariables false
set_option maxRecDepth 100000
theorem rd3 {H : Type} {enc : TypeId × Value → H} {w : World} {base : Nat} {spare : Nat → Bool} {held : Bool} : Rd enc Try.prog w base spare held 3 (rInt .i64) (InK .i64) := Rd_int Try.underlying3 (by kernel_rfl)
theorem rd22 {H : Type} {enc : TypeId × Value → H} {w : World} {base : Nat} {spare : Nat → Bool} {held : Bool} : Rd enc Try.prog w base spare held 22 (rSl (rInt .i64)) (SmL (InK .i64)) := Rd_slice Try.underlying22 (by kernel_rfl) (by decide) (of_decide_eq_true (by kernel_rfl)) rd3
theorem rd33 {H : Type} {enc : TypeId × Value → H} {w : World} {base : Nat} {spare : Nat → Bool} {held : Bool} : Rd enc Try.prog w base spare held 33 (rSl (rSl (rInt .i64))) (SmL (SmL (InK .i64))) := Rd_slice Try.underlying33 (by kernel_rfl) (by decide) (of_decide_eq_true (by kernel_rfl)) rd22
theorem rd5 {H : Type} {enc : TypeId × Value → H} {w : World} {base : Nat} {spare : Nat → Bool} {held : Bool} : Rd enc Try.prog w base spare held 5 rU8 SmT := Rd_u8 Try.underlying5 (by kernel_rfl)
end Go.Fx


set_option linter.unusedVariables false
set_option linter.unusedSimpArgs false
set_option maxRecDepth 100000
set_option maxHeartbeats 0
namespace Go.Fx
open Go Go.RowKit Go.Proofs
def m57_slices_IndexFuncint_int__B0 (s : List Int) (f : Int → Option Bool) (sf3 : Int → Option Int) (v_1 : Int) : Option Int :=
  bif (decide (v_1 < (s.length : Int))) then
    ck ((0 : Int) ≤ v_1 ∧ v_1 < (s.length : Int)) <|
    (f (s.getD v_1.toNat default)).bind fun r_1 =>
    bif r_1 then
      some v_1
    else
      sf3 (IntKind.wrap .i64 (v_1 + 1))
  else
    some (-1)

def m57_slices_IndexFuncint_int_ (s : List Int) (f : Int → Option Bool) : Option Int :=
  loop1 (m57_slices_IndexFuncint_int__B0 s f) (((s.length : Int) - 0).toNat + 1) 0

theorem c57_slices_IndexFuncint_int_ {w : World} {O : List Nat} {s : List Int} {f : Int → Option Bool} {a_s : Option Addr} {c_s : Nat} {v_f : Value} (hO : ∀ k ∈ O, k < w.heap.size) (f_s : SlR (rInt .i64) w O a_s c_s s) (F_f : CallsTo1 Try.prog w O v_f (vI .i64) vB f) {x : Int} (hm : m57_slices_IndexFuncint_int_ s f = some x) :
    Ok Try.prog 57 [(Value.slice a_s s.length c_s), v_f] w O (vI .i64) x := by
  unfold m57_slices_IndexFuncint_int_ at hm
  refine Fn_of_Wp (n := 19) (xs := [.tmp 4]) Try.func57 rfl Try.ntmps57 Try.results57 rfl ?_
  have hs := St.start hO
  refine Wp_seq ?_
  refine Wp_region ?_  -- 0 slices.go:107
  refine Rg_op rfl (op_assign (v := (Value.int .i64 0)) rfl ?_)
  refine Rg_nil ?_
  refine Wp_seq ?_
  refine Wp_seq ?_
  refine Wp_region ?_  -- 1 slices.go:108
  refine Rg_op rfl (op_move (v := (Value.slice a_s s.length c_s)) rfl ?_)
  refine Rg_op rfl (op_len Try.underlying22 rfl ?_)
  refine Rg_op rfl (op_move (v := (Value.int .i64 0)) rfl ?_)
  refine Rg_nil ?_
  refine Wp_block ?_
  refine Wp_reset [] [(0, (Value.slice a_s s.length c_s)), (1, v_f), (7, (Value.int .i64 (s.length : Int))), (8, (Value.int .i64 0))] rfl ⟨rfl, rfl, rfl, rfl, trivial⟩ fun ξ2 => ?_
  refine Wp_loopM [4, 5, 8, 9, 10, 11, 12, 13, 14, 15, 16, 17, 18] (fun m fr w' => ∃ (v_1 : Int) (Ebs : Ents), Ebs = [] ∧ fr [] [(8, (Value.int .i64 v_1))] ∧ Step (ks [] O) w (ks Ebs O) w' ∧ St ⟨w, [], []⟩ O w' Ebs ∧ InK .i64 v_1 ∧ loop1 (m57_slices_IndexFuncint_int__B0 s f) m v_1 = some x) (((s.length : Int) - 0).toNat + 1) ⟨0, _, rfl, ⟨Out.refl _ _, rfl, rfl, trivial⟩, Step.refl _ _, hs, (show InK .i64 0 from by decide), hm⟩ ?_ ?_
  · rintro _ _ ⟨_, _, _, _, _, _, _, hm⟩; exact loop1_z hm
  · rintro m6 K5 hK5 ρ11 w7 ⟨v_1, Ebs, hEbs, hfr10, hst9, hs8, r_y1, hm⟩
    obtain ⟨sf3, hsf4, hm⟩ := loop1_s hm; unfold m57_slices_IndexFuncint_int__B0 at hm
    subst hEbs; rw [hfr10.eq]; clear hfr10
    replace f_s := f_s.step hst9
    replace F_f := F_f.step hst9
    have ch12 := hst9
    refine Wp_seq ?_
    refine Wp_region ?_  -- 2 slices.go:108
    refine Rg_op rfl (op_lss rfl rfl ?_)
    refine Rg_nil ?_
    refine Wp_seq ?_
    refine Wp_cond rfl (fun hc13 => ?_) (fun hc13 => ?_)
    ·
      replace hm := bif_t hm hc13
      refine Wp_skip ?_
      refine Wp_seq ?_
      refine Wp_block ?_
      refine Wp_seq ?_
      refine Wp_region ?_  -- 3 slices.go:108
      refine Rg_op rfl (op_move (v := (Value.int .i64 v_1)) rfl ?_)
      refine Rg_op rfl (op_assign (v := (Value.int .i64 v_1)) rfl ?_)
      refine Rg_nil ?_
      refine Wp_seq ?_
      refine Wp_region ?_  -- 4 slices.go:109
      refine Rg_op rfl (op_move (v := v_f) rfl ?_)
      refine Rg_op rfl (op_move (v := (Value.slice a_s s.length c_s)) rfl ?_)
      refine Rg_op rfl (op_move (v := (Value.int .i64 v_1)) rfl ?_)
      replace hm := ck_some hm; obtain ⟨hc14, hm⟩ := hm
      refine Rg_op rfl (op_indexAddr (q := (rInt .i64)) ty22 ty3 rfl rfl f_s rfl hc14.1 hc14.2 ?_)
      intro p15 f16
      refine Rg_op rfl (op_loadP ty3 rfl f16 rfl ?_)
      intro v17 h18
      obtain ⟨rfl, r_y19⟩ := un_int h18
      replace hm := bd hm; obtain ⟨r_1, hv20, hm⟩ := hm
      refine Rg_op rfl (op_callF rfl (F_f.call hs8.ltw ⟨rfl, r_y19⟩ hv20) rfl ?_)
      rintro v21 w22 ⟨hx23, h24⟩
      have hs25 := hs8.call hx23
      have p26 := Step.ext (O := ks [] O) hx23
      clear hx23
      replace f_s := f_s.step p26
      replace F_f := F_f.step p26
      replace f16 := f16.step p26
      replace ch12 := ch12.trans p26
      clear p26 hs8
      obtain rfl := h24
      refine Rg_nil ?_
      refine Wp_cond rfl (fun hc28 => ?_) (fun hc28 => ?_)
      ·
        replace hm := bif_t hm hc28
        refine Wp_seq ?_
        clear f_s F_f f16
        refine Wp_region ?_  -- 5 slices.go:110
        refine Rg_op rfl (op_move (v := (Value.int .i64 v_1)) rfl ?_)
        refine Rg_op rfl (op_assign (v := (Value.int .i64 v_1)) rfl ?_)
        refine Rg_nil ?_
        refine Wp_ret ?_
        have hz := step_all hs25
        refine ⟨_, (show Closes [] _ _ from rfl), [(Value.int .i64 v_1)], ⟨rfl, trivial⟩, hs25.ext, ?_⟩
        exact Vr.eq (a := (vI .i64)) (x := v_1) ⟨rfl, r_y1⟩ (Option.some.inj hm)
      ·
        replace hm := bif_f hm hc28
        refine Wp_skip ?_
        clear f16
        refine Wp_region ?_  -- 6 slices.go:108
        refine Rg_op rfl (op_addw rfl rfl ?_)
        refine Rg_op rfl (op_move (v := (Value.int .i64 (IntKind.wrap .i64 (v_1 + 1)))) rfl ?_)
        refine Rg_nil ?_
        exact hK5 _ _ ⟨(IntKind.wrap .i64 (v_1 + 1)), _, rfl, ⟨(by repeat (first | with_reducible exact Out.refl _ _ | refine Out.upd ?_ rfl | refine Out.updL ?_ rfl | refine Out.mix' ?_ rfl | exact Out.refl _ _)), rfl, rfl, trivial⟩, ch12, hs25, (inK_wrap .i64 _), jnE1 hsf4 hm⟩
    ·
      replace hm := bif_f hm hc13
      refine Wp_exit ?_
      refine Wp_seq ?_
      clear f_s F_f
      refine Wp_region ?_  -- 7 slices.go:113
      refine Rg_op rfl (op_assign (v := (Value.int .i64 (-1))) rfl ?_)
      refine Rg_nil ?_
      refine Wp_ret ?_
      have hz := step_all hs8
      refine ⟨_, (show Closes [] _ _ from rfl), [(Value.int .i64 (-1))], ⟨rfl, trivial⟩, hs8.ext, ?_⟩
      exact Vr.eq (a := (vI .i64)) (x := (-1)) ⟨rfl, (show InK .i64 (-1) from by decide)⟩ (Option.some.inj hm)

end Go.Fx


set_option linter.unusedVariables false
set_option linter.unusedSimpArgs false
set_option maxRecDepth 100000
set_option maxHeartbeats 0
namespace Go.Fx
open Go Go.RowKit Go.Proofs
def m45_slices_ContainsFuncint_int_ (s : List Int) (f : Int → Option Bool) : Option Bool :=
  (m57_slices_IndexFuncint_int_ s f).bind fun indexfunc_1 =>
  some (decide (0 ≤ indexfunc_1))

theorem c45_slices_ContainsFuncint_int_ {w : World} {O : List Nat} {s : List Int} {f : Int → Option Bool} {a_s : Option Addr} {c_s : Nat} {v_f : Value} (hO : ∀ k ∈ O, k < w.heap.size) (f_s : SlR (rInt .i64) w O a_s c_s s) (F_f : CallsTo1 Try.prog w O v_f (vI .i64) vB f) {x : Bool} (hm : m45_slices_ContainsFuncint_int_ s f = some x) :
    Ok Try.prog 45 [(Value.slice a_s s.length c_s), v_f] w O vB x := by
  unfold m45_slices_ContainsFuncint_int_ at hm
  refine Fn_of_Wp (n := 9) (xs := [.tmp 4]) Try.func45 rfl Try.ntmps45 Try.results45 rfl ?_
  have hs := St.start hO
  refine Wp_seq ?_
  refine Wp_region ?_  -- 0 slices.go:124
  refine Rg_op rfl (op_assign (v := (Value.bool false)) rfl ?_)
  refine Rg_nil ?_
  refine Wp_seq ?_
  refine Wp_region ?_  -- 1 slices.go:125
  refine Rg_op rfl (op_move (v := (Value.slice a_s s.length c_s)) rfl ?_)
  refine Rg_op rfl (op_move (v := v_f) rfl ?_)
  replace hm := bd hm; obtain ⟨indexfunc_1, hv1, hm⟩ := hm
  refine Rg_op rfl (op_call Try.call57 (c57_slices_IndexFuncint_int_ (s := s) (f := f) hs.ltw f_s F_f hv1) rfl ?_)
  rintro v2 w3 ⟨hx4, h5⟩
  have hs6 := hs.call hx4
  have p7 := Step.ext (O := ks [] O) hx4
  clear hx4
  replace f_s := f_s.step p7
  replace F_f := F_f.step p7
  clear p7
  obtain ⟨rfl, r_y8⟩ := h5
  refine Rg_op rfl (op_geq rfl rfl ?_)
  refine Rg_op rfl (op_assign (v := (Value.bool (decide (0 ≤ indexfunc_1)))) rfl ?_)
  refine Rg_nil ?_
  refine Wp_ret ?_
  have hz := step_all hs6
  replace f_s := f_s.step hz
  replace F_f := F_f.step hz
  refine ⟨_, (show Closes [] _ _ from rfl), [(Value.bool (decide (0 ≤ indexfunc_1)))], ⟨rfl, trivial⟩, hs6.ext, ?_⟩
  exact Vr.eq (a := vB) (x := (decide (0 ≤ indexfunc_1))) rfl (Option.some.inj hm)

end Go.Fx


set_option linter.unusedVariables false
set_option linter.unusedSimpArgs false
set_option maxRecDepth 100000
set_option maxHeartbeats 0
namespace Go.Fx
open Go Go.RowKit Go.Proofs
def m46_vector_small_1 (n : Int) : Option Bool :=
  bif (decide (n < (-1152921504606846976))) then
    some true
  else
    some (decide (1152921504606846976 < n))

theorem c46_vector_small_1 {w : World} {O : List Nat} {n : Int} (hO : ∀ k ∈ O, k < w.heap.size) (r_n : InK .i64 n) {x : Bool} (hm : m46_vector_small_1 n = some x) :
    Ok Try.prog 46 [(Value.int .i64 n)] w O vB x := by
  unfold m46_vector_small_1 at hm
  refine Fn_of_Wp (n := 9) (xs := [.tmp 2]) Try.func46 rfl Try.ntmps46 Try.results46 rfl ?_
  have hs := St.start hO
  refine Wp_seq ?_
  refine Wp_region ?_  -- 0 vector.go:28
  refine Rg_op rfl (op_assign (v := (Value.bool false)) rfl ?_)
  refine Rg_nil ?_
  refine Wp_seq ?_
  refine Wp_region ?_  -- 1 vector.go:28
  refine Rg_op rfl (op_move (v := (Value.int .i64 n)) rfl ?_)
  refine Rg_op rfl (op_lss rfl rfl ?_)
  refine Rg_op rfl (op_move (v := (Value.bool (decide (n < (-1152921504606846976))))) rfl ?_)
  refine Rg_case (fun hg1 => ?_) (fun hg1 => ?_)
  ·
    replace hm := bif_t hm hg1
    refine Rg_opx rfl (asB_ne rfl rfl) rfl ?_
    refine Rg_opx rfl (asB_ne rfl rfl) rfl ?_
    refine Rg_op rfl (op_pick_t (v := (Value.bool true)) rfl rfl ?_)
    refine Rg_op rfl (op_assign (v := (Value.bool true)) rfl ?_)
    refine Rg_nil ?_
    refine Wp_ret ?_
    have hz := step_all hs
    refine ⟨_, (show Closes [] _ _ from rfl), [(Value.bool true)], ⟨rfl, trivial⟩, hs.ext, ?_⟩
    exact Vr.eq (a := vB) (x := true) rfl (Option.some.inj hm)
  ·
    replace hm := bif_f hm hg1
    refine Rg_opg rfl rfl rfl (op_move (v := (Value.int .i64 n)) rfl ?_)
    refine Rg_opg rfl rfl rfl (op_gtr rfl rfl ?_)
    refine Rg_op rfl (op_pick_f (v := (Value.bool (decide (1152921504606846976 < n)))) rfl rfl ?_)
    refine Rg_op rfl (op_assign (v := (Value.bool (decide (1152921504606846976 < n)))) rfl ?_)
    refine Rg_nil ?_
    refine Wp_ret ?_
    have hz := step_all hs
    refine ⟨_, (show Closes [] _ _ from rfl), [(Value.bool (decide (1152921504606846976 < n)))], ⟨rfl, trivial⟩, hs.ext, ?_⟩
    exact Vr.eq (a := vB) (x := (decide (1152921504606846976 < n))) rfl (Option.some.inj hm)

end Go.Fx


set_option linter.unusedVariables false
set_option linter.unusedSimpArgs false
set_option maxRecDepth 100000
set_option maxHeartbeats 0
namespace Go.Fx
open Go Go.RowKit Go.Proofs
def m29_vector_small (a : List Int) : Option Bool :=
  (m45_slices_ContainsFuncint_int_ a (fun x12 => m46_vector_small_1 x12)).bind fun containsfunc_1 =>
  some (!containsfunc_1)

theorem c29_vector_small {w : World} {O : List Nat} {a : List Int} {a_a : Option Addr} {c_a : Nat} (hO : ∀ k ∈ O, k < w.heap.size) (f_a : SlR (rInt .i64) w O a_a c_a a) {x : Bool} (hm : m29_vector_small a = some x) :
    Ok Try.prog 29 [(Value.slice a_a a.length c_a)] w O vB x := by
  unfold m29_vector_small at hm
  refine Fn_of_Wp (n := 6) (xs := [.tmp 2]) Try.func29 rfl Try.ntmps29 Try.results29 rfl ?_
  have hs := St.start hO
  refine Wp_seq ?_
  refine Wp_region ?_  -- 0 vector.go:27
  refine Rg_op rfl (op_assign (v := (Value.bool false)) rfl ?_)
  refine Rg_nil ?_
  refine Wp_seq ?_
  refine Wp_region ?_  -- 1 vector.go:28
  refine Rg_op rfl (op_move (v := (Value.slice a_a a.length c_a)) rfl ?_)
  have F2 : CallsTo1 Try.prog w (ks [] O) (Value.func (.func 46) #[] #[]) (vI .i64) vB (fun x1 => m46_vector_small_1 x1) := by
    intro w3 O4 st5 hO6 v9 x1 y7 h10 hy8
    obtain ⟨rfl, r_y11⟩ := h10
    exact ⟨46, #[], #[], rfl, Try.call46, c46_vector_small_1 (n := x1) hO6 r_y11 hy8⟩
  have F13 : CallsTo1 Try.prog w (ks [] O) (Value.func (.func 46) #[] #[]) (vI .i64) vB (fun x12 => m46_vector_small_1 x12) := by
    intro w14 O15 st16 hO17 v20 x12 y18 h21 hy19
    obtain ⟨rfl, r_y22⟩ := h21
    exact ⟨46, #[], #[], rfl, Try.call46, c46_vector_small_1 (n := x12) hO17 r_y22 hy19⟩
  replace hm := bd hm; obtain ⟨containsfunc_1, hv23, hm⟩ := hm
  have F30 : CallsTo1 Try.prog w (ks [] O) (Value.func (.func 46) #[] #[]) (vI .i64) vB (fun x29 => m46_vector_small_1 x29) := by
    intro w31 O32 st33 hO34 v37 x29 y35 h38 hy36
    obtain ⟨rfl, r_y39⟩ := h38
    exact ⟨46, #[], #[], rfl, Try.call46, c46_vector_small_1 (n := x29) hO34 r_y39 hy36⟩
  refine Rg_op rfl (op_call Try.call45 (c45_slices_ContainsFuncint_int_ (s := a) (f := (fun x12 => m46_vector_small_1 x12)) hs.ltw f_a F13 hv23) rfl ?_)
  rintro v24 w25 ⟨hx26, h27⟩
  have hs28 := hs.call hx26
  have p40 := Step.ext (O := ks [] O) hx26
  clear hx26
  replace f_a := f_a.step p40
  replace F2 := F2.step p40
  replace F13 := F13.step p40
  replace F30 := F30.step p40
  clear p40
  obtain rfl := h27
  refine Rg_op rfl (op_not rfl ?_)
  refine Rg_op rfl (op_assign (v := (Value.bool (!containsfunc_1))) rfl ?_)
  refine Rg_nil ?_
  refine Wp_ret ?_
  have hz := step_all hs28
  replace f_a := f_a.step hz
  replace F2 := F2.step hz
  replace F13 := F13.step hz
  replace F30 := F30.step hz
  refine ⟨_, (show Closes [] _ _ from rfl), [(Value.bool (!containsfunc_1))], ⟨rfl, trivial⟩, hs28.ext, ?_⟩
  exact Vr.eq (a := vB) (x := (!containsfunc_1)) rfl (Option.some.inj hm)

end Go.Fx


set_option linter.unusedVariables false
set_option linter.unusedSimpArgs false
set_option maxRecDepth 100000
set_option maxHeartbeats 0
namespace Go.Fx
open Go Go.RowKit Go.Proofs
def m47_vector_pairs_1_B0 (fv0_ : List Int) (fv1_ : List Int) (sf13 : Int → Option (List (Int × Int))) (v_1 : Int) : Option (List (Int × Int)) :=
  bif (decide (v_1 < (fv0_.length : Int))) then
    ck ((0 : Int) ≤ v_1 ∧ v_1 < (fv0_.length : Int)) <|
    ck ((0 : Int) ≤ v_1 ∧ v_1 < (fv1_.length : Int)) <|
    yl ((fv0_.getD v_1.toNat default), (fv1_.getD v_1.toNat default)) (
    sf13 (IntKind.wrap .i64 (v_1 + 1)))
  else
    some ([] : List (Int × Int))

def m47_vector_pairs_1 (fv0_ : List Int) (fv1_ : List Int) : Option (List (Int × Int)) :=
  loop1 (m47_vector_pairs_1_B0 fv0_ fv1_) (((fv0_.length : Int) - 0).toNat + 1) 0

theorem c47_vector_pairs_1 {w : World} {O : List Nat} {fv0_ : List Int} {fv1_ : List Int} {p_fv0_ : Addr} {p_fv1_ : Addr} (hO : ∀ k ∈ O, k < w.heap.size) (f_fv0_ : PtR (rSl (rInt .i64)) w O p_fv0_ fv0_) (f_fv1_ : PtR (rSl (rInt .i64)) w O p_fv1_ fv1_) {L : List (Int × Int)} (hm : m47_vector_pairs_1 fv0_ fv1_ = some L) :
    IterF Try.prog w O 47 [(Value.pointer (some p_fv0_)), (Value.pointer (some p_fv1_))] (enc2 (vI .i64) (vI .i64)) L := by
  unfold m47_vector_pairs_1 at hm
  obtain ⟨x, hm, hL⟩ : ∃ x, _ = some x ∧ L = [] ++ x := ⟨L, hm, rfl⟩
  intro w1 O1 hst0 hO1 l J Jx hJ hJx hY h0
  replace f_fv0_ := f_fv0_.step hst0
  replace f_fv1_ := f_fv1_.step hst0
  refine Fn_of_Wp (n := 22) (xs := []) Try.func47 rfl Try.ntmps47 Try.results47 rfl ?_
  have hs := St.start hO1
  have hI := Itr.start h0
  refine Wp_seq ?_
  refine Wp_region ?_  -- 0 vector.go:19
  refine Rg_op rfl (op_loadP ty22 rfl f_fv0_ rfl ?_)
  intro v1 h2
  obtain ⟨a_y3, c_y3, rfl, f_y3⟩ := un_sl h2
  refine Rg_op rfl (op_len Try.underlying22 rfl ?_)
  refine Rg_op rfl (op_move (v := (Value.int .i64 0)) rfl ?_)
  refine Rg_nil ?_
  refine Wp_block ?_
  refine Wp_reset [] [(0, (Value.func (.yield l) #[] #[])), (1, (Value.pointer (some p_fv0_))), (2, (Value.pointer (some p_fv1_))), (6, (Value.int .i64 (fv0_.length : Int))), (7, (Value.int .i64 0))] rfl ⟨rfl, rfl, rfl, rfl, rfl, trivial⟩ fun ξ12 => ?_
  refine Wp_loopM [4, 7, 8, 9, 10, 11, 12, 13, 14, 15, 16, 17, 18, 19, 20, 21] (fun m fr w' => ∃ (v_1 : Int) (xr5 pre6 : List (Int × Int)) (wz7 : World) (Kz8 Oz9 : List Nat) (Ebs : Ents), Ebs = [] ∧ fr [] [(7, (Value.int .i64 v_1))] ∧ Step (ks [] O1) w1 (ks Ebs Oz9) w' ∧ St ⟨wz7, Kz8, []⟩ Oz9 w' Ebs ∧ InK .i64 v_1 ∧ Itr J pre6 ⟨wz7, Kz8, []⟩ Oz9 ∧ L = pre6 ++ xr5 ∧ loop1 (m47_vector_pairs_1_B0 fv0_ fv1_) m v_1 = some xr5) (((fv0_.length : Int) - 0).toNat + 1) ⟨0, x, ([] : List _), w1, [], O1, _, rfl, ⟨Out.refl _ _, rfl, rfl, trivial⟩, Step.refl _ _, hs, (show InK .i64 0 from by decide), hI, hL, hm⟩ ?_ ?_
  · rintro _ _ ⟨_, _, _, _, _, _, _, _, _, _, _, _, _, _, hm⟩; exact loop1_z hm
  · rintro m16 K15 hK15 ρ21 w17 ⟨v_1, xr5, pre6, wz7, Kz8, Oz9, Ebs, hEbs, hfr20, hst19, hs18, r_y4, hI10, hL11, hm⟩
    obtain ⟨sf13, hsf14, hm⟩ := loop1_s hm; unfold m47_vector_pairs_1_B0 at hm
    subst hEbs; rw [hfr20.eq]; clear hfr20
    replace f_fv0_ := f_fv0_.step hst19
    replace f_fv1_ := f_fv1_.step hst19
    replace f_y3 := f_y3.step hst19
    have ch22 := hst19
    refine Wp_seq ?_
    clear f_y3
    refine Wp_region ?_  -- 1 vector.go:19
    refine Rg_op rfl (op_lss rfl rfl ?_)
    refine Rg_nil ?_
    refine Wp_seq ?_
    refine Wp_cond rfl (fun hc23 => ?_) (fun hc23 => ?_)
    ·
      replace hm := bif_t hm hc23
      refine Wp_skip ?_
      refine Wp_seq ?_
      refine Wp_block ?_
      refine Wp_seq ?_
      refine Wp_region ?_  -- 2 vector.go:19
      refine Rg_op rfl (op_move (v := (Value.int .i64 v_1)) rfl ?_)
      refine Rg_op rfl (op_assign (v := (Value.int .i64 v_1)) rfl ?_)
      refine Rg_nil ?_
      refine Wp_seq ?_
      refine Wp_drawR (g0 := []) (m := 9) (fl := []) (TS_inv hs18) (.inl rfl) rfl (by decide +kernel) ?_  -- 3
      refine Dw_eq (Value.func (.yield l) #[] #[]) (fun ρ24 w25 g hle hi ht => ?_) ?_
      ·
        obtain ⟨-, hst, -⟩ := hle
        refine StepOp_plain (op_move (v := (Value.func (.yield l) #[] #[])) (ht 0 rfl) ?_)
        exact Goes.same hi rfl
      refine Dw_op (VD Oz9 [] (vC (rSl (rInt .i64))) fv0_) (VD.stab _ _) (fun ρ27 w28 g hle hi ht => ?_) ?_
      ·
        obtain ⟨-, hst, -⟩ := hle
        replace f_fv0_ := f_fv0_.step hst
        refine StepOp_plain (op_loadP ty22 (ht 1 rfl) f_fv0_ rfl ?_)
        intro v30 h31
        obtain ⟨a_y32, c_y32, rfl, f_y32⟩ := un_sl h31
        exact Goes.same hi (show Vr.vd (vC (rSl (rInt .i64))) _ _ _ _ from (mkC (mk_sl f_y32)))
      refine Dw_eq (Value.int .i64 v_1) (fun ρ33 w34 g hle hi ht => ?_) ?_
      ·
        obtain ⟨-, hst, -⟩ := hle
        refine StepOp_plain (op_move (v := (Value.int .i64 v_1)) (ht 4 rfl) ?_)
        exact Goes.same hi rfl
      replace hm := ck_some hm; obtain ⟨hc42, hm⟩ := hm
      refine Dw_op (VP Oz9 [] (rInt .i64) (fv0_.getD v_1.toNat default)) (VP.stab _ _) (fun ρ36 w37 g hle hi ht => ?_) ?_
      ·
        obtain ⟨-, hst, -⟩ := hle
        have h39 : Vr.vd (vC (rSl (rInt .i64))) _ _ _ _ := ht 11 rfl
        obtain ⟨a_y41, c_y41, q40, f_y41⟩ := un_sl h39
        refine StepOp_plain (op_indexAddr (q := (rInt .i64)) ty22 ty3 q40 (ht 12 rfl) f_y41 rfl hc42.1 hc42.2 ?_)
        intro p43 f44
        exact Goes.same hi ⟨_, rfl, f44⟩
      refine Dw_op (VD Oz9 [] (vI .i64) (fv0_.getD v_1.toNat default)) (VD.stab _ _) (fun ρ45 w46 g hle hi ht => ?_) ?_
      ·
        obtain ⟨-, hst, -⟩ := hle
        obtain ⟨p48, q49, f50⟩ := ht 13 rfl
        refine StepOp_plain (op_loadP ty3 q49 f50 rfl ?_)
        intro v51 h52
        obtain ⟨rfl, r_y53⟩ := un_int h52
        exact Goes.same hi (show Vr.vd (vI .i64) _ _ _ _ from ⟨rfl, r_y53⟩)
      refine Dw_op (VD Oz9 [] (vC (rSl (rInt .i64))) fv1_) (VD.stab _ _) (fun ρ54 w55 g hle hi ht => ?_) ?_
      ·
        obtain ⟨-, hst, -⟩ := hle
        replace f_fv1_ := f_fv1_.step hst
        refine StepOp_plain (op_loadP ty22 (ht 2 rfl) f_fv1_ rfl ?_)
        intro v57 h58
        obtain ⟨a_y59, c_y59, rfl, f_y59⟩ := un_sl h58
        exact Goes.same hi (show Vr.vd (vC (rSl (rInt .i64))) _ _ _ _ from (mkC (mk_sl f_y59)))
      refine Dw_eq (Value.int .i64 v_1) (fun ρ60 w61 g hle hi ht => ?_) ?_
      ·
        obtain ⟨-, hst, -⟩ := hle
        refine StepOp_plain (op_move (v := (Value.int .i64 v_1)) (ht 4 rfl) ?_)
        exact Goes.same hi rfl
      replace hm := ck_some hm; obtain ⟨hc69, hm⟩ := hm
      refine Dw_op (VP Oz9 [] (rInt .i64) (fv1_.getD v_1.toNat default)) (VP.stab _ _) (fun ρ63 w64 g hle hi ht => ?_) ?_
      ·
        obtain ⟨-, hst, -⟩ := hle
        have h66 : Vr.vd (vC (rSl (rInt .i64))) _ _ _ _ := ht 15 rfl
        obtain ⟨a_y68, c_y68, q67, f_y68⟩ := un_sl h66
        refine StepOp_plain (op_indexAddr (q := (rInt .i64)) ty22 ty3 q67 (ht 16 rfl) f_y68 rfl hc69.1 hc69.2 ?_)
        intro p70 f71
        exact Goes.same hi ⟨_, rfl, f71⟩
      refine Dw_op (VD Oz9 [] (vI .i64) (fv1_.getD v_1.toNat default)) (VD.stab _ _) (fun ρ72 w73 g hle hi ht => ?_) ?_
      ·
        obtain ⟨-, hst, -⟩ := hle
        obtain ⟨p75, q76, f77⟩ := ht 17 rfl
        refine StepOp_plain (op_loadP ty3 q76 f77 rfl ?_)
        intro v78 h79
        obtain ⟨rfl, r_y80⟩ := un_int h79
        exact Goes.same hi (show Vr.vd (vI .i64) _ _ _ _ from ⟨rfl, r_y80⟩)
      refine Dw_nil fun w85 g86 hl87 hi88 => ?_
      obtain ⟨-, hst89, -⟩ := hl87
      obtain ⟨hs91, p90⟩ := Step.nx hi88
      rintro v92 h93
      replace h93 : Vr.vd (vI .i64) _ _ _ _ := h93
      obtain ⟨rfl, r_y94⟩ := h93
      rintro _ ⟨p95, rfl, f96⟩
      rintro _ rfl
      rintro v97 h98
      replace h98 : Vr.vd (vC (rSl (rInt .i64))) _ _ _ _ := h98
      obtain ⟨a_y99, c_y99, rfl, f_y99⟩ := un_sl h98
      rintro v100 h101
      replace h101 : Vr.vd (vI .i64) _ _ _ _ := h101
      obtain ⟨rfl, r_y102⟩ := h101
      rintro _ ⟨p103, rfl, f104⟩
      rintro _ rfl
      rintro v105 h106
      replace h106 : Vr.vd (vC (rSl (rInt .i64))) _ _ _ _ := h106
      obtain ⟨a_y107, c_y107, rfl, f_y107⟩ := un_sl h106
      rintro _ rfl
      have p108 : Step (ks [] Oz9) w17 (ks [] Oz9) w85 := hst89.trans p90
      replace f96 := f96.step p90
      replace f_y99 := f_y99.step p90
      replace f104 := f104.step p90
      replace f_y107 := f_y107.step p90
      replace f_fv0_ := f_fv0_.step p108
      replace f_fv1_ := f_fv1_.step p108
      replace ch22 := ch22.trans p108
      clear p108 hs18
      replace hm := yl_elim hm; obtain ⟨xr109, hm, hL110⟩ := hm
      rw [hL110] at hL11
      refine Rg_op rfl (op_yield (pre := pre6) (a := ((fv0_.getD v_1.toNat default), (fv1_.getD v_1.toNat default))) rfl rfl hY hJ hI10 hs91 ⟨xr109, by rw [hL11]; simp⟩ (show (enc2 (vI .i64) (vI .i64)) _ _ _ _ from ⟨_, _, rfl, ⟨rfl, r_y102⟩, ⟨rfl, r_y94⟩⟩) ?_ ?_)
      ·
        intro w111 O112 hs113 p114 hI115
        replace f_fv0_ := f_fv0_.step p114
        replace f_fv1_ := f_fv1_.step p114
        replace f96 := f96.step p114
        replace f_y99 := f_y99.step p114
        replace f104 := f104.step p114
        replace f_y107 := f_y107.step p114
        replace ch22 := ch22.trans p114
        clear p114 hs91
        have hL116 : L = (pre6 ++ [((fv0_.getD v_1.toNat default), (fv1_.getD v_1.toNat default))]) ++ xr109 := by rw [hL11]; simp
        refine Rg_op rfl (op_not rfl ?_)
        refine Rg_nil ?_
        refine Wp_cond_f rfl ?_
        refine Wp_skip ?_
        clear f96 f_y99 f104 f_y107
        refine Wp_region ?_  -- 4 vector.go:19
        refine Rg_op rfl (op_addw rfl rfl ?_)
        refine Rg_op rfl (op_move (v := (Value.int .i64 (IntKind.wrap .i64 (v_1 + 1)))) rfl ?_)
        refine Rg_nil ?_
        exact hK15 _ _ ⟨(IntKind.wrap .i64 (v_1 + 1)), xr109, (pre6 ++ [((fv0_.getD v_1.toNat default), (fv1_.getD v_1.toNat default))]), w111, (List.filterMap Prod.fst []), O112, _, rfl, ⟨(by repeat (first | with_reducible exact Out.refl _ _ | refine Out.upd ?_ rfl | refine Out.updL ?_ rfl | refine Out.mix' ?_ rfl | exact Out.refl _ _)), rfl, rfl, trivial⟩, ch22, hs113, (inK_wrap .i64 _), hI115, hL116, jnE1 hsf14 hm⟩
      ·
        intro w117 O118 hs119 hI121
        refine Rg_op rfl (op_not rfl ?_)
        refine Rg_nil ?_
        refine Wp_cond_t rfl ?_
        refine Wp_ret ?_
        exact ⟨_, (show Closes [] _ _ from rfl), [], trivial, _, .inr ⟨_, hI121.fin hJx hs119⟩⟩
    ·
      replace hm := bif_f hm hc23
      refine Wp_exit ?_
      have h122 := hI10.fin hJ hs18
      rw [← Option.some.inj hm, List.append_nil] at hL11; rw [← hL11] at h122
      exact ⟨_, (show Closes [] _ _ from rfl), [], trivial, _, .inl h122⟩

end Go.Fx


set_option linter.unusedVariables false
set_option linter.unusedSimpArgs false
set_option maxRecDepth 100000
set_option maxHeartbeats 0
namespace Go.Fx
open Go Go.RowKit Go.Proofs
def m30_vector_pairs (a : List Int) (b : List Int) : Option (List (Int × Int)) :=
  (m47_vector_pairs_1 a b).bind fun l_1 =>
  some l_1

theorem c30_vector_pairs {w : World} {O : List Nat} {a : List Int} {b : List Int} {a_a : Option Addr} {c_a : Nat} {a_b : Option Addr} {c_b : Nat} (hO : ∀ k ∈ O, k < w.heap.size) (f_a : SlR (rInt .i64) w O a_a c_a a) (f_b : SlR (rInt .i64) w O a_b c_b b) {x : (List (Int × Int))} (hm : m30_vector_pairs a b = some x) :
    Ok Try.prog 30 [(Value.slice a_a a.length c_a), (Value.slice a_b b.length c_b)] w O (vIt Try.prog (enc2 (vI .i64) (vI .i64))) x := by
  unfold m30_vector_pairs at hm
  refine Fn_of_Wp (n := 6) (xs := [.tmp 4]) Try.func30 rfl Try.ntmps30 Try.results30 rfl ?_
  have hs := St.start hO
  refine Wp_seq ?_
  refine Wp_region ?_  -- 0 vector.go:17
  refine Rg_op rfl (op_box (cs := [(Value.slice a_a a.length c_a)]) hs rfl rfl ?_)
  intro b1 w2 _ p3 hs4
  replace f_a := f_a.step p3
  replace f_b := f_b.step p3
  clear p3
  refine Rg_op rfl (op_box (cs := [(Value.slice a_b b.length c_b)]) hs4 rfl rfl ?_)
  intro b6 w7 _ p8 hs9
  replace f_a := f_a.step p8
  replace f_b := f_b.step p8
  clear p8 hs4
  refine Rg_op rfl (op_assign (v := Value.nilFunc) rfl ?_)
  refine Rg_nil ?_
  refine Wp_seq ?_
  refine Wp_region ?_  -- 1 vector.go:18
  obtain ⟨hs12, p13, f11⟩ := St.publishP (p := (rSl (rInt .i64))) (i := 1) (x := a) hs9 rfl (mk_sl f_a)
  replace f_a := f_a.step p13
  replace f_b := f_b.step p13
  clear p13 hs9
  obtain ⟨hs15, p16, f14⟩ := St.publishP (p := (rSl (rInt .i64))) (i := 0) (x := b) hs12 rfl (mk_sl f_b)
  replace f_a := f_a.step p16
  replace f_b := f_b.step p16
  replace f11 := f11.step p16
  clear p16 hs12
  refine Rg_op rfl (op_makeFunc' (a' := []) (c' := [(Value.pointer (some (⟨b1, 0, none⟩ : Addr))), (Value.pointer (some (⟨b6, 0, none⟩ : Addr)))]) rfl rfl ?_)
  replace hm := bd hm; obtain ⟨l_1, hv17, hm⟩ := hm
  have F18 : ItR Try.prog (enc2 (vI .i64) (vI .i64)) w7 (ks [] O) (Value.func (.func 47) #[] #[(Value.pointer (some (⟨b1, 0, none⟩ : Addr))), (Value.pointer (some (⟨b6, 0, none⟩ : Addr)))]) l_1 := ⟨47, [(Value.pointer (some (⟨b1, 0, none⟩ : Addr))), (Value.pointer (some (⟨b6, 0, none⟩ : Addr)))], rfl, Try.call47, c47_vector_pairs_1 hs15.ltw f11 f14 hv17⟩
  refine Rg_op rfl (op_assign (v := (Value.func (.func 47) #[] #[(Value.pointer (some (⟨b1, 0, none⟩ : Addr))), (Value.pointer (some (⟨b6, 0, none⟩ : Addr)))])) rfl ?_)
  refine Rg_nil ?_
  refine Wp_ret ?_
  have hz := step_all hs15
  replace f_a := f_a.step hz
  replace f_b := f_b.step hz
  replace f11 := f11.step hz
  replace f14 := f14.step hz
  replace F18 := F18.step hz
  refine ⟨_, (show Closes [] _ _ from rfl), [(Value.func (.func 47) #[] #[(Value.pointer (some (⟨b1, 0, none⟩ : Addr))), (Value.pointer (some (⟨b6, 0, none⟩ : Addr)))])], ⟨rfl, trivial⟩, hs15.ext, ?_⟩
  exact Vr.eq (a := (vIt Try.prog (enc2 (vI .i64) (vI .i64)))) (x := l_1) F18 (Option.some.inj hm)

end Go.Fx


set_option linter.unusedVariables false
set_option linter.unusedSimpArgs false
set_option maxRecDepth 100000
set_option maxHeartbeats 0
namespace Go.Fx
open Go Go.RowKit Go.Proofs
def m13_vector_Add_B0 (sf50 : (List Int) → Option ((List Int) × Int)) (xi41 : Int × Int) (v_2 : List Int) : Option ((List Int) × Int) :=
  ck ((v_2.length + [(IntKind.wrap .i64 (xi41.1 + xi41.2))].length) * 8 ≤ 140737488355328) <|
  sf50 (v_2 ++ [(IntKind.wrap .i64 (xi41.1 + xi41.2))])

def m13_vector_Add (a : List Int) (b : List Int) : Option ((List Int) × Int) :=
  jn (fun (v_1 : Bool) =>
    bif v_1 then
      some (([] : List Int), 60)
    else
      (m30_vector_pairs a b).bind fun pairs_1 =>
      jn (fun (v_2 : List Int) =>
        some (v_2, 0))
      (fun k30 =>
        rng1 m13_vector_Add_B0 k30 pairs_1 ([] : List Int)))
  (fun k8 =>
    bif (decide ((a.length : Int) ≠ (b.length : Int))) then
      k8 true
    else
      (m29_vector_small a).bind fun small_1 =>
      bif (!small_1) then
        k8 true
      else
        (m29_vector_small b).bind fun small_2 =>
        k8 (!small_2))

theorem c13_vector_Add {w : World} {O : List Nat} {a : List Int} {b : List Int} {a_a : Option Addr} {c_a : Nat} {a_b : Option Addr} {c_b : Nat} (hO : ∀ k ∈ O, k < w.heap.size) (f_a : SlR (rInt .i64) w O a_a c_a a) (f_b : SlR (rInt .i64) w O a_b c_b b) {x : (List Int) × Int} (hm : m13_vector_Add a b = some x) :
    Ok Try.prog 13 [(Value.slice a_a a.length c_a), (Value.slice a_b b.length c_b)] w O (vT2 (vC (rSl (rInt .i64))) (vI .i64)) x := by
  unfold m13_vector_Add at hm
  refine Fn_of_Wp (n := 35) (xs := [.cell 4 22, .tmp 5]) Try.func13 rfl Try.ntmps13 Try.results13 rfl ?_
  have hs := St.start hO
  refine Wp_seq ?_
  refine Wp_region ?_  -- 0 vector.go:37
  refine Rg_op rfl (op_alloc ty22 hs ?_)
  intro b1 w2 _ p3 hs4
  replace f_a := f_a.step p3
  replace f_b := f_b.step p3
  clear p3
  refine Rg_op rfl (op_assign (v := (Value.int .i64 0)) rfl ?_)
  refine Rg_nil ?_
  refine Wp_seq ?_
  refine Wp_reset [] [(0, (Value.slice a_a a.length c_a)), (1, (Value.slice a_b b.length c_b)), (4, (Value.pointer (some ⟨b1, 0, none⟩))), (5, (Value.int .i64 0))] rfl ⟨rfl, rfl, rfl, rfl, trivial⟩ fun ξ6 => ?_
  replace hm := jn_elim hm; obtain ⟨k8, hk9, hm⟩ := hm
  refine Wp_seqJ [8, 9, 10, 11, 12, 13, 14, 15, 16, 17, 18, 19, 20, 21, 22] (fun fr w' => ∃ (v_1 : Bool) (Ebs : Ents), Ebs = [(some b1, Obj.cells [(Value.slice none 0 0)].toArray 22)] ∧ fr [] [(22, (Value.bool v_1))] ∧ Step (ks [(some b1, Obj.cells [(Value.slice none 0 0)].toArray 22)] O) w2 (ks Ebs O) w' ∧ St ⟨w, [], []⟩ O w' Ebs ∧ k8 v_1 = some x) ?_ ?_
  ·
    rintro ρ15 w11 ⟨v_1, Ebs, hEbs, hfr14, hst13, hs12, hm⟩
    replace hm := jnE1 hk9 hm
    subst hEbs; rw [hfr14.eq]; clear hfr14
    replace f_a := f_a.step hst13
    replace f_b := f_b.step hst13
    clear hst13 hs4
    refine Wp_cond rfl (fun hc16 => ?_) (fun hc16 => ?_)
    ·
      replace hm := bif_t hm hc16
      refine Wp_seq ?_
      clear f_a f_b
      refine Wp_region ?_  -- 2 vector.go:39
      refine Rg_op_ (op_store (cs := [(Value.slice none 0 0)]) (vs := [(Value.slice none 0 0)]) (cs' := [(Value.slice none 0 0)]) (bs' := [(some b1, Obj.cells [(Value.slice none 0 0)].toArray 22)]) (i := 0) ty22 hs12 rfl rfl rfl rfl rfl (le_lit rfl) rfl rfl rfl ?_)
      intro w17 p18 hs19
      clear p18 hs12
      refine Rg_op rfl (op_assign (v := (Value.int .i64 60)) rfl ?_)
      refine Rg_nil ?_
      refine Wp_ret ?_
      have hz := step_all hs19
      refine ⟨_, (show Closes [] _ _ from rfl), [(Value.slice none 0 0), (Value.int .i64 60)], ⟨res1 (cs := [(Value.slice none 0 0)]) ty22 (i := 0) hs19 rfl rfl rfl, rfl, trivial⟩, hs19.ext, ?_⟩
      exact Vr.eq (a := (vT2 (vC (rSl (rInt .i64))) (vI .i64))) (x := (([] : List Int), 60)) (mkT2 (mkC (mk_sl SlR.nil_)) ⟨rfl, (show InK .i64 60 from by decide)⟩) (Option.some.inj hm)
    ·
      replace hm := bif_f hm hc16
      refine Wp_skip ?_
      refine Wp_seq ?_
      refine Wp_seq ?_
      refine Wp_region ?_  -- 3 vector.go:41
      refine Rg_op rfl (op_move (v := (Value.slice a_a a.length c_a)) rfl ?_)
      refine Rg_op rfl (op_move (v := (Value.slice a_b b.length c_b)) rfl ?_)
      replace hm := bd hm; obtain ⟨pairs_1, hv20, hm⟩ := hm
      refine Rg_op rfl (op_call Try.call30 (c30_vector_pairs (a := a) (b := b) hs12.ltw f_a f_b hv20) rfl ?_)
      rintro v21 w22 ⟨hx23, h24⟩
      have hs25 := hs12.call hx23
      have p26 := Step.ext (O := ks [(some b1, Obj.cells [(Value.slice none 0 0)].toArray 22)] O) hx23
      clear hx23
      replace f_a := f_a.step p26
      replace f_b := f_b.step p26
      clear p26 hs12
      have F_y27 : ItR Try.prog (enc2 (vI .i64) (vI .i64)) _ _ v21 pairs_1 := h24
      refine Rg_nil ?_
      refine Wp_block ?_
      have hit36 := F_y27; obtain ⟨fk32, cp33, hvq34, hcl35, hit36⟩ := hit36
      replace hm := jn_elim hm; obtain ⟨k30, hk31, hm⟩ := hm
      have hs37 := hs25.ghost (Obj.cells #[] 3)
      refine Wp_rangeFunc (σ := (List Int) × (Option Addr) × Nat × (Option Nat) × Obj) (ps := [26, 27]) hs37 (rfl.trans hvq34) hcl35 hit36 rfl enc2_len enc2_step (fun s => match s with | (v_2, a_g29, c_g29, k_g29, o_g29) => [(k_g29, o_g29), (some b1, Obj.cells [(Value.slice a_g29 v_2.length c_g29)].toArray 22)]) (fun s w O => match s with | (v_2, a_g29, c_g29, k_g29, o_g29) => Gs (rInt .i64) 3 w O a_g29 c_g29 v_2 k_g29 o_g29) (fun s w O w' O' p h => by obtain ⟨v_2, a_g29, c_g29, k_g29, o_g29⟩ := s; have h : Gs (rInt .i64) 3 w O a_g29 c_g29 v_2 k_g29 o_g29 := h; have f_g29 := h; exact f_g29.step p) (fun s l => match s with | (v_2, a_g29, c_g29, k_g29, o_g29) => rng1 m13_vector_Add_B0 k30 l v_2 = some x) [] (fun _ _ => False) (([] : List Int), none, 0, none, (Obj.cells #[] 3)) rfl Gs.nil_ hm ?_ ?_ ?_
      ·
        rintro l39 E40 ⟨v_2, a_g29, c_g29, k_g29, o_g29⟩ xi41 rest42 w43 vs44 z45 hz46 hs47 hst48 f_g29 hm hx49
        replace hs47 : St z45 (E40 ++ O) w43 [(k_g29, o_g29), (some b1, Obj.cells [(Value.slice a_g29 v_2.length c_g29)].toArray 22)] := hs47
        have ch52 : Step (ks [(none, (Obj.cells #[] 3)), (some b1, Obj.cells [(Value.slice none 0 0)].toArray 22)] O) w22 (ks [(k_g29, o_g29), (some b1, Obj.cells [(Value.slice a_g29 v_2.length c_g29)].toArray 22)] (E40 ++ O)) w43 := hst48; clear hst48
        replace f_g29 : Gs (rInt .i64) 3 w43 (ks [(k_g29, o_g29), (some b1, Obj.cells [(Value.slice a_g29 v_2.length c_g29)].toArray 22)] (E40 ++ O)) a_g29 c_g29 v_2 k_g29 o_g29 := f_g29
        obtain ⟨sf50, hsf51, hm⟩ := rng1_s (show rng1 _ _ (xi41 :: rest42) v_2 = some _ from hm)
        unfold m13_vector_Add_B0 at hm
        replace f_a := f_a.step ch52
        replace f_b := f_b.step ch52
        replace F_y27 := F_y27.step ch52
        replace hx49 : (enc2 (vI .i64) (vI .i64)) xi41 w43 (ks [(k_g29, o_g29), (some b1, Obj.cells [(Value.slice a_g29 v_2.length c_g29)].toArray 22)] (E40 ++ O)) vs44 := hx49
        obtain ⟨v53, v54, rfl, h55, h56⟩ := hx49
        obtain ⟨rfl, r_y57⟩ := h55
        obtain ⟨rfl, r_y58⟩ := h56
        refine Wp_seq ?_
        refine Wp_region ?_  -- 4 vector.go:41
        refine Rg_op rfl (op_assign (v := (Value.int .i64 xi41.1)) rfl ?_)
        refine Rg_nil ?_
        refine Wp_region ?_  -- 5 vector.go:41
        refine Rg_op rfl (op_assign (v := (Value.int .i64 xi41.2)) rfl ?_)
        refine Rg_nil ?_
        refine Exists.intro _ (And.intro hs47 ?_)
        intro w59 z60 RQ61 hz62 hs63 p64 hN65 hX66
        replace f_a := f_a.step p64
        replace f_b := f_b.step p64
        replace F_y27 := F_y27.step p64
        replace f_g29 := f_g29.step p64
        replace ch52 := ch52.trans p64
        clear p64 hs47
        refine Wp_block ?_
        clear f_a f_b
        refine Wp_region ?_  -- 6 vector.go:42
        refine Rg_op rfl (op_load (cs := [(Value.slice a_g29 v_2.length c_g29)]) (i := 1) ty22 hs63 rfl rfl rfl ?_)
        refine Rg_op rfl (op_move (v := (Value.int .i64 xi41.1)) rfl ?_)
        refine Rg_op rfl (op_move (v := (Value.int .i64 xi41.2)) rfl ?_)
        refine Rg_op rfl (op_addw rfl rfl ?_)
        refine Rg_op rfl (op_buildSlice (cs := [(Value.int .i64 (IntKind.wrap .i64 (xi41.1 + xi41.2)))]) (parts := [(0, .tmp 31)]) ty22 ty3 hs63 (by decide) rfl ?_)
        intro b67 w68 hx71 p69 hs70
        replace F_y27 := F_y27.step p69
        replace f_g29 := f_g29.step p69
        replace ch52 := ch52.trans p69
        clear p69 hs63
        replace hm := ck_some hm; obtain ⟨hc73, hm⟩ := hm
        refine Rg_op rfl (op_append (q := (rInt .i64)) (i := 1) (xs := v_2) (ys := [(IntKind.wrap .i64 (xi41.1 + xi41.2))]) (news := [(Value.int .i64 (IntKind.wrap .i64 (xi41.1 + xi41.2)))]) ty22 ty3 rfl (by decide) hs70 rfl rfl f_g29 rfl (Src.owned' (len := 1) (hs70.get (i := 0) rfl) rfl) (show Els (rInt .i64) _ _ [(Value.int .i64 (IntKind.wrap .i64 (xi41.1 + xi41.2)))] [(IntKind.wrap .i64 (xi41.1 + xi41.2))] from ⟨_, _, rfl, (mk_int (inK_wrap .i64 _)), Els.nil⟩) hc73 (by have := hc73; simp only [maxLen]; omega) ?_)
        intro a77 c78 k79 o80 w74 p75 hs76 f81
        replace F_y27 := F_y27.step p75
        replace ch52 := ch52.trans p75
        clear p75 hs70
        have hs82 := hs76.drop 0
        replace F_y27 := F_y27.step (Step.drop _ _ [(some b67, Obj.cells [(Value.int .i64 (IntKind.wrap .i64 (xi41.1 + xi41.2)))].toArray 3), (k79, o80), (some b1, Obj.cells [(Value.slice a_g29 v_2.length c_g29)].toArray 22)] 0)
        replace f81 := f81.step (Step.drop _ _ [(some b67, Obj.cells [(Value.int .i64 (IntKind.wrap .i64 (xi41.1 + xi41.2)))].toArray 3), (k79, o80), (some b1, Obj.cells [(Value.slice a_g29 v_2.length c_g29)].toArray 22)] 0)
        replace ch52 := ch52.trans (Step.drop _ _ [(some b67, Obj.cells [(Value.int .i64 (IntKind.wrap .i64 (xi41.1 + xi41.2)))].toArray 3), (k79, o80), (some b1, Obj.cells [(Value.slice a_g29 v_2.length c_g29)].toArray 22)] 0)
        clear hs76
        refine Rg_op_ (op_store (cs := [(Value.slice a_g29 v_2.length c_g29)]) (vs := [(Value.slice a77 (v_2 ++ [(IntKind.wrap .i64 (xi41.1 + xi41.2))]).length c78)]) (cs' := [(Value.slice a77 (v_2 ++ [(IntKind.wrap .i64 (xi41.1 + xi41.2))]).length c78)]) (bs' := [(k79, o80), (some b1, Obj.cells [(Value.slice a77 (v_2 ++ [(IntKind.wrap .i64 (xi41.1 + xi41.2))]).length c78)].toArray 22)]) (i := 1) ty22 hs82 rfl rfl rfl rfl rfl (le_lit rfl) rfl rfl rfl ?_)
        intro w83 p84 hs85
        replace F_y27 := F_y27.step p84
        replace f81 := f81.step p84
        replace ch52 := ch52.trans p84
        clear p84 hs82
        refine Rg_nil ?_
        exact hN65 ((v_2 ++ [(IntKind.wrap .i64 (xi41.1 + xi41.2))]), a77, c78, k79, o80) _ _ hs85 ch52 f81 (jnE1 hsf51 hm)
      ·
        rintro D86 ⟨v_2, a_g29, c_g29, k_g29, o_g29⟩ w87 hs88 hst89 f_g29 hm
        replace hs88 : St ⟨w, [], (D86 :: [])⟩ (D86 :: O) w87 [(k_g29, o_g29), (some b1, Obj.cells [(Value.slice a_g29 v_2.length c_g29)].toArray 22)] := hs88
        replace hst89 : Step (ks [(none, (Obj.cells #[] 3)), (some b1, Obj.cells [(Value.slice none 0 0)].toArray 22)] O) w22 (ks [(k_g29, o_g29), (some b1, Obj.cells [(Value.slice a_g29 v_2.length c_g29)].toArray 22)] (D86 :: O)) w87 := hst89
        replace f_g29 : Gs (rInt .i64) 3 w87 (ks [(k_g29, o_g29), (some b1, Obj.cells [(Value.slice a_g29 v_2.length c_g29)].toArray 22)] (D86 :: O)) a_g29 c_g29 v_2 k_g29 o_g29 := f_g29
        replace hm := rng1_z (show rng1 _ _ [] v_2 = some _ from hm)
        replace hm := jnE1 hk31 (show k30 v_2 = some _ from hm)
        replace f_a := f_a.step hst89
        replace f_b := f_b.step hst89
        replace F_y27 := F_y27.step hst89
        clear hst89 hs37
        refine Wp_seq ?_
        clear f_a f_b F_y27
        refine Wp_region ?_  -- 7 vector.go:44
        refine Rg_op rfl (op_load (cs := [(Value.slice a_g29 v_2.length c_g29)]) (i := 1) ty22 hs88 rfl rfl rfl ?_)
        refine Rg_op_ (op_store (cs := [(Value.slice a_g29 v_2.length c_g29)]) (vs := [(Value.slice a_g29 v_2.length c_g29)]) (cs' := [(Value.slice a_g29 v_2.length c_g29)]) (bs' := [(k_g29, o_g29), (some b1, Obj.cells [(Value.slice a_g29 v_2.length c_g29)].toArray 22)]) (i := 1) ty22 hs88 rfl rfl rfl rfl rfl (le_lit rfl) rfl rfl rfl ?_)
        intro w91 p92 hs93
        replace f_g29 := f_g29.step p92
        clear p92 hs88
        refine Rg_op rfl (op_assign (v := (Value.int .i64 0)) rfl ?_)
        refine Rg_nil ?_
        refine Wp_ret ?_
        obtain ⟨w94, hcl95, hs96, p97⟩ := St.close hs93
        replace f_g29 := f_g29.step p97
        clear p97 hs93
        obtain ⟨hs99, p100, f98⟩ := Gs.publish (i := 0) hs96 rfl f_g29
        clear p100 hs96
        have hz := (step_all hs99).trans (Step.sub (O' := O) (fun k hk => by simp [hk]))
        replace f98 := f98.step hz
        refine ⟨_, hcl95, [(Value.slice a_g29 v_2.length c_g29), (Value.int .i64 0)], ⟨res1 (cs := [(Value.slice a_g29 v_2.length c_g29)]) ty22 (i := 0) hs99 rfl rfl rfl, rfl, trivial⟩, hs99.ext, ?_⟩
        exact Vr.eq (a := (vT2 (vC (rSl (rInt .i64))) (vI .i64))) (x := (v_2, 0)) (mkT2 (mkC (mk_sl f98)) ⟨rfl, (show InK .i64 0 from by decide)⟩) (Option.some.inj hm)
      · intro _ _ _ _ h; simp at h
  ·
    intro K10 hK10
    have ch101 := Step.refl (ks [(some b1, Obj.cells [(Value.slice none 0 0)].toArray 22)] O) w2
    refine Wp_region ?_  -- 1 vector.go:38
    refine Rg_op rfl (op_move (v := (Value.slice a_a a.length c_a)) rfl ?_)
    refine Rg_op rfl (op_len Try.underlying22 rfl ?_)
    refine Rg_op rfl (op_move (v := (Value.slice a_b b.length c_b)) rfl ?_)
    refine Rg_op rfl (op_len Try.underlying22 rfl ?_)
    refine Rg_op rfl (op_neq rfl rfl ?_)
    refine Rg_op rfl (op_move (v := (Value.bool (decide ((a.length : Int) ≠ (b.length : Int))))) rfl ?_)
    refine Rg_case (fun hg102 => ?_) (fun hg102 => ?_)
    ·
      replace hm := bif_t hm hg102
      refine Rg_opx rfl (asB_ne rfl rfl) rfl ?_
      refine Rg_opx rfl (asB_ne rfl rfl) rfl ?_
      refine Rg_opx rfl (asB_ne rfl rfl) rfl ?_
      refine Rg_op rfl (op_pick_t (v := (Value.bool true)) rfl rfl ?_)
      refine Rg_op rfl (op_move (v := (Value.bool true)) rfl ?_)
      refine Rg_opx rfl (asB_ne rfl rfl) rfl ?_
      refine Rg_opx rfl (asB_ne rfl rfl) rfl ?_
      refine Rg_opx rfl (asB_ne rfl rfl) rfl ?_
      refine Rg_op rfl (op_pick_t (v := (Value.bool true)) rfl rfl ?_)
      refine Rg_nil ?_
      exact hK10 _ _ ⟨true, _, rfl, ⟨(by repeat (first | with_reducible exact Out.refl _ _ | refine Out.upd ?_ rfl | refine Out.updL ?_ rfl | refine Out.mix' ?_ rfl | exact Out.refl _ _)), rfl, rfl, trivial⟩, ch101, hs4, hm⟩
    ·
      replace hm := bif_f hm hg102
      refine Rg_opg rfl rfl rfl (op_move (v := (Value.slice a_a a.length c_a)) rfl ?_)
      replace hm := bd hm; obtain ⟨small_1, hv103, hm⟩ := hm
      refine Rg_opg rfl rfl rfl (op_call Try.call29 (c29_vector_small (a := a) hs4.ltw f_a hv103) rfl ?_)
      rintro v104 w105 ⟨hx106, h107⟩
      have hs108 := hs4.call hx106
      have p109 := Step.ext (O := ks [(some b1, Obj.cells [(Value.slice none 0 0)].toArray 22)] O) hx106
      clear hx106
      replace f_a := f_a.step p109
      replace f_b := f_b.step p109
      replace ch101 := ch101.trans p109
      clear p109 hs4
      obtain rfl := h107
      refine Rg_opg rfl rfl rfl (op_not rfl ?_)
      refine Rg_op rfl (op_pick_f (v := (Value.bool (!small_1))) rfl rfl ?_)
      refine Rg_op rfl (op_move (v := (Value.bool (!small_1))) rfl ?_)
      refine Rg_case (fun hg111 => ?_) (fun hg111 => ?_)
      ·
        replace hm := bif_t hm hg111
        refine Rg_opx rfl (asB_ne rfl rfl) rfl ?_
        refine Rg_opx rfl (asB_ne rfl rfl) rfl ?_
        refine Rg_opx rfl (asB_ne rfl rfl) rfl ?_
        refine Rg_op rfl (op_pick_t (v := (Value.bool true)) rfl rfl ?_)
        refine Rg_nil ?_
        exact hK10 _ _ ⟨true, _, rfl, ⟨(by repeat (first | with_reducible exact Out.refl _ _ | refine Out.upd ?_ rfl | refine Out.updL ?_ rfl | refine Out.mix' ?_ rfl | exact Out.refl _ _)), rfl, rfl, trivial⟩, ch101, hs108, hm⟩
      ·
        replace hm := bif_f hm hg111
        refine Rg_opg rfl rfl rfl (op_move (v := (Value.slice a_b b.length c_b)) rfl ?_)
        replace hm := bd hm; obtain ⟨small_2, hv112, hm⟩ := hm
        refine Rg_opg rfl rfl rfl (op_call Try.call29 (c29_vector_small (a := b) hs108.ltw f_b hv112) rfl ?_)
        rintro v113 w114 ⟨hx115, h116⟩
        have hs117 := hs108.call hx115
        have p118 := Step.ext (O := ks [(some b1, Obj.cells [(Value.slice none 0 0)].toArray 22)] O) hx115
        clear hx115
        replace f_a := f_a.step p118
        replace f_b := f_b.step p118
        replace ch101 := ch101.trans p118
        clear p118 hs108
        obtain rfl := h116
        refine Rg_opg rfl rfl rfl (op_not rfl ?_)
        refine Rg_op rfl (op_pick_f (v := (Value.bool (!small_2))) rfl rfl ?_)
        refine Rg_nil ?_
        exact hK10 _ _ ⟨(!small_2), _, rfl, ⟨(by repeat (first | with_reducible exact Out.refl _ _ | refine Out.upd ?_ rfl | refine Out.updL ?_ rfl | refine Out.mix' ?_ rfl | exact Out.refl _ _)), rfl, rfl, trivial⟩, ch101, hs117, hm⟩

end Go.Fx


set_option linter.unusedVariables false
set_option linter.unusedSimpArgs false
set_option maxRecDepth 100000
set_option maxHeartbeats 0
namespace Go.Fx
open Go Go.RowKit Go.Proofs
def m32_vector_below_B0 (k16 : Option Bool) (sf34 : Option Bool) (xi25 : Int × Int) : Option Bool :=
  bif (decide (xi25.2 < xi25.1)) then
    k16
  else
    sf34

def m32_vector_below (a : List Int) (b : List Int) : Option Bool :=
  (m30_vector_pairs a b).bind fun pairs_1 =>
  jn (  some true)
  (fun k14 =>
    jn (  some false)
    (fun k16 =>
      rng0 (m32_vector_below_B0 k16) k14 pairs_1))

theorem c32_vector_below {w : World} {O : List Nat} {a : List Int} {b : List Int} {a_a : Option Addr} {c_a : Nat} {a_b : Option Addr} {c_b : Nat} (hO : ∀ k ∈ O, k < w.heap.size) (f_a : SlR (rInt .i64) w O a_a c_a a) (f_b : SlR (rInt .i64) w O a_b c_b b) {x : Bool} (hm : m32_vector_below a b = some x) :
    Ok Try.prog 32 [(Value.slice a_a a.length c_a), (Value.slice a_b b.length c_b)] w O vB x := by
  unfold m32_vector_below at hm
  refine Fn_of_Wp (n := 15) (xs := [.cell 4 4]) Try.func32 rfl Try.ntmps32 Try.results32 rfl ?_
  have hs := St.start hO
  refine Wp_seq ?_
  refine Wp_region ?_  -- 0 vector.go:47
  refine Rg_op rfl (op_alloc ty4 hs ?_)
  intro b1 w2 _ p3 hs4
  replace f_a := f_a.step p3
  replace f_b := f_b.step p3
  clear p3
  refine Rg_nil ?_
  refine Wp_seq ?_
  refine Wp_seq ?_
  refine Wp_region ?_  -- 1 vector.go:48
  refine Rg_op rfl (op_move (v := (Value.slice a_a a.length c_a)) rfl ?_)
  refine Rg_op rfl (op_move (v := (Value.slice a_b b.length c_b)) rfl ?_)
  replace hm := bd hm; obtain ⟨pairs_1, hv6, hm⟩ := hm
  refine Rg_op rfl (op_call Try.call30 (c30_vector_pairs (a := a) (b := b) hs4.ltw f_a f_b hv6) rfl ?_)
  rintro v7 w8 ⟨hx9, h10⟩
  have hs11 := hs4.call hx9
  have p12 := Step.ext (O := ks [(some b1, Obj.cells [(Value.bool false)].toArray 4)] O) hx9
  clear hx9
  replace f_a := f_a.step p12
  replace f_b := f_b.step p12
  clear p12 hs4
  have F_y13 : ItR Try.prog (enc2 (vI .i64) (vI .i64)) _ _ v7 pairs_1 := h10
  refine Rg_nil ?_
  refine Wp_block ?_
  have hit22 := F_y13; obtain ⟨fk18, cp19, hvq20, hcl21, hit22⟩ := hit22
  replace hm := jn_elim hm; obtain ⟨k14, hk15, hm⟩ := hm
  replace hm := jn_elim hm; obtain ⟨k16, hk17, hm⟩ := hm
  refine Wp_rangeFunc (σ := Unit) (ps := [10, 11]) hs11 (rfl.trans hvq20) hcl21 hit22 rfl enc2_len enc2_step (fun s => [(some b1, Obj.cells [(Value.bool false)].toArray 4)]) (fun s w O => True) (fun s w O w' O' p h => by trivial) (fun _ l => rng0 (m32_vector_below_B0 k16) k14 l = some x) [none] (fun e s => match e, s with | none, _ => k16 = some x | _, _ => False) () rfl trivial hm ?_ ?_ ?_
  ·
    rintro l23 E24 ⟨⟩ xi25 rest26 w27 vs28 z29 hz30 hs31 hst32 - hm hx33
    replace hs31 : St z29 (E24 ++ O) w27 [(some b1, Obj.cells [(Value.bool false)].toArray 4)] := hs31
    have ch36 : Step (ks [(some b1, Obj.cells [(Value.bool false)].toArray 4)] O) w8 (ks [(some b1, Obj.cells [(Value.bool false)].toArray 4)] (E24 ++ O)) w27 := hst32; clear hst32
    obtain ⟨sf34, hsf35, hm⟩ := rng0_s (show rng0 _ _ (xi25 :: rest26) = some _ from hm)
    unfold m32_vector_below_B0 at hm
    replace f_a := f_a.step ch36
    replace f_b := f_b.step ch36
    replace F_y13 := F_y13.step ch36
    replace hx33 : (enc2 (vI .i64) (vI .i64)) xi25 w27 (ks [(some b1, Obj.cells [(Value.bool false)].toArray 4)] (E24 ++ O)) vs28 := hx33
    obtain ⟨v37, v38, rfl, h39, h40⟩ := hx33
    obtain ⟨rfl, r_y41⟩ := h39
    obtain ⟨rfl, r_y42⟩ := h40
    refine Wp_seq ?_
    refine Wp_region ?_  -- 2 vector.go:48
    refine Rg_op rfl (op_assign (v := (Value.int .i64 xi25.1)) rfl ?_)
    refine Rg_nil ?_
    refine Wp_region ?_  -- 3 vector.go:48
    refine Rg_op rfl (op_assign (v := (Value.int .i64 xi25.2)) rfl ?_)
    refine Rg_nil ?_
    refine Exists.intro _ (And.intro hs31 ?_)
    intro w43 z44 RQ45 hz46 hs47 p48 hN49 hX50
    replace f_a := f_a.step p48
    replace f_b := f_b.step p48
    replace F_y13 := F_y13.step p48
    replace ch36 := ch36.trans p48
    clear p48 hs31
    refine Wp_block ?_
    refine Wp_seq ?_
    clear f_a f_b
    refine Wp_region ?_  -- 4 vector.go:49
    refine Rg_op rfl (op_move (v := (Value.int .i64 xi25.1)) rfl ?_)
    refine Rg_op rfl (op_move (v := (Value.int .i64 xi25.2)) rfl ?_)
    refine Rg_op rfl (op_gtr rfl rfl ?_)
    refine Rg_nil ?_
    refine Wp_cond rfl (fun hc51 => ?_) (fun hc51 => ?_)
    ·
      replace hm := bif_t hm hc51
      refine Wp_seq ?_
      clear F_y13
      refine Wp_region ?_  -- 5 vector.go:50
      refine Rg_op_ (op_store (cs := [(Value.bool false)]) (vs := [(Value.bool false)]) (cs' := [(Value.bool false)]) (bs' := [(some b1, Obj.cells [(Value.bool false)].toArray 4)]) (i := 0) ty4 hs47 rfl rfl rfl rfl rfl (le_lit rfl) rfl rfl rfl ?_)
      intro w52 p53 hs54
      replace ch36 := ch36.trans p53
      clear p53 hs47
      refine Rg_nil ?_
      refine Wp_ret ?_
      exact hX50 none () _ _ (by simp) hs54 ch36 trivial hm
    ·
      replace hm := bif_f hm hc51
      refine Wp_skip ?_
      exact hN49 () _ _ hs47 ch36 trivial (jnE0 hsf35 hm)
  ·
    rintro D55 ⟨⟩ w56 hs57 hst58 - hm
    replace hs57 : St ⟨w, [], (D55 :: [])⟩ (D55 :: O) w56 [(some b1, Obj.cells [(Value.bool false)].toArray 4)] := hs57
    replace hst58 : Step (ks [(some b1, Obj.cells [(Value.bool false)].toArray 4)] O) w8 (ks [(some b1, Obj.cells [(Value.bool false)].toArray 4)] (D55 :: O)) w56 := hst58
    replace hm := rng0_z (show rng0 _ _ [] = some _ from hm)
    replace hm := jnE0 hk15 (show k14 = some _ from hm)
    replace f_a := f_a.step hst58
    replace f_b := f_b.step hst58
    replace F_y13 := F_y13.step hst58
    clear hst58 hs11
    refine Wp_seq ?_
    clear f_a f_b F_y13
    refine Wp_region ?_  -- 6 vector.go:53
    refine Rg_op_ (op_store (cs := [(Value.bool false)]) (vs := [(Value.bool true)]) (cs' := [(Value.bool true)]) (bs' := [(some b1, Obj.cells [(Value.bool true)].toArray 4)]) (i := 0) ty4 hs57 rfl rfl rfl rfl rfl (le_lit rfl) rfl rfl rfl ?_)
    intro w60 p61 hs62
    clear p61 hs57
    refine Rg_nil ?_
    refine Wp_ret ?_
    obtain ⟨w63, hcl64, hs65, p66⟩ := St.close hs62
    clear p66 hs62
    have hz := (step_all hs65).trans (Step.sub (O' := O) (fun k hk => by simp [hk]))
    refine ⟨_, hcl64, [(Value.bool true)], ⟨res1 (cs := [(Value.bool true)]) ty4 (i := 0) hs65 rfl rfl rfl, trivial⟩, hs65.ext, ?_⟩
    exact Vr.eq (a := vB) (x := true) rfl (Option.some.inj hm)
  ·
    rintro e72 D67 ⟨⟩ w68 he71 hs69 hst70 - hm
    simp only [List.mem_cons, List.not_mem_nil, or_false] at he71
    subst he71
    replace hs69 : St ⟨w, [], (D67 :: [])⟩ (D67 :: O) w68 [(some b1, Obj.cells [(Value.bool false)].toArray 4)] := hs69
    replace hst70 : Step (ks [(some b1, Obj.cells [(Value.bool false)].toArray 4)] O) w8 (ks [(some b1, Obj.cells [(Value.bool false)].toArray 4)] (D67 :: O)) w68 := hst70
    replace hm := jnE0 hk17 (show k16 = some _ from hm)
    replace f_a := f_a.step hst70
    replace f_b := f_b.step hst70
    replace F_y13 := F_y13.step hst70
    clear hst70 hs11
    obtain ⟨w73, hcl74, hs75, p76⟩ := St.close hs69
    replace f_a := f_a.step p76
    replace f_b := f_b.step p76
    replace F_y13 := F_y13.step p76
    clear p76 hs69
    have hz := (step_all hs75).trans (Step.sub (O' := O) (fun k hk => by simp [hk]))
    replace f_a := f_a.step hz
    replace f_b := f_b.step hz
    replace F_y13 := F_y13.step hz
    refine ⟨_, hcl74, [(Value.bool false)], ⟨res1 (cs := [(Value.bool false)]) ty4 (i := 0) hs75 rfl rfl rfl, trivial⟩, hs75.ext, ?_⟩
    exact Vr.eq (a := vB) (x := false) rfl (Option.some.inj hm)

end Go.Fx


set_option linter.unusedVariables false
set_option linter.unusedSimpArgs false
set_option maxRecDepth 100000
set_option maxHeartbeats 0
namespace Go.Fx
open Go Go.RowKit Go.Proofs
def m15_vector_Below (a : List Int) (b : List Int) : Option (Bool × Int) :=
  bif (decide ((a.length : Int) ≠ (b.length : Int))) then
    some (false, 60)
  else
    (m32_vector_below a b).bind fun below_1 =>
    some (below_1, 0)

theorem c15_vector_Below {w : World} {O : List Nat} {a : List Int} {b : List Int} {a_a : Option Addr} {c_a : Nat} {a_b : Option Addr} {c_b : Nat} (hO : ∀ k ∈ O, k < w.heap.size) (f_a : SlR (rInt .i64) w O a_a c_a a) (f_b : SlR (rInt .i64) w O a_b c_b b) {x : Bool × Int} (hm : m15_vector_Below a b = some x) :
    Ok Try.prog 15 [(Value.slice a_a a.length c_a), (Value.slice a_b b.length c_b)] w O (vT2 vB (vI .i64)) x := by
  unfold m15_vector_Below at hm
  refine Fn_of_Wp (n := 14) (xs := [.tmp 4, .tmp 5]) Try.func15 rfl Try.ntmps15 Try.results15 rfl ?_
  have hs := St.start hO
  refine Wp_seq ?_
  refine Wp_region ?_  -- 0 vector.go:57
  refine Rg_op rfl (op_assign (v := (Value.bool false)) rfl ?_)
  refine Rg_op rfl (op_assign (v := (Value.int .i64 0)) rfl ?_)
  refine Rg_nil ?_
  refine Wp_seq ?_
  refine Wp_seq ?_
  refine Wp_region ?_  -- 1 vector.go:58
  refine Rg_op rfl (op_move (v := (Value.slice a_a a.length c_a)) rfl ?_)
  refine Rg_op rfl (op_len Try.underlying22 rfl ?_)
  refine Rg_op rfl (op_move (v := (Value.slice a_b b.length c_b)) rfl ?_)
  refine Rg_op rfl (op_len Try.underlying22 rfl ?_)
  refine Rg_op rfl (op_neq rfl rfl ?_)
  refine Rg_nil ?_
  refine Wp_cond rfl (fun hc1 => ?_) (fun hc1 => ?_)
  ·
    replace hm := bif_t hm hc1
    refine Wp_seq ?_
    clear f_a f_b
    refine Wp_region ?_  -- 2 vector.go:59
    refine Rg_op rfl (op_assign (v := (Value.bool false)) rfl ?_)
    refine Rg_op rfl (op_assign (v := (Value.int .i64 60)) rfl ?_)
    refine Rg_nil ?_
    refine Wp_ret ?_
    have hz := step_all hs
    refine ⟨_, (show Closes [] _ _ from rfl), [(Value.bool false), (Value.int .i64 60)], ⟨rfl, rfl, trivial⟩, hs.ext, ?_⟩
    exact Vr.eq (a := (vT2 vB (vI .i64))) (x := (false, 60)) (mkT2 rfl ⟨rfl, (show InK .i64 60 from by decide)⟩) (Option.some.inj hm)
  ·
    replace hm := bif_f hm hc1
    refine Wp_skip ?_
    refine Wp_seq ?_
    refine Wp_region ?_  -- 3 vector.go:61
    refine Rg_op rfl (op_move (v := (Value.slice a_a a.length c_a)) rfl ?_)
    refine Rg_op rfl (op_move (v := (Value.slice a_b b.length c_b)) rfl ?_)
    replace hm := bd hm; obtain ⟨below_1, hv2, hm⟩ := hm
    refine Rg_op rfl (op_call Try.call32 (c32_vector_below (a := a) (b := b) hs.ltw f_a f_b hv2) rfl ?_)
    rintro v3 w4 ⟨hx5, h6⟩
    have hs7 := hs.call hx5
    have p8 := Step.ext (O := ks [] O) hx5
    clear hx5
    replace f_a := f_a.step p8
    replace f_b := f_b.step p8
    clear p8
    obtain rfl := h6
    refine Rg_op rfl (op_assign (v := (Value.bool below_1)) rfl ?_)
    refine Rg_op rfl (op_assign (v := (Value.int .i64 0)) rfl ?_)
    refine Rg_nil ?_
    refine Wp_ret ?_
    have hz := step_all hs7
    replace f_a := f_a.step hz
    replace f_b := f_b.step hz
    refine ⟨_, (show Closes [] _ _ from rfl), [(Value.bool below_1), (Value.int .i64 0)], ⟨rfl, rfl, trivial⟩, hs7.ext, ?_⟩
    exact Vr.eq (a := (vT2 vB (vI .i64))) (x := (below_1, 0)) (mkT2 rfl ⟨rfl, (show InK .i64 0 from by decide)⟩) (Option.some.inj hm)

end Go.Fx


set_option linter.unusedVariables false
set_option linter.unusedSimpArgs false
set_option maxRecDepth 100000
set_option maxHeartbeats 0
namespace Go.Fx
open Go Go.RowKit Go.Proofs
def m58_cmp_isNaN (x_ : Int) : Option Bool :=
  some (decide (x_ ≠ x_))

theorem c58_cmp_isNaN {w : World} {O : List Nat} {x_ : Int} (hO : ∀ k ∈ O, k < w.heap.size) (r_x_ : InK .i64 x_) {x : Bool} (hm : m58_cmp_isNaN x_ = some x) :
    Ok Try.prog 58 [(Value.int .i64 x_)] w O vB x := by
  unfold m58_cmp_isNaN at hm
  refine Fn_of_Wp (n := 6) (xs := [.tmp 2]) Try.func58 rfl Try.ntmps58 Try.results58 rfl ?_
  have hs := St.start hO
  refine Wp_seq ?_
  refine Wp_region ?_  -- 0 cmp.go:63
  refine Rg_op rfl (op_assign (v := (Value.bool false)) rfl ?_)
  refine Rg_nil ?_
  refine Wp_seq ?_
  refine Wp_region ?_  -- 1 cmp.go:64
  refine Rg_op rfl (op_move (v := (Value.int .i64 x_)) rfl ?_)
  refine Rg_op rfl (op_move (v := (Value.int .i64 x_)) rfl ?_)
  refine Rg_op rfl (op_neq rfl rfl ?_)
  refine Rg_op rfl (op_assign (v := (Value.bool (decide (x_ ≠ x_)))) rfl ?_)
  refine Rg_nil ?_
  refine Wp_ret ?_
  have hz := step_all hs
  refine ⟨_, (show Closes [] _ _ from rfl), [(Value.bool (decide (x_ ≠ x_)))], ⟨rfl, trivial⟩, hs.ext, ?_⟩
  exact Vr.eq (a := vB) (x := (decide (x_ ≠ x_))) rfl (Option.some.inj hm)

end Go.Fx


set_option linter.unusedVariables false
set_option linter.unusedSimpArgs false
set_option maxRecDepth 100000
set_option maxHeartbeats 0
namespace Go.Fx
open Go Go.RowKit Go.Proofs
def m48_cmp_Compare (x_ : Int) (y : Int) : Option Int :=
  (m58_cmp_isNaN x_).bind fun isnan_1 =>
  (m58_cmp_isNaN y).bind fun isnan_2 =>
  bif isnan_1 then
    bif isnan_2 then
      some 0
    else
      some (-1)
  else
    bif isnan_2 then
      some 1
    else
      bif (decide (x_ < y)) then
        some (-1)
      else
        bif (decide (y < x_)) then
          some 1
        else
          some 0

theorem c48_cmp_Compare {w : World} {O : List Nat} {x_ : Int} {y : Int} (hO : ∀ k ∈ O, k < w.heap.size) (r_x_ : InK .i64 x_) (r_y : InK .i64 y) {x : Int} (hm : m48_cmp_Compare x_ y = some x) :
    Ok Try.prog 48 [(Value.int .i64 x_), (Value.int .i64 y)] w O (vI .i64) x := by
  unfold m48_cmp_Compare at hm
  refine Fn_of_Wp (n := 20) (xs := [.tmp 4]) Try.func48 rfl Try.ntmps48 Try.results48 rfl ?_
  have hs := St.start hO
  refine Wp_seq ?_
  refine Wp_region ?_  -- 0 cmp.go:40
  refine Rg_op rfl (op_assign (v := (Value.int .i64 0)) rfl ?_)
  refine Rg_nil ?_
  refine Wp_seq ?_
  refine Wp_region ?_  -- 1 cmp.go:41
  refine Rg_op rfl (op_move (v := (Value.int .i64 x_)) rfl ?_)
  replace hm := bd hm; obtain ⟨isnan_1, hv1, hm⟩ := hm
  refine Rg_op rfl (op_call Try.call58 (c58_cmp_isNaN (x_ := x_) hs.ltw r_x_ hv1) rfl ?_)
  rintro v2 w3 ⟨hx4, h5⟩
  have hs6 := hs.call hx4
  have p7 := Step.ext (O := ks [] O) hx4
  clear hx4
  clear p7
  obtain rfl := h5
  refine Rg_op rfl (op_assign (v := (Value.bool isnan_1)) rfl ?_)
  refine Rg_nil ?_
  refine Wp_seq ?_
  refine Wp_region ?_  -- 2 cmp.go:42
  refine Rg_op rfl (op_move (v := (Value.int .i64 y)) rfl ?_)
  replace hm := bd hm; obtain ⟨isnan_2, hv9, hm⟩ := hm
  refine Rg_op rfl (op_call Try.call58 (c58_cmp_isNaN (x_ := y) hs6.ltw r_y hv9) rfl ?_)
  rintro v10 w11 ⟨hx12, h13⟩
  have hs14 := hs6.call hx12
  have p15 := Step.ext (O := ks [] O) hx12
  clear hx12
  clear p15 hs6
  obtain rfl := h13
  refine Rg_op rfl (op_assign (v := (Value.bool isnan_2)) rfl ?_)
  refine Rg_nil ?_
  refine Wp_seq ?_
  refine Wp_seq ?_
  refine Wp_region ?_  -- 3 cmp.go:43
  refine Rg_op rfl (op_move (v := (Value.bool isnan_1)) rfl ?_)
  refine Rg_nil ?_
  refine Wp_cond rfl (fun hc17 => ?_) (fun hc17 => ?_)
  ·
    replace hm := bif_t hm hc17
    refine Wp_seq ?_
    refine Wp_seq ?_
    refine Wp_region ?_  -- 4 cmp.go:44
    refine Rg_op rfl (op_move (v := (Value.bool isnan_2)) rfl ?_)
    refine Rg_nil ?_
    refine Wp_cond rfl (fun hc18 => ?_) (fun hc18 => ?_)
    ·
      replace hm := bif_t hm hc18
      refine Wp_seq ?_
      refine Wp_region ?_  -- 5 cmp.go:45
      refine Rg_op rfl (op_assign (v := (Value.int .i64 0)) rfl ?_)
      refine Rg_nil ?_
      refine Wp_ret ?_
      have hz := step_all hs14
      refine ⟨_, (show Closes [] _ _ from rfl), [(Value.int .i64 0)], ⟨rfl, trivial⟩, hs14.ext, ?_⟩
      exact Vr.eq (a := (vI .i64)) (x := 0) ⟨rfl, (show InK .i64 0 from by decide)⟩ (Option.some.inj hm)
    ·
      replace hm := bif_f hm hc18
      refine Wp_skip ?_
      refine Wp_seq ?_
      refine Wp_region ?_  -- 6 cmp.go:47
      refine Rg_op rfl (op_assign (v := (Value.int .i64 (-1))) rfl ?_)
      refine Rg_nil ?_
      refine Wp_ret ?_
      have hz := step_all hs14
      refine ⟨_, (show Closes [] _ _ from rfl), [(Value.int .i64 (-1))], ⟨rfl, trivial⟩, hs14.ext, ?_⟩
      exact Vr.eq (a := (vI .i64)) (x := (-1)) ⟨rfl, (show InK .i64 (-1) from by decide)⟩ (Option.some.inj hm)
  ·
    replace hm := bif_f hm hc17
    refine Wp_skip ?_
    refine Wp_seq ?_
    refine Wp_seq ?_
    refine Wp_region ?_  -- 7 cmp.go:49
    refine Rg_op rfl (op_move (v := (Value.bool isnan_2)) rfl ?_)
    refine Rg_nil ?_
    refine Wp_cond rfl (fun hc19 => ?_) (fun hc19 => ?_)
    ·
      replace hm := bif_t hm hc19
      refine Wp_seq ?_
      refine Wp_region ?_  -- 8 cmp.go:50
      refine Rg_op rfl (op_assign (v := (Value.int .i64 1)) rfl ?_)
      refine Rg_nil ?_
      refine Wp_ret ?_
      have hz := step_all hs14
      refine ⟨_, (show Closes [] _ _ from rfl), [(Value.int .i64 1)], ⟨rfl, trivial⟩, hs14.ext, ?_⟩
      exact Vr.eq (a := (vI .i64)) (x := 1) ⟨rfl, (show InK .i64 1 from by decide)⟩ (Option.some.inj hm)
    ·
      replace hm := bif_f hm hc19
      refine Wp_skip ?_
      refine Wp_seq ?_
      refine Wp_seq ?_
      refine Wp_region ?_  -- 9 cmp.go:52
      refine Rg_op rfl (op_move (v := (Value.int .i64 x_)) rfl ?_)
      refine Rg_op rfl (op_move (v := (Value.int .i64 y)) rfl ?_)
      refine Rg_op rfl (op_lss rfl rfl ?_)
      refine Rg_nil ?_
      refine Wp_cond rfl (fun hc20 => ?_) (fun hc20 => ?_)
      ·
        replace hm := bif_t hm hc20
        refine Wp_seq ?_
        refine Wp_region ?_  -- 10 cmp.go:53
        refine Rg_op rfl (op_assign (v := (Value.int .i64 (-1))) rfl ?_)
        refine Rg_nil ?_
        refine Wp_ret ?_
        have hz := step_all hs14
        refine ⟨_, (show Closes [] _ _ from rfl), [(Value.int .i64 (-1))], ⟨rfl, trivial⟩, hs14.ext, ?_⟩
        exact Vr.eq (a := (vI .i64)) (x := (-1)) ⟨rfl, (show InK .i64 (-1) from by decide)⟩ (Option.some.inj hm)
      ·
        replace hm := bif_f hm hc20
        refine Wp_skip ?_
        refine Wp_seq ?_
        refine Wp_seq ?_
        refine Wp_region ?_  -- 11 cmp.go:55
        refine Rg_op rfl (op_move (v := (Value.int .i64 x_)) rfl ?_)
        refine Rg_op rfl (op_move (v := (Value.int .i64 y)) rfl ?_)
        refine Rg_op rfl (op_gtr rfl rfl ?_)
        refine Rg_nil ?_
        refine Wp_cond rfl (fun hc21 => ?_) (fun hc21 => ?_)
        ·
          replace hm := bif_t hm hc21
          refine Wp_seq ?_
          refine Wp_region ?_  -- 12 cmp.go:56
          refine Rg_op rfl (op_assign (v := (Value.int .i64 1)) rfl ?_)
          refine Rg_nil ?_
          refine Wp_ret ?_
          have hz := step_all hs14
          refine ⟨_, (show Closes [] _ _ from rfl), [(Value.int .i64 1)], ⟨rfl, trivial⟩, hs14.ext, ?_⟩
          exact Vr.eq (a := (vI .i64)) (x := 1) ⟨rfl, (show InK .i64 1 from by decide)⟩ (Option.some.inj hm)
        ·
          replace hm := bif_f hm hc21
          refine Wp_skip ?_
          refine Wp_seq ?_
          refine Wp_region ?_  -- 13 cmp.go:58
          refine Rg_op rfl (op_assign (v := (Value.int .i64 0)) rfl ?_)
          refine Rg_nil ?_
          refine Wp_ret ?_
          have hz := step_all hs14
          refine ⟨_, (show Closes [] _ _ from rfl), [(Value.int .i64 0)], ⟨rfl, trivial⟩, hs14.ext, ?_⟩
          exact Vr.eq (a := (vI .i64)) (x := 0) ⟨rfl, (show InK .i64 0 from by decide)⟩ (Option.some.inj hm)

end Go.Fx


set_option linter.unusedVariables false
set_option linter.unusedSimpArgs false
set_option maxRecDepth 100000
set_option maxHeartbeats 0
namespace Go.Fx
open Go Go.RowKit Go.Proofs
def m34_slices_Compareint_int__B0 (s1_ : List Int) (s2_ : List Int) (sf3 : Int → Option Int) (v_1 : Int) : Option Int :=
  bif (decide (v_1 < (s1_.length : Int))) then
    ck ((0 : Int) ≤ v_1 ∧ v_1 < (s1_.length : Int)) <|
    bif (decide ((s2_.length : Int) ≤ v_1)) then
      some 1
    else
      ck ((0 : Int) ≤ v_1 ∧ v_1 < (s2_.length : Int)) <|
      (m48_cmp_Compare (s1_.getD v_1.toNat default) (s2_.getD v_1.toNat default)).bind fun compare_1 =>
      bif (decide (compare_1 ≠ 0)) then
        some compare_1
      else
        sf3 (IntKind.wrap .i64 (v_1 + 1))
  else
    bif (decide ((s1_.length : Int) < (s2_.length : Int))) then
      some (-1)
    else
      some 0

def m34_slices_Compareint_int_ (s1_ : List Int) (s2_ : List Int) : Option Int :=
  loop1 (m34_slices_Compareint_int__B0 s1_ s2_) (((s1_.length : Int) - 0).toNat + 1) 0

theorem c34_slices_Compareint_int_ {w : World} {O : List Nat} {s1_ : List Int} {s2_ : List Int} {a_s1_ : Option Addr} {c_s1_ : Nat} {a_s2_ : Option Addr} {c_s2_ : Nat} (hO : ∀ k ∈ O, k < w.heap.size) (f_s1_ : SlR (rInt .i64) w O a_s1_ c_s1_ s1_) (f_s2_ : SlR (rInt .i64) w O a_s2_ c_s2_ s2_) {x : Int} (hm : m34_slices_Compareint_int_ s1_ s2_ = some x) :
    Ok Try.prog 34 [(Value.slice a_s1_ s1_.length c_s1_), (Value.slice a_s2_ s2_.length c_s2_)] w O (vI .i64) x := by
  unfold m34_slices_Compareint_int_ at hm
  refine Fn_of_Wp (n := 36) (xs := [.tmp 4]) Try.func34 rfl Try.ntmps34 Try.results34 rfl ?_
  have hs := St.start hO
  refine Wp_seq ?_
  refine Wp_region ?_  -- 0 slices.go:57
  refine Rg_op rfl (op_assign (v := (Value.int .i64 0)) rfl ?_)
  refine Rg_nil ?_
  refine Wp_seq ?_
  refine Wp_seq ?_
  refine Wp_region ?_  -- 1 slices.go:58
  refine Rg_op rfl (op_move (v := (Value.slice a_s1_ s1_.length c_s1_)) rfl ?_)
  refine Rg_op rfl (op_len Try.underlying22 rfl ?_)
  refine Rg_op rfl (op_move (v := (Value.int .i64 0)) rfl ?_)
  refine Rg_nil ?_
  refine Wp_block ?_
  refine Wp_reset [] [(0, (Value.slice a_s1_ s1_.length c_s1_)), (1, (Value.slice a_s2_ s2_.length c_s2_)), (9, (Value.slice a_s1_ s1_.length c_s1_)), (10, (Value.int .i64 (s1_.length : Int))), (11, (Value.int .i64 0))] rfl ⟨rfl, rfl, rfl, rfl, rfl, trivial⟩ fun ξ2 => ?_
  refine Wp_loopM [4, 5, 6, 7, 8, 11, 12, 13, 14, 15, 16, 17, 18, 19, 20, 21, 22, 23, 24, 25, 26, 27, 28, 29, 30] (fun m fr w' => ∃ (v_1 : Int) (Ebs : Ents), Ebs = [] ∧ fr [] [(11, (Value.int .i64 v_1))] ∧ Step (ks [] O) w (ks Ebs O) w' ∧ St ⟨w, [], []⟩ O w' Ebs ∧ InK .i64 v_1 ∧ loop1 (m34_slices_Compareint_int__B0 s1_ s2_) m v_1 = some x) (((s1_.length : Int) - 0).toNat + 1) ⟨0, _, rfl, ⟨Out.refl _ _, rfl, rfl, trivial⟩, Step.refl _ _, hs, (show InK .i64 0 from by decide), hm⟩ ?_ ?_
  · rintro _ _ ⟨_, _, _, _, _, _, _, hm⟩; exact loop1_z hm
  · rintro m6 K5 hK5 ρ11 w7 ⟨v_1, Ebs, hEbs, hfr10, hst9, hs8, r_y1, hm⟩
    obtain ⟨sf3, hsf4, hm⟩ := loop1_s hm; unfold m34_slices_Compareint_int__B0 at hm
    subst hEbs; rw [hfr10.eq]; clear hfr10
    replace f_s1_ := f_s1_.step hst9
    replace f_s2_ := f_s2_.step hst9
    have ch12 := hst9
    refine Wp_seq ?_
    refine Wp_region ?_  -- 2 slices.go:58
    refine Rg_op rfl (op_lss rfl rfl ?_)
    refine Rg_nil ?_
    refine Wp_seq ?_
    refine Wp_cond rfl (fun hc13 => ?_) (fun hc13 => ?_)
    ·
      replace hm := bif_t hm hc13
      refine Wp_skip ?_
      refine Wp_seq ?_
      refine Wp_block ?_
      refine Wp_seq ?_
      refine Wp_region ?_  -- 3 slices.go:58
      refine Rg_op rfl (op_move (v := (Value.int .i64 v_1)) rfl ?_)
      replace hm := ck_some hm; obtain ⟨hc14, hm⟩ := hm
      refine Rg_op rfl (op_indexAddr (q := (rInt .i64)) ty22 ty3 rfl rfl f_s1_ rfl hc14.1 hc14.2 ?_)
      intro p15 f16
      refine Rg_op rfl (op_loadP ty3 rfl f16 rfl ?_)
      intro v17 h18
      obtain ⟨rfl, r_y19⟩ := un_int h18
      refine Rg_op rfl (op_assign (v := (Value.int .i64 v_1)) rfl ?_)
      refine Rg_op rfl (op_assign (v := (Value.int .i64 (s1_.getD v_1.toNat default))) rfl ?_)
      refine Rg_nil ?_
      refine Wp_seq ?_
      refine Wp_seq ?_
      clear f16
      refine Wp_region ?_  -- 4 slices.go:59
      refine Rg_op rfl (op_move (v := (Value.int .i64 v_1)) rfl ?_)
      refine Rg_op rfl (op_move (v := (Value.slice a_s2_ s2_.length c_s2_)) rfl ?_)
      refine Rg_op rfl (op_len Try.underlying22 rfl ?_)
      refine Rg_op rfl (op_geq rfl rfl ?_)
      refine Rg_nil ?_
      refine Wp_cond rfl (fun hc20 => ?_) (fun hc20 => ?_)
      ·
        replace hm := bif_t hm hc20
        refine Wp_seq ?_
        clear f_s1_ f_s2_
        refine Wp_region ?_  -- 5 slices.go:60
        refine Rg_op rfl (op_assign (v := (Value.int .i64 1)) rfl ?_)
        refine Rg_nil ?_
        refine Wp_ret ?_
        have hz := step_all hs8
        refine ⟨_, (show Closes [] _ _ from rfl), [(Value.int .i64 1)], ⟨rfl, trivial⟩, hs8.ext, ?_⟩
        exact Vr.eq (a := (vI .i64)) (x := 1) ⟨rfl, (show InK .i64 1 from by decide)⟩ (Option.some.inj hm)
      ·
        replace hm := bif_f hm hc20
        refine Wp_skip ?_
        refine Wp_seq ?_
        refine Wp_region ?_  -- 6 slices.go:62
        refine Rg_op rfl (op_move (v := (Value.slice a_s2_ s2_.length c_s2_)) rfl ?_)
        refine Rg_op rfl (op_move (v := (Value.int .i64 v_1)) rfl ?_)
        replace hm := ck_some hm; obtain ⟨hc21, hm⟩ := hm
        refine Rg_op rfl (op_indexAddr (q := (rInt .i64)) ty22 ty3 rfl rfl f_s2_ rfl hc21.1 hc21.2 ?_)
        intro p22 f23
        refine Rg_op rfl (op_loadP ty3 rfl f23 rfl ?_)
        intro v24 h25
        obtain ⟨rfl, r_y26⟩ := un_int h25
        refine Rg_op rfl (op_assign (v := (Value.int .i64 (s2_.getD v_1.toNat default))) rfl ?_)
        refine Rg_nil ?_
        refine Wp_seq ?_
        clear f23
        refine Wp_region ?_  -- 7 slices.go:63
        refine Rg_op rfl (op_move (v := (Value.int .i64 (s1_.getD v_1.toNat default))) rfl ?_)
        refine Rg_op rfl (op_move (v := (Value.int .i64 (s2_.getD v_1.toNat default))) rfl ?_)
        replace hm := bd hm; obtain ⟨compare_1, hv27, hm⟩ := hm
        refine Rg_op rfl (op_call Try.call48 (c48_cmp_Compare (x_ := (s1_.getD v_1.toNat default)) (y := (s2_.getD v_1.toNat default)) hs8.ltw r_y19 r_y26 hv27) rfl ?_)
        rintro v28 w29 ⟨hx30, h31⟩
        have hs32 := hs8.call hx30
        have p33 := Step.ext (O := ks [] O) hx30
        clear hx30
        replace f_s1_ := f_s1_.step p33
        replace f_s2_ := f_s2_.step p33
        replace ch12 := ch12.trans p33
        clear p33 hs8
        obtain ⟨rfl, r_y34⟩ := h31
        refine Rg_op rfl (op_assign (v := (Value.int .i64 compare_1)) rfl ?_)
        refine Rg_nil ?_
        refine Wp_seq ?_
        refine Wp_region ?_  -- 8 slices.go:63
        refine Rg_op rfl (op_move (v := (Value.int .i64 compare_1)) rfl ?_)
        refine Rg_op rfl (op_neq rfl rfl ?_)
        refine Rg_nil ?_
        refine Wp_cond rfl (fun hc35 => ?_) (fun hc35 => ?_)
        ·
          replace hm := bif_t hm hc35
          refine Wp_seq ?_
          clear f_s1_ f_s2_
          refine Wp_region ?_  -- 9 slices.go:64
          refine Rg_op rfl (op_move (v := (Value.int .i64 compare_1)) rfl ?_)
          refine Rg_op rfl (op_assign (v := (Value.int .i64 compare_1)) rfl ?_)
          refine Rg_nil ?_
          refine Wp_ret ?_
          have hz := step_all hs32
          refine ⟨_, (show Closes [] _ _ from rfl), [(Value.int .i64 compare_1)], ⟨rfl, trivial⟩, hs32.ext, ?_⟩
          exact Vr.eq (a := (vI .i64)) (x := compare_1) ⟨rfl, r_y34⟩ (Option.some.inj hm)
        ·
          replace hm := bif_f hm hc35
          refine Wp_skip ?_
          refine Wp_region ?_  -- 10 slices.go:58
          refine Rg_op rfl (op_addw rfl rfl ?_)
          refine Rg_op rfl (op_move (v := (Value.int .i64 (IntKind.wrap .i64 (v_1 + 1)))) rfl ?_)
          refine Rg_nil ?_
          exact hK5 _ _ ⟨(IntKind.wrap .i64 (v_1 + 1)), _, rfl, ⟨(by repeat (first | with_reducible exact Out.refl _ _ | refine Out.upd ?_ rfl | refine Out.updL ?_ rfl | refine Out.mix' ?_ rfl | exact Out.refl _ _)), rfl, rfl, trivial⟩, ch12, hs32, (inK_wrap .i64 _), jnE1 hsf4 hm⟩
    ·
      replace hm := bif_f hm hc13
      refine Wp_exit ?_
      refine Wp_seq ?_
      refine Wp_seq ?_
      refine Wp_region ?_  -- 11 slices.go:67
      refine Rg_op rfl (op_move (v := (Value.slice a_s1_ s1_.length c_s1_)) rfl ?_)
      refine Rg_op rfl (op_len Try.underlying22 rfl ?_)
      refine Rg_op rfl (op_move (v := (Value.slice a_s2_ s2_.length c_s2_)) rfl ?_)
      refine Rg_op rfl (op_len Try.underlying22 rfl ?_)
      refine Rg_op rfl (op_lss rfl rfl ?_)
      refine Rg_nil ?_
      refine Wp_cond rfl (fun hc36 => ?_) (fun hc36 => ?_)
      ·
        replace hm := bif_t hm hc36
        refine Wp_seq ?_
        clear f_s1_ f_s2_
        refine Wp_region ?_  -- 12 slices.go:68
        refine Rg_op rfl (op_assign (v := (Value.int .i64 (-1))) rfl ?_)
        refine Rg_nil ?_
        refine Wp_ret ?_
        have hz := step_all hs8
        refine ⟨_, (show Closes [] _ _ from rfl), [(Value.int .i64 (-1))], ⟨rfl, trivial⟩, hs8.ext, ?_⟩
        exact Vr.eq (a := (vI .i64)) (x := (-1)) ⟨rfl, (show InK .i64 (-1) from by decide)⟩ (Option.some.inj hm)
      ·
        replace hm := bif_f hm hc36
        refine Wp_skip ?_
        refine Wp_seq ?_
        clear f_s1_ f_s2_
        refine Wp_region ?_  -- 13 slices.go:70
        refine Rg_op rfl (op_assign (v := (Value.int .i64 0)) rfl ?_)
        refine Rg_nil ?_
        refine Wp_ret ?_
        have hz := step_all hs8
        refine ⟨_, (show Closes [] _ _ from rfl), [(Value.int .i64 0)], ⟨rfl, trivial⟩, hs8.ext, ?_⟩
        exact Vr.eq (a := (vI .i64)) (x := 0) ⟨rfl, (show InK .i64 0 from by decide)⟩ (Option.some.inj hm)

end Go.Fx


set_option linter.unusedVariables false
set_option linter.unusedSimpArgs false
set_option maxRecDepth 100000
set_option maxHeartbeats 0
namespace Go.Fx
open Go Go.RowKit Go.Proofs
def m17_vector_Compare (a : List Int) (b : List Int) : Option (Int × Int) :=
  bif (decide ((a.length : Int) ≠ (b.length : Int))) then
    some (0, 60)
  else
    (m34_slices_Compareint_int_ a b).bind fun compare_1 =>
    some (compare_1, 0)

theorem c17_vector_Compare {w : World} {O : List Nat} {a : List Int} {b : List Int} {a_a : Option Addr} {c_a : Nat} {a_b : Option Addr} {c_b : Nat} (hO : ∀ k ∈ O, k < w.heap.size) (f_a : SlR (rInt .i64) w O a_a c_a a) (f_b : SlR (rInt .i64) w O a_b c_b b) {x : Int × Int} (hm : m17_vector_Compare a b = some x) :
    Ok Try.prog 17 [(Value.slice a_a a.length c_a), (Value.slice a_b b.length c_b)] w O (vT2 (vI .i64) (vI .i64)) x := by
  unfold m17_vector_Compare at hm
  refine Fn_of_Wp (n := 14) (xs := [.tmp 4, .tmp 5]) Try.func17 rfl Try.ntmps17 Try.results17 rfl ?_
  have hs := St.start hO
  refine Wp_seq ?_
  refine Wp_region ?_  -- 0 vector.go:65
  refine Rg_op rfl (op_assign (v := (Value.int .i64 0)) rfl ?_)
  refine Rg_op rfl (op_assign (v := (Value.int .i64 0)) rfl ?_)
  refine Rg_nil ?_
  refine Wp_seq ?_
  refine Wp_seq ?_
  refine Wp_region ?_  -- 1 vector.go:66
  refine Rg_op rfl (op_move (v := (Value.slice a_a a.length c_a)) rfl ?_)
  refine Rg_op rfl (op_len Try.underlying22 rfl ?_)
  refine Rg_op rfl (op_move (v := (Value.slice a_b b.length c_b)) rfl ?_)
  refine Rg_op rfl (op_len Try.underlying22 rfl ?_)
  refine Rg_op rfl (op_neq rfl rfl ?_)
  refine Rg_nil ?_
  refine Wp_cond rfl (fun hc1 => ?_) (fun hc1 => ?_)
  ·
    replace hm := bif_t hm hc1
    refine Wp_seq ?_
    clear f_a f_b
    refine Wp_region ?_  -- 2 vector.go:67
    refine Rg_op rfl (op_assign (v := (Value.int .i64 0)) rfl ?_)
    refine Rg_op rfl (op_assign (v := (Value.int .i64 60)) rfl ?_)
    refine Rg_nil ?_
    refine Wp_ret ?_
    have hz := step_all hs
    refine ⟨_, (show Closes [] _ _ from rfl), [(Value.int .i64 0), (Value.int .i64 60)], ⟨rfl, rfl, trivial⟩, hs.ext, ?_⟩
    exact Vr.eq (a := (vT2 (vI .i64) (vI .i64))) (x := (0, 60)) (mkT2 ⟨rfl, (show InK .i64 0 from by decide)⟩ ⟨rfl, (show InK .i64 60 from by decide)⟩) (Option.some.inj hm)
  ·
    replace hm := bif_f hm hc1
    refine Wp_skip ?_
    refine Wp_seq ?_
    refine Wp_region ?_  -- 3 vector.go:69
    refine Rg_op rfl (op_move (v := (Value.slice a_a a.length c_a)) rfl ?_)
    refine Rg_op rfl (op_move (v := (Value.slice a_b b.length c_b)) rfl ?_)
    replace hm := bd hm; obtain ⟨compare_1, hv2, hm⟩ := hm
    refine Rg_op rfl (op_call Try.call34 (c34_slices_Compareint_int_ (s1_ := a) (s2_ := b) hs.ltw f_a f_b hv2) rfl ?_)
    rintro v3 w4 ⟨hx5, h6⟩
    have hs7 := hs.call hx5
    have p8 := Step.ext (O := ks [] O) hx5
    clear hx5
    replace f_a := f_a.step p8
    replace f_b := f_b.step p8
    clear p8
    obtain ⟨rfl, r_y9⟩ := h6
    refine Rg_op rfl (op_assign (v := (Value.int .i64 compare_1)) rfl ?_)
    refine Rg_op rfl (op_assign (v := (Value.int .i64 0)) rfl ?_)
    refine Rg_nil ?_
    refine Wp_ret ?_
    have hz := step_all hs7
    replace f_a := f_a.step hz
    replace f_b := f_b.step hz
    refine ⟨_, (show Closes [] _ _ from rfl), [(Value.int .i64 compare_1), (Value.int .i64 0)], ⟨rfl, rfl, trivial⟩, hs7.ext, ?_⟩
    exact Vr.eq (a := (vT2 (vI .i64) (vI .i64))) (x := (compare_1, 0)) (mkT2 ⟨rfl, r_y9⟩ ⟨rfl, (show InK .i64 0 from by decide)⟩) (Option.some.inj hm)

end Go.Fx


set_option linter.unusedVariables false
set_option linter.unusedSimpArgs false
set_option maxRecDepth 100000
set_option maxHeartbeats 0
namespace Go.Fx
open Go Go.RowKit Go.Proofs
def m35_overflightref06_Order_B0 (a : List Int) (b : List Int) (sf3 : Int → Option Int) (i_1 : Int) : Option Int :=
  bif (decide (i_1 < (a.length : Int))) then
    ck ((0 : Int) ≤ i_1 ∧ i_1 < (a.length : Int)) <|
    ck ((0 : Int) ≤ i_1 ∧ i_1 < (b.length : Int)) <|
    bif (decide ((a.getD i_1.toNat default) < (b.getD i_1.toNat default))) then
      some (-1)
    else
      ck ((0 : Int) ≤ i_1 ∧ i_1 < (a.length : Int)) <|
      ck ((0 : Int) ≤ i_1 ∧ i_1 < (b.length : Int)) <|
      bif (decide ((b.getD i_1.toNat default) < (a.getD i_1.toNat default))) then
        some 1
      else
        sf3 (IntKind.wrap .i64 (i_1 + 1))
  else
    some 0

def m35_overflightref06_Order (a : List Int) (b : List Int) : Option Int :=
  loop1 (m35_overflightref06_Order_B0 a b) (((a.length : Int) - 0).toNat + 1) 0

theorem c35_overflightref06_Order {w : World} {O : List Nat} {a : List Int} {b : List Int} {a_a : Option Addr} {c_a : Nat} {a_b : Option Addr} {c_b : Nat} (hO : ∀ k ∈ O, k < w.heap.size) (f_a : SlR (rInt .i64) w O a_a c_a a) (f_b : SlR (rInt .i64) w O a_b c_b b) {x : Int} (hm : m35_overflightref06_Order a b = some x) :
    Ok Try.prog 35 [(Value.slice a_a a.length c_a), (Value.slice a_b b.length c_b)] w O (vI .i64) x := by
  unfold m35_overflightref06_Order at hm
  refine Fn_of_Wp (n := 30) (xs := [.tmp 4]) Try.func35 rfl Try.ntmps35 Try.results35 rfl ?_
  have hs := St.start hO
  refine Wp_seq ?_
  refine Wp_region ?_  -- 0 ref.go:49
  refine Rg_op rfl (op_assign (v := (Value.int .i64 0)) rfl ?_)
  refine Rg_nil ?_
  refine Wp_seq ?_
  refine Wp_seq ?_
  refine Wp_region ?_  -- 1 ref.go:50
  refine Rg_op rfl (op_assign (v := (Value.int .i64 0)) rfl ?_)
  refine Rg_nil ?_
  refine Wp_block ?_
  refine Wp_reset [] [(0, (Value.slice a_a a.length c_a)), (1, (Value.slice a_b b.length c_b)), (5, (Value.int .i64 0))] rfl ⟨rfl, rfl, rfl, trivial⟩ fun ξ2 => ?_
  refine Wp_loopM [4, 5, 6, 7, 8, 9, 10, 11, 12, 13, 14, 15, 16, 17, 18, 19, 20, 21, 22, 23, 24, 25, 26, 27, 28, 29] (fun m fr w' => ∃ (i_1 : Int) (Ebs : Ents), Ebs = [] ∧ fr [] [(5, (Value.int .i64 i_1))] ∧ Step (ks [] O) w (ks Ebs O) w' ∧ St ⟨w, [], []⟩ O w' Ebs ∧ InK .i64 i_1 ∧ loop1 (m35_overflightref06_Order_B0 a b) m i_1 = some x) (((a.length : Int) - 0).toNat + 1) ⟨0, _, rfl, ⟨Out.refl _ _, rfl, rfl, trivial⟩, Step.refl _ _, hs, (show InK .i64 0 from by decide), hm⟩ ?_ ?_
  · rintro _ _ ⟨_, _, _, _, _, _, _, hm⟩; exact loop1_z hm
  · rintro m6 K5 hK5 ρ11 w7 ⟨i_1, Ebs, hEbs, hfr10, hst9, hs8, r_y1, hm⟩
    obtain ⟨sf3, hsf4, hm⟩ := loop1_s hm; unfold m35_overflightref06_Order_B0 at hm
    subst hEbs; rw [hfr10.eq]; clear hfr10
    replace f_a := f_a.step hst9
    replace f_b := f_b.step hst9
    have ch12 := hst9
    refine Wp_seq ?_
    refine Wp_seq ?_
    refine Wp_region ?_  -- 2 ref.go:50
    refine Rg_op rfl (op_move (v := (Value.int .i64 i_1)) rfl ?_)
    refine Rg_op rfl (op_move (v := (Value.slice a_a a.length c_a)) rfl ?_)
    refine Rg_op rfl (op_len Try.underlying22 rfl ?_)
    refine Rg_op rfl (op_lss rfl rfl ?_)
    refine Rg_nil ?_
    refine Wp_cond rfl (fun hc13 => ?_) (fun hc13 => ?_)
    ·
      replace hm := bif_t hm hc13
      refine Wp_skip ?_
      refine Wp_seq ?_
      refine Wp_block ?_
      refine Wp_seq ?_
      refine Wp_seq ?_
      refine Wp_drawR (g0 := []) (m := 8) (fl := []) (TS_inv hs8) (.inl rfl) rfl (by decide +kernel) ?_  -- 4
      refine Dw_eq (Value.slice a_a a.length c_a) (fun ρ14 w15 g hle hi ht => ?_) ?_
      ·
        obtain ⟨-, hst, -⟩ := hle
        refine StepOp_plain (op_move (v := (Value.slice a_a a.length c_a)) (ht 0 rfl) ?_)
        exact Goes.same hi rfl
      refine Dw_eq (Value.int .i64 i_1) (fun ρ17 w18 g hle hi ht => ?_) ?_
      ·
        obtain ⟨-, hst, -⟩ := hle
        refine StepOp_plain (op_move (v := (Value.int .i64 i_1)) (ht 5 rfl) ?_)
        exact Goes.same hi rfl
      replace hm := ck_some hm; obtain ⟨hc23, hm⟩ := hm
      refine Dw_op (VP O [] (rInt .i64) (a.getD i_1.toNat default)) (VP.stab _ _) (fun ρ20 w21 g hle hi ht => ?_) ?_
      ·
        obtain ⟨-, hst, -⟩ := hle
        replace f_a := f_a.step hst
        refine StepOp_plain (op_indexAddr (q := (rInt .i64)) ty22 ty3 (ht 12 rfl) (ht 13 rfl) f_a rfl hc23.1 hc23.2 ?_)
        intro p24 f25
        exact Goes.same hi ⟨_, rfl, f25⟩
      refine Dw_op (VD O [] (vI .i64) (a.getD i_1.toNat default)) (VD.stab _ _) (fun ρ26 w27 g hle hi ht => ?_) ?_
      ·
        obtain ⟨-, hst, -⟩ := hle
        obtain ⟨p29, q30, f31⟩ := ht 14 rfl
        refine StepOp_plain (op_loadP ty3 q30 f31 rfl ?_)
        intro v32 h33
        obtain ⟨rfl, r_y34⟩ := un_int h33
        exact Goes.same hi (show Vr.vd (vI .i64) _ _ _ _ from ⟨rfl, r_y34⟩)
      refine Dw_eq (Value.slice a_b b.length c_b) (fun ρ35 w36 g hle hi ht => ?_) ?_
      ·
        obtain ⟨-, hst, -⟩ := hle
        refine StepOp_plain (op_move (v := (Value.slice a_b b.length c_b)) (ht 1 rfl) ?_)
        exact Goes.same hi rfl
      refine Dw_eq (Value.int .i64 i_1) (fun ρ38 w39 g hle hi ht => ?_) ?_
      ·
        obtain ⟨-, hst, -⟩ := hle
        refine StepOp_plain (op_move (v := (Value.int .i64 i_1)) (ht 5 rfl) ?_)
        exact Goes.same hi rfl
      replace hm := ck_some hm; obtain ⟨hc44, hm⟩ := hm
      refine Dw_op (VP O [] (rInt .i64) (b.getD i_1.toNat default)) (VP.stab _ _) (fun ρ41 w42 g hle hi ht => ?_) ?_
      ·
        obtain ⟨-, hst, -⟩ := hle
        replace f_b := f_b.step hst
        refine StepOp_plain (op_indexAddr (q := (rInt .i64)) ty22 ty3 (ht 16 rfl) (ht 17 rfl) f_b rfl hc44.1 hc44.2 ?_)
        intro p45 f46
        exact Goes.same hi ⟨_, rfl, f46⟩
      refine Dw_op (VD O [] (vI .i64) (b.getD i_1.toNat default)) (VD.stab _ _) (fun ρ47 w48 g hle hi ht => ?_) ?_
      ·
        obtain ⟨-, hst, -⟩ := hle
        obtain ⟨p50, q51, f52⟩ := ht 18 rfl
        refine StepOp_plain (op_loadP ty3 q51 f52 rfl ?_)
        intro v53 h54
        obtain ⟨rfl, r_y55⟩ := un_int h54
        exact Goes.same hi (show Vr.vd (vI .i64) _ _ _ _ from ⟨rfl, r_y55⟩)
      refine Dw_nil fun w60 g61 hl62 hi63 => ?_
      obtain ⟨-, hst64, -⟩ := hl62
      obtain ⟨hs66, p65⟩ := Step.nx hi63
      rintro v67 h68
      replace h68 : Vr.vd (vI .i64) _ _ _ _ := h68
      obtain ⟨rfl, r_y69⟩ := h68
      rintro _ ⟨p70, rfl, f71⟩
      rintro _ rfl
      rintro _ rfl
      rintro v72 h73
      replace h73 : Vr.vd (vI .i64) _ _ _ _ := h73
      obtain ⟨rfl, r_y74⟩ := h73
      rintro _ ⟨p75, rfl, f76⟩
      rintro _ rfl
      rintro _ rfl
      have p77 : Step (ks [] O) w7 (ks [] O) w60 := hst64.trans p65
      replace f71 := f71.step p65
      replace f76 := f76.step p65
      replace f_a := f_a.step p77
      replace f_b := f_b.step p77
      replace ch12 := ch12.trans p77
      clear p77 hs8
      refine Rg_op rfl (op_lss rfl rfl ?_)
      refine Rg_nil ?_
      refine Wp_cond rfl (fun hc78 => ?_) (fun hc78 => ?_)
      ·
        replace hm := bif_t hm hc78
        refine Wp_seq ?_
        clear f_a f_b f71 f76
        refine Wp_region ?_  -- 5 ref.go:52
        refine Rg_op rfl (op_assign (v := (Value.int .i64 (-1))) rfl ?_)
        refine Rg_nil ?_
        refine Wp_ret ?_
        have hz := step_all hs66
        refine ⟨_, (show Closes [] _ _ from rfl), [(Value.int .i64 (-1))], ⟨rfl, trivial⟩, hs66.ext, ?_⟩
        exact Vr.eq (a := (vI .i64)) (x := (-1)) ⟨rfl, (show InK .i64 (-1) from by decide)⟩ (Option.some.inj hm)
      ·
        replace hm := bif_f hm hc78
        refine Wp_skip ?_
        refine Wp_seq ?_
        clear f71 f76
        refine Wp_drawR (g0 := []) (m := 8) (fl := []) (TS_inv hs66) (.inl rfl) rfl (by decide +kernel) ?_  -- 6
        refine Dw_eq (Value.slice a_a a.length c_a) (fun ρ79 w80 g hle hi ht => ?_) ?_
        ·
          obtain ⟨-, hst, -⟩ := hle
          refine StepOp_plain (op_move (v := (Value.slice a_a a.length c_a)) (ht 0 rfl) ?_)
          exact Goes.same hi rfl
        refine Dw_eq (Value.int .i64 i_1) (fun ρ82 w83 g hle hi ht => ?_) ?_
        ·
          obtain ⟨-, hst, -⟩ := hle
          refine StepOp_plain (op_move (v := (Value.int .i64 i_1)) (ht 5 rfl) ?_)
          exact Goes.same hi rfl
        replace hm := ck_some hm; obtain ⟨hc88, hm⟩ := hm
        refine Dw_op (VP O [] (rInt .i64) (a.getD i_1.toNat default)) (VP.stab _ _) (fun ρ85 w86 g hle hi ht => ?_) ?_
        ·
          obtain ⟨-, hst, -⟩ := hle
          replace f_a := f_a.step hst
          refine StepOp_plain (op_indexAddr (q := (rInt .i64)) ty22 ty3 (ht 21 rfl) (ht 22 rfl) f_a rfl hc88.1 hc88.2 ?_)
          intro p89 f90
          exact Goes.same hi ⟨_, rfl, f90⟩
        refine Dw_op (VD O [] (vI .i64) (a.getD i_1.toNat default)) (VD.stab _ _) (fun ρ91 w92 g hle hi ht => ?_) ?_
        ·
          obtain ⟨-, hst, -⟩ := hle
          obtain ⟨p94, q95, f96⟩ := ht 23 rfl
          refine StepOp_plain (op_loadP ty3 q95 f96 rfl ?_)
          intro v97 h98
          obtain ⟨rfl, r_y99⟩ := un_int h98
          exact Goes.same hi (show Vr.vd (vI .i64) _ _ _ _ from ⟨rfl, r_y99⟩)
        refine Dw_eq (Value.slice a_b b.length c_b) (fun ρ100 w101 g hle hi ht => ?_) ?_
        ·
          obtain ⟨-, hst, -⟩ := hle
          refine StepOp_plain (op_move (v := (Value.slice a_b b.length c_b)) (ht 1 rfl) ?_)
          exact Goes.same hi rfl
        refine Dw_eq (Value.int .i64 i_1) (fun ρ103 w104 g hle hi ht => ?_) ?_
        ·
          obtain ⟨-, hst, -⟩ := hle
          refine StepOp_plain (op_move (v := (Value.int .i64 i_1)) (ht 5 rfl) ?_)
          exact Goes.same hi rfl
        replace hm := ck_some hm; obtain ⟨hc109, hm⟩ := hm
        refine Dw_op (VP O [] (rInt .i64) (b.getD i_1.toNat default)) (VP.stab _ _) (fun ρ106 w107 g hle hi ht => ?_) ?_
        ·
          obtain ⟨-, hst, -⟩ := hle
          replace f_b := f_b.step hst
          refine StepOp_plain (op_indexAddr (q := (rInt .i64)) ty22 ty3 (ht 25 rfl) (ht 26 rfl) f_b rfl hc109.1 hc109.2 ?_)
          intro p110 f111
          exact Goes.same hi ⟨_, rfl, f111⟩
        refine Dw_op (VD O [] (vI .i64) (b.getD i_1.toNat default)) (VD.stab _ _) (fun ρ112 w113 g hle hi ht => ?_) ?_
        ·
          obtain ⟨-, hst, -⟩ := hle
          obtain ⟨p115, q116, f117⟩ := ht 27 rfl
          refine StepOp_plain (op_loadP ty3 q116 f117 rfl ?_)
          intro v118 h119
          obtain ⟨rfl, r_y120⟩ := un_int h119
          exact Goes.same hi (show Vr.vd (vI .i64) _ _ _ _ from ⟨rfl, r_y120⟩)
        refine Dw_nil fun w125 g126 hl127 hi128 => ?_
        obtain ⟨-, hst129, -⟩ := hl127
        obtain ⟨hs131, p130⟩ := Step.nx hi128
        rintro v132 h133
        replace h133 : Vr.vd (vI .i64) _ _ _ _ := h133
        obtain ⟨rfl, r_y134⟩ := h133
        rintro _ ⟨p135, rfl, f136⟩
        rintro _ rfl
        rintro _ rfl
        rintro v137 h138
        replace h138 : Vr.vd (vI .i64) _ _ _ _ := h138
        obtain ⟨rfl, r_y139⟩ := h138
        rintro _ ⟨p140, rfl, f141⟩
        rintro _ rfl
        rintro _ rfl
        have p142 : Step (ks [] O) w60 (ks [] O) w125 := hst129.trans p130
        replace f136 := f136.step p130
        replace f141 := f141.step p130
        replace f_a := f_a.step p142
        replace f_b := f_b.step p142
        replace ch12 := ch12.trans p142
        clear p142 hs66
        refine Rg_op rfl (op_gtr rfl rfl ?_)
        refine Rg_nil ?_
        refine Wp_cond rfl (fun hc143 => ?_) (fun hc143 => ?_)
        ·
          replace hm := bif_t hm hc143
          refine Wp_seq ?_
          clear f_a f_b f136 f141
          refine Wp_region ?_  -- 7 ref.go:55
          refine Rg_op rfl (op_assign (v := (Value.int .i64 1)) rfl ?_)
          refine Rg_nil ?_
          refine Wp_ret ?_
          have hz := step_all hs131
          refine ⟨_, (show Closes [] _ _ from rfl), [(Value.int .i64 1)], ⟨rfl, trivial⟩, hs131.ext, ?_⟩
          exact Vr.eq (a := (vI .i64)) (x := 1) ⟨rfl, (show InK .i64 1 from by decide)⟩ (Option.some.inj hm)
        ·
          replace hm := bif_f hm hc143
          refine Wp_skip ?_
          clear f136 f141
          refine Wp_region ?_  -- 3 ref.go:50
          refine Rg_op rfl (op_move (v := (Value.int .i64 i_1)) rfl ?_)
          refine Rg_op rfl (op_addw rfl rfl ?_)
          refine Rg_op rfl (op_assign (v := (Value.int .i64 (IntKind.wrap .i64 (i_1 + 1)))) rfl ?_)
          refine Rg_nil ?_
          exact hK5 _ _ ⟨(IntKind.wrap .i64 (i_1 + 1)), _, rfl, ⟨(by repeat (first | with_reducible exact Out.refl _ _ | refine Out.upd ?_ rfl | refine Out.updL ?_ rfl | refine Out.mix' ?_ rfl | exact Out.refl _ _)), rfl, rfl, trivial⟩, ch12, hs131, (inK_wrap .i64 _), jnE1 hsf4 hm⟩
    ·
      replace hm := bif_f hm hc13
      refine Wp_exit ?_
      refine Wp_seq ?_
      clear f_a f_b
      refine Wp_region ?_  -- 8 ref.go:58
      refine Rg_op rfl (op_assign (v := (Value.int .i64 0)) rfl ?_)
      refine Rg_nil ?_
      refine Wp_ret ?_
      have hz := step_all hs8
      refine ⟨_, (show Closes [] _ _ from rfl), [(Value.int .i64 0)], ⟨rfl, trivial⟩, hs8.ext, ?_⟩
      exact Vr.eq (a := (vI .i64)) (x := 0) ⟨rfl, (show InK .i64 0 from by decide)⟩ (Option.some.inj hm)

end Go.Fx


set_option linter.unusedVariables false
set_option linter.unusedSimpArgs false
set_option maxRecDepth 100000
set_option maxHeartbeats 0
namespace Go.Fx
open Go Go.RowKit Go.Proofs
def m19_overflightref06_Same (a : List Int) (b : List Int) : Option Bool :=
  bif (decide ((a.length : Int) = (b.length : Int))) then
    (m35_overflightref06_Order a b).bind fun order_1 =>
    some (decide (order_1 = 0))
  else
    some false

theorem c19_overflightref06_Same {w : World} {O : List Nat} {a : List Int} {b : List Int} {a_a : Option Addr} {c_a : Nat} {a_b : Option Addr} {c_b : Nat} (hO : ∀ k ∈ O, k < w.heap.size) (f_a : SlR (rInt .i64) w O a_a c_a a) (f_b : SlR (rInt .i64) w O a_b c_b b) {x : Bool} (hm : m19_overflightref06_Same a b = some x) :
    Ok Try.prog 19 [(Value.slice a_a a.length c_a), (Value.slice a_b b.length c_b)] w O vB x := by
  unfold m19_overflightref06_Same at hm
  refine Fn_of_Wp (n := 16) (xs := [.tmp 4]) Try.func19 rfl Try.ntmps19 Try.results19 rfl ?_
  have hs := St.start hO
  refine Wp_seq ?_
  refine Wp_region ?_  -- 0 ref.go:176
  refine Rg_op rfl (op_assign (v := (Value.bool false)) rfl ?_)
  refine Rg_nil ?_
  refine Wp_seq ?_
  refine Wp_region ?_  -- 1 ref.go:177
  refine Rg_op rfl (op_move (v := (Value.slice a_a a.length c_a)) rfl ?_)
  refine Rg_op rfl (op_len Try.underlying22 rfl ?_)
  refine Rg_op rfl (op_move (v := (Value.slice a_b b.length c_b)) rfl ?_)
  refine Rg_op rfl (op_len Try.underlying22 rfl ?_)
  refine Rg_op rfl (op_eql rfl rfl ?_)
  refine Rg_op rfl (op_move (v := (Value.bool (decide ((a.length : Int) = (b.length : Int))))) rfl ?_)
  refine Rg_case (fun hg1 => ?_) (fun hg1 => ?_)
  ·
    replace hm := bif_t hm hg1
    refine Rg_opg rfl rfl rfl (op_move (v := (Value.slice a_a a.length c_a)) rfl ?_)
    refine Rg_opg rfl rfl rfl (op_move (v := (Value.slice a_b b.length c_b)) rfl ?_)
    replace hm := bd hm; obtain ⟨order_1, hv2, hm⟩ := hm
    refine Rg_opg rfl rfl rfl (op_call Try.call35 (c35_overflightref06_Order (a := a) (b := b) hs.ltw f_a f_b hv2) rfl ?_)
    rintro v3 w4 ⟨hx5, h6⟩
    have hs7 := hs.call hx5
    have p8 := Step.ext (O := ks [] O) hx5
    clear hx5
    replace f_a := f_a.step p8
    replace f_b := f_b.step p8
    clear p8
    obtain ⟨rfl, r_y9⟩ := h6
    refine Rg_opg rfl rfl rfl (op_eql rfl rfl ?_)
    refine Rg_op rfl (op_pick_t (v := (Value.bool (decide (order_1 = 0)))) rfl rfl ?_)
    refine Rg_op rfl (op_assign (v := (Value.bool (decide (order_1 = 0)))) rfl ?_)
    refine Rg_nil ?_
    refine Wp_ret ?_
    have hz := step_all hs7
    replace f_a := f_a.step hz
    replace f_b := f_b.step hz
    refine ⟨_, (show Closes [] _ _ from rfl), [(Value.bool (decide (order_1 = 0)))], ⟨rfl, trivial⟩, hs7.ext, ?_⟩
    exact Vr.eq (a := vB) (x := (decide (order_1 = 0))) rfl (Option.some.inj hm)
  ·
    replace hm := bif_f hm hg1
    refine Rg_opx rfl (asB_ne rfl rfl) rfl ?_
    refine Rg_opx rfl (asB_ne rfl rfl) rfl ?_
    refine Rg_opx rfl (asB_ne rfl rfl) rfl ?_
    refine Rg_opx rfl (asB_ne rfl rfl) rfl ?_
    refine Rg_op rfl (op_pick_f (v := (Value.bool false)) rfl rfl ?_)
    refine Rg_op rfl (op_assign (v := (Value.bool false)) rfl ?_)
    refine Rg_nil ?_
    refine Wp_ret ?_
    have hz := step_all hs
    replace f_a := f_a.step hz
    replace f_b := f_b.step hz
    refine ⟨_, (show Closes [] _ _ from rfl), [(Value.bool false)], ⟨rfl, trivial⟩, hs.ext, ?_⟩
    exact Vr.eq (a := vB) (x := false) rfl (Option.some.inj hm)

end Go.Fx


set_option linter.unusedVariables false
set_option linter.unusedSimpArgs false
set_option maxRecDepth 100000
set_option maxHeartbeats 0
namespace Go.Fx
open Go Go.RowKit Go.Proofs
def m56_slices_IndexFuncint_int__B0 (s : List (List Int)) (f : Option ((List Int) → Option Bool)) (sf3 : Int → Option Int) (v_1 : Int) : Option Int :=
  bif (decide (v_1 < (s.length : Int))) then
    ck ((0 : Int) ≤ v_1 ∧ v_1 < (s.length : Int)) <|
    (callO f (s.getD v_1.toNat default)).bind fun r_1 =>
    bif r_1 then
      some v_1
    else
      sf3 (IntKind.wrap .i64 (v_1 + 1))
  else
    some (-1)

def m56_slices_IndexFuncint_int_ (s : List (List Int)) (f : Option ((List Int) → Option Bool)) : Option Int :=
  loop1 (m56_slices_IndexFuncint_int__B0 s f) (((s.length : Int) - 0).toNat + 1) 0

theorem c56_slices_IndexFuncint_int_ {w : World} {O : List Nat} {s : List (List Int)} {f : Option ((List Int) → Option Bool)} {a_s : Option Addr} {c_s : Nat} {v_f : Value} (hO : ∀ k ∈ O, k < w.heap.size) (f_s : SlR (rSl (rInt .i64)) w O a_s c_s s) (F_f : CallsO1 Try.prog w O v_f (vC (rSl (rInt .i64))) vB f) {x : Int} (hm : m56_slices_IndexFuncint_int_ s f = some x) :
    Ok Try.prog 56 [(Value.slice a_s s.length c_s), v_f] w O (vI .i64) x := by
  unfold m56_slices_IndexFuncint_int_ at hm
  refine Fn_of_Wp (n := 19) (xs := [.tmp 4]) Try.func56 rfl Try.ntmps56 Try.results56 rfl ?_
  have hs := St.start hO
  refine Wp_seq ?_
  refine Wp_region ?_  -- 0 slices.go:107
  refine Rg_op rfl (op_assign (v := (Value.int .i64 0)) rfl ?_)
  refine Rg_nil ?_
  refine Wp_seq ?_
  refine Wp_seq ?_
  refine Wp_region ?_  -- 1 slices.go:108
  refine Rg_op rfl (op_move (v := (Value.slice a_s s.length c_s)) rfl ?_)
  refine Rg_op rfl (op_len Try.underlying33 rfl ?_)
  refine Rg_op rfl (op_move (v := (Value.int .i64 0)) rfl ?_)
  refine Rg_nil ?_
  refine Wp_block ?_
  refine Wp_reset [] [(0, (Value.slice a_s s.length c_s)), (1, v_f), (7, (Value.int .i64 (s.length : Int))), (8, (Value.int .i64 0))] rfl ⟨rfl, rfl, rfl, rfl, trivial⟩ fun ξ2 => ?_
  refine Wp_loopM [4, 5, 8, 9, 10, 11, 12, 13, 14, 15, 16, 17, 18] (fun m fr w' => ∃ (v_1 : Int) (Ebs : Ents), Ebs = [] ∧ fr [] [(8, (Value.int .i64 v_1))] ∧ Step (ks [] O) w (ks Ebs O) w' ∧ St ⟨w, [], []⟩ O w' Ebs ∧ InK .i64 v_1 ∧ loop1 (m56_slices_IndexFuncint_int__B0 s f) m v_1 = some x) (((s.length : Int) - 0).toNat + 1) ⟨0, _, rfl, ⟨Out.refl _ _, rfl, rfl, trivial⟩, Step.refl _ _, hs, (show InK .i64 0 from by decide), hm⟩ ?_ ?_
  · rintro _ _ ⟨_, _, _, _, _, _, _, hm⟩; exact loop1_z hm
  · rintro m6 K5 hK5 ρ11 w7 ⟨v_1, Ebs, hEbs, hfr10, hst9, hs8, r_y1, hm⟩
    obtain ⟨sf3, hsf4, hm⟩ := loop1_s hm; unfold m56_slices_IndexFuncint_int__B0 at hm
    subst hEbs; rw [hfr10.eq]; clear hfr10
    replace f_s := f_s.step hst9
    replace F_f := F_f.step hst9
    have ch12 := hst9
    refine Wp_seq ?_
    refine Wp_region ?_  -- 2 slices.go:108
    refine Rg_op rfl (op_lss rfl rfl ?_)
    refine Rg_nil ?_
    refine Wp_seq ?_
    refine Wp_cond rfl (fun hc13 => ?_) (fun hc13 => ?_)
    ·
      replace hm := bif_t hm hc13
      refine Wp_skip ?_
      refine Wp_seq ?_
      refine Wp_block ?_
      refine Wp_seq ?_
      refine Wp_region ?_  -- 3 slices.go:108
      refine Rg_op rfl (op_move (v := (Value.int .i64 v_1)) rfl ?_)
      refine Rg_op rfl (op_assign (v := (Value.int .i64 v_1)) rfl ?_)
      refine Rg_nil ?_
      refine Wp_seq ?_
      refine Wp_region ?_  -- 4 slices.go:109
      refine Rg_op rfl (op_move (v := v_f) rfl ?_)
      refine Rg_op rfl (op_move (v := (Value.slice a_s s.length c_s)) rfl ?_)
      refine Rg_op rfl (op_move (v := (Value.int .i64 v_1)) rfl ?_)
      replace hm := ck_some hm; obtain ⟨hc14, hm⟩ := hm
      refine Rg_op rfl (op_indexAddr (q := (rSl (rInt .i64))) ty33 ty22 rfl rfl f_s rfl hc14.1 hc14.2 ?_)
      intro p15 f16
      refine Rg_op rfl (op_loadP ty22 rfl f16 rfl ?_)
      intro v17 h18
      obtain ⟨a_y19, c_y19, rfl, f_y19⟩ := un_sl h18
      replace hm := bd hm; obtain ⟨r_1, hv20, hm⟩ := hm
      refine Rg_op rfl (op_callF rfl (F_f.call hs8.ltw (mkC (mk_sl f_y19)) hv20) rfl ?_)
      rintro v21 w22 ⟨hx23, h24⟩
      have hs25 := hs8.call hx23
      have p26 := Step.ext (O := ks [] O) hx23
      clear hx23
      replace f_s := f_s.step p26
      replace F_f := F_f.step p26
      replace f16 := f16.step p26
      replace f_y19 := f_y19.step p26
      replace ch12 := ch12.trans p26
      clear p26 hs8
      obtain rfl := h24
      refine Rg_nil ?_
      refine Wp_cond rfl (fun hc28 => ?_) (fun hc28 => ?_)
      ·
        replace hm := bif_t hm hc28
        refine Wp_seq ?_
        clear f_s F_f f16 f_y19
        refine Wp_region ?_  -- 5 slices.go:110
        refine Rg_op rfl (op_move (v := (Value.int .i64 v_1)) rfl ?_)
        refine Rg_op rfl (op_assign (v := (Value.int .i64 v_1)) rfl ?_)
        refine Rg_nil ?_
        refine Wp_ret ?_
        have hz := step_all hs25
        refine ⟨_, (show Closes [] _ _ from rfl), [(Value.int .i64 v_1)], ⟨rfl, trivial⟩, hs25.ext, ?_⟩
        exact Vr.eq (a := (vI .i64)) (x := v_1) ⟨rfl, r_y1⟩ (Option.some.inj hm)
      ·
        replace hm := bif_f hm hc28
        refine Wp_skip ?_
        clear f16 f_y19
        refine Wp_region ?_  -- 6 slices.go:108
        refine Rg_op rfl (op_addw rfl rfl ?_)
        refine Rg_op rfl (op_move (v := (Value.int .i64 (IntKind.wrap .i64 (v_1 + 1)))) rfl ?_)
        refine Rg_nil ?_
        exact hK5 _ _ ⟨(IntKind.wrap .i64 (v_1 + 1)), _, rfl, ⟨(by repeat (first | with_reducible exact Out.refl _ _ | refine Out.upd ?_ rfl | refine Out.updL ?_ rfl | refine Out.mix' ?_ rfl | exact Out.refl _ _)), rfl, rfl, trivial⟩, ch12, hs25, (inK_wrap .i64 _), jnE1 hsf4 hm⟩
    ·
      replace hm := bif_f hm hc13
      refine Wp_exit ?_
      refine Wp_seq ?_
      clear f_s F_f
      refine Wp_region ?_  -- 7 slices.go:113
      refine Rg_op rfl (op_assign (v := (Value.int .i64 (-1))) rfl ?_)
      refine Rg_nil ?_
      refine Wp_ret ?_
      have hz := step_all hs8
      refine ⟨_, (show Closes [] _ _ from rfl), [(Value.int .i64 (-1))], ⟨rfl, trivial⟩, hs8.ext, ?_⟩
      exact Vr.eq (a := (vI .i64)) (x := (-1)) ⟨rfl, (show InK .i64 (-1) from by decide)⟩ (Option.some.inj hm)

end Go.Fx


set_option linter.unusedVariables false
set_option linter.unusedSimpArgs false
set_option maxRecDepth 100000
set_option maxHeartbeats 0
namespace Go.Fx
open Go Go.RowKit Go.Proofs
def m42_slices_ContainsFuncint_int_ (s : List (List Int)) (f : Option ((List Int) → Option Bool)) : Option Bool :=
  (m56_slices_IndexFuncint_int_ s f).bind fun indexfunc_1 =>
  some (decide (0 ≤ indexfunc_1))

theorem c42_slices_ContainsFuncint_int_ {w : World} {O : List Nat} {s : List (List Int)} {f : Option ((List Int) → Option Bool)} {a_s : Option Addr} {c_s : Nat} {v_f : Value} (hO : ∀ k ∈ O, k < w.heap.size) (f_s : SlR (rSl (rInt .i64)) w O a_s c_s s) (F_f : CallsO1 Try.prog w O v_f (vC (rSl (rInt .i64))) vB f) {x : Bool} (hm : m42_slices_ContainsFuncint_int_ s f = some x) :
    Ok Try.prog 42 [(Value.slice a_s s.length c_s), v_f] w O vB x := by
  unfold m42_slices_ContainsFuncint_int_ at hm
  refine Fn_of_Wp (n := 9) (xs := [.tmp 4]) Try.func42 rfl Try.ntmps42 Try.results42 rfl ?_
  have hs := St.start hO
  refine Wp_seq ?_
  refine Wp_region ?_  -- 0 slices.go:124
  refine Rg_op rfl (op_assign (v := (Value.bool false)) rfl ?_)
  refine Rg_nil ?_
  refine Wp_seq ?_
  refine Wp_region ?_  -- 1 slices.go:125
  refine Rg_op rfl (op_move (v := (Value.slice a_s s.length c_s)) rfl ?_)
  refine Rg_op rfl (op_move (v := v_f) rfl ?_)
  replace hm := bd hm; obtain ⟨indexfunc_1, hv1, hm⟩ := hm
  refine Rg_op rfl (op_call Try.call56 (c56_slices_IndexFuncint_int_ (s := s) (f := f) hs.ltw f_s F_f hv1) rfl ?_)
  rintro v2 w3 ⟨hx4, h5⟩
  have hs6 := hs.call hx4
  have p7 := Step.ext (O := ks [] O) hx4
  clear hx4
  replace f_s := f_s.step p7
  replace F_f := F_f.step p7
  clear p7
  obtain ⟨rfl, r_y8⟩ := h5
  refine Rg_op rfl (op_geq rfl rfl ?_)
  refine Rg_op rfl (op_assign (v := (Value.bool (decide (0 ≤ indexfunc_1)))) rfl ?_)
  refine Rg_nil ?_
  refine Wp_ret ?_
  have hz := step_all hs6
  replace f_s := f_s.step hz
  replace F_f := F_f.step hz
  refine ⟨_, (show Closes [] _ _ from rfl), [(Value.bool (decide (0 ≤ indexfunc_1)))], ⟨rfl, trivial⟩, hs6.ext, ?_⟩
  exact Vr.eq (a := vB) (x := (decide (0 ≤ indexfunc_1))) rfl (Option.some.inj hm)

end Go.Fx


set_option linter.unusedVariables false
set_option linter.unusedSimpArgs false
set_option maxRecDepth 100000
set_option maxHeartbeats 0
namespace Go.Fx
open Go Go.RowKit Go.Proofs
def m49_vector_alike_1 (a : List Int) (fv0_ : List (List Int)) (fv1_ : Option ((List Int) → Option Bool)) : Option Bool :=
  ck ((0 : Int) ≤ 0 ∧ 0 < (fv0_.length : Int)) <|
  bif (decide ((a.length : Int) ≠ ((fv0_.getD 0 default).length : Int))) then
    some true
  else
    bif fv1_.isSome then
      (callO fv1_ a).bind fun r_1 =>
      some (!r_1)
    else
      some false

theorem c49_vector_alike_1 {w : World} {O : List Nat} {a : List Int} {fv0_ : List (List Int)} {fv1_ : Option ((List Int) → Option Bool)} {a_a : Option Addr} {c_a : Nat} {p_fv0_ : Addr} {p_fv1_ : Addr} (hO : ∀ k ∈ O, k < w.heap.size) (f_a : SlR (rInt .i64) w O a_a c_a a) (f_fv0_ : PtR (rSl (rSl (rInt .i64))) w O p_fv0_ fv0_) (f_fv1_ : PtR (rFO Try.prog (vC (rSl (rInt .i64))) vB) w O p_fv1_ fv1_) {x : Bool} (hm : m49_vector_alike_1 a fv0_ fv1_ = some x) :
    Ok Try.prog 49 [(Value.slice a_a a.length c_a), (Value.pointer (some p_fv0_)), (Value.pointer (some p_fv1_))] w O vB x := by
  unfold m49_vector_alike_1 at hm
  refine Fn_of_Wp (n := 22) (xs := [.tmp 4]) Try.func49 rfl Try.ntmps49 Try.results49 rfl ?_
  have hs := St.start hO
  refine Wp_seq ?_
  refine Wp_region ?_  -- 0 vector.go:33
  refine Rg_op rfl (op_assign (v := (Value.bool false)) rfl ?_)
  refine Rg_nil ?_
  refine Wp_seq ?_
  refine Wp_region ?_  -- 1 vector.go:33
  refine Rg_op rfl (op_move (v := (Value.slice a_a a.length c_a)) rfl ?_)
  refine Rg_op rfl (op_len Try.underlying22 rfl ?_)
  refine Rg_op rfl (op_loadP ty33 rfl f_fv0_ rfl ?_)
  intro v1 h2
  obtain ⟨a_y3, c_y3, rfl, f_y3⟩ := un_sl h2
  replace hm := ck_some hm; obtain ⟨hc4, hm⟩ := hm
  refine Rg_op rfl (op_indexAddr (q := (rSl (rInt .i64))) ty33 ty22 rfl rfl f_y3 rfl hc4.1 hc4.2 ?_)
  intro p5 f6
  refine Rg_op rfl (op_loadP ty22 rfl f6 rfl ?_)
  intro v7 h8
  obtain ⟨a_y9, c_y9, rfl, f_y9⟩ := un_sl h8
  refine Rg_op rfl (op_len Try.underlying22 rfl ?_)
  refine Rg_op rfl (op_neq rfl rfl ?_)
  refine Rg_op rfl (op_move (v := (Value.bool (decide ((a.length : Int) ≠ ((fv0_.getD 0 default).length : Int))))) rfl ?_)
  refine Rg_case (fun hg10 => ?_) (fun hg10 => ?_)
  ·
    replace hm := bif_t hm hg10
    refine Rg_opx rfl (asB_ne rfl rfl) rfl ?_
    refine Rg_opx rfl (asB_ne rfl rfl) rfl ?_
    refine Rg_opx rfl (asB_ne rfl rfl) rfl ?_
    refine Rg_opx rfl (asB_ne rfl rfl) rfl ?_
    refine Rg_opx rfl (asB_ne rfl rfl) rfl ?_
    refine Rg_opx rfl (asB_ne rfl rfl) rfl ?_
    refine Rg_opx rfl (asB_ne rfl rfl) rfl ?_
    refine Rg_opx rfl (asB_ne rfl rfl) rfl ?_
    refine Rg_op rfl (op_pick_t (v := (Value.bool true)) rfl rfl ?_)
    refine Rg_op rfl (op_assign (v := (Value.bool true)) rfl ?_)
    refine Rg_nil ?_
    refine Wp_ret ?_
    have hz := step_all hs
    replace f_a := f_a.step hz
    replace f_fv0_ := f_fv0_.step hz
    replace f_fv1_ := f_fv1_.step hz
    replace f_y3 := f_y3.step hz
    replace f6 := f6.step hz
    replace f_y9 := f_y9.step hz
    refine ⟨_, (show Closes [] _ _ from rfl), [(Value.bool true)], ⟨rfl, trivial⟩, hs.ext, ?_⟩
    exact Vr.eq (a := vB) (x := true) rfl (Option.some.inj hm)
  ·
    replace hm := bif_f hm hg10
    refine Rg_opg rfl rfl rfl (op_loadP ty44 rfl f_fv1_ rfl ?_)
    intro v11 h12
    have F13 := un_fo h12; clear h12
    refine Rg_opg rfl rfl rfl (op_nilF Try.underlying44 rfl F13 rfl ?_)
    refine Rg_opg rfl rfl rfl (op_move (v := (Value.bool fv1_.isSome)) rfl ?_)
    refine Rg_case (fun hg14 => ?_) (fun hg14 => ?_)
    ·
      replace hm := bif_t hm hg14
      refine Rg_opg rfl rfl rfl (op_loadP ty44 rfl f_fv1_ rfl ?_)
      intro v15 h16
      have F17 := un_fo h16; clear h16
      refine Rg_opg rfl rfl rfl (op_move (v := (Value.slice a_a a.length c_a)) rfl ?_)
      replace hm := bd hm; obtain ⟨r_1, hv18, hm⟩ := hm
      refine Rg_opg rfl rfl rfl (op_callF rfl (F17.call hs.ltw (mkC (mk_sl f_a)) hv18) rfl ?_)
      rintro v19 w20 ⟨hx21, h22⟩
      have hs23 := hs.call hx21
      have p24 := Step.ext (O := ks [] O) hx21
      clear hx21
      replace f_a := f_a.step p24
      replace f_fv0_ := f_fv0_.step p24
      replace f_fv1_ := f_fv1_.step p24
      replace f_y3 := f_y3.step p24
      replace f6 := f6.step p24
      replace f_y9 := f_y9.step p24
      replace F13 := F13.step p24
      replace F17 := F17.step p24
      clear p24
      obtain rfl := h22
      refine Rg_opg rfl rfl rfl (op_not rfl ?_)
      refine Rg_opg rfl rfl rfl (op_pick_t (v := (Value.bool (!r_1))) rfl rfl ?_)
      refine Rg_op rfl (op_pick_f (v := (Value.bool (!r_1))) rfl rfl ?_)
      refine Rg_op rfl (op_assign (v := (Value.bool (!r_1))) rfl ?_)
      refine Rg_nil ?_
      refine Wp_ret ?_
      have hz := step_all hs23
      replace f_a := f_a.step hz
      replace f_fv0_ := f_fv0_.step hz
      replace f_fv1_ := f_fv1_.step hz
      replace f_y3 := f_y3.step hz
      replace f6 := f6.step hz
      replace f_y9 := f_y9.step hz
      replace F13 := F13.step hz
      replace F17 := F17.step hz
      refine ⟨_, (show Closes [] _ _ from rfl), [(Value.bool (!r_1))], ⟨rfl, trivial⟩, hs23.ext, ?_⟩
      exact Vr.eq (a := vB) (x := (!r_1)) rfl (Option.some.inj hm)
    ·
      replace hm := bif_f hm hg14
      refine Rg_opx rfl (asB_ne rfl rfl) rfl ?_
      refine Rg_opx rfl (asB_ne rfl rfl) rfl ?_
      refine Rg_opx rfl (asB_ne rfl rfl) rfl ?_
      refine Rg_opx rfl (asB_ne rfl rfl) rfl ?_
      refine Rg_opg rfl rfl rfl (op_pick_f (v := (Value.bool false)) rfl rfl ?_)
      refine Rg_op rfl (op_pick_f (v := (Value.bool false)) rfl rfl ?_)
      refine Rg_op rfl (op_assign (v := (Value.bool false)) rfl ?_)
      refine Rg_nil ?_
      refine Wp_ret ?_
      have hz := step_all hs
      replace f_a := f_a.step hz
      replace f_fv0_ := f_fv0_.step hz
      replace f_fv1_ := f_fv1_.step hz
      replace f_y3 := f_y3.step hz
      replace f6 := f6.step hz
      replace f_y9 := f_y9.step hz
      replace F13 := F13.step hz
      refine ⟨_, (show Closes [] _ _ from rfl), [(Value.bool false)], ⟨rfl, trivial⟩, hs.ext, ?_⟩
      exact Vr.eq (a := vB) (x := false) rfl (Option.some.inj hm)

end Go.Fx

