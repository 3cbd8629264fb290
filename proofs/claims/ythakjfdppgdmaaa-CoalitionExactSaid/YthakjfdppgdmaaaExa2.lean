/- Part 2 of the proof: what Blocks returns is a deviation that is better for all of the group, and if it returns nothing there is none, for every round, all slots and groups: the law CoalitionExact holds. -/
import Derived.Test.YthakjfdppgdmaaaExa1
import Derived.Laws.Closers25b
import Derived.Laws.Shifts
import Derived.ProofKit
import Derived.OpenShut
import Derived.ChangeOld
import Derived.Below
import Derived.SizedLaws
import Derived.Test.YthakjfdppgdmaaaChecked
import Derived.Test.YthakjfdppgdmaaaRows
import Derived.WalkKit
import Derived.ShutString
/- What the models of functions are made of; more operations. No program in sight. -/
set_option linter.unusedSimpArgs false
set_option linter.unusedVariables false
namespace Go.Fx
open Go Go.RowKit

/-! models -/
section model
universe u v
variable {R : Type} {α : Type u} {x : R} {m a b : Option R} {c : Bool}
/-- on only where c holds -/
def ck (c : Prop) [Decidable c] (m : Option R) : Option R := if c then m else none
/-- where ways meet -/
def jn (k : α) (f : α → Option R) : Option R := f k
theorem ck_some {c : Prop} [Decidable c] (h : ck c m = some x) : c ∧ m = some x := by
  unfold ck at h; split at h
  · exact ⟨‹_›, h⟩
  · cases h
theorem ck_pos {c : Prop} [Decidable c] (h : c) : ck c m = m := if_pos h
theorem ck_neg {c : Prop} [Decidable c] (h : ¬ c) : ck c m = none := if_neg h
theorem jn_elim {k : α} {f : α → Option R} (h : jn k f = some x) : ∃ j, j = k ∧ f j = some x := ⟨k, rfl, h⟩
theorem bif_t (h : (bif c then a else b) = some x) (hc : c = true) : a = some x := by rw [hc] at h; exact h
theorem bif_f (h : (bif c then a else b) = some x) (hc : c = false) : b = some x := by rw [hc] at h; exact h
theorem bd {β : Type} {o : Option β} {f : β → Option R} (h : o.bind f = some x) : ∃ v, o = some v ∧ f v = some x := by
  cases o with
  | none => cases h
  | some v => exact ⟨v, rfl, h⟩
theorem jnE0 {j f : Option R}  (e : j = f) (h : j  = some x) : f  = some x := e ▸ h
theorem jnR0 {j f : Option R}  (e : j = f) (h : j  = some x) : f  = some x := e ▸ h
@[irreducible] def loop0 (b : (Option R) → Option R) (n : Nat) : Option R := Nat.rec (none) (fun _ s => b s) n
theorem loop0_zero {b : (Option R) → Option R}  : loop0 b 0  = none := by unfold loop0; rfl
theorem loop0_succ {b : (Option R) → Option R} {n : Nat}  : loop0 b (n + 1)  = b (loop0 b n)  := by unfold loop0; rfl
theorem loop0_z {b : (Option R) → Option R}  (h : loop0 b 0  = some x) : False := by rw [loop0_zero] at h; cases h
theorem loop0_s {b : (Option R) → Option R} {n : Nat}  (h : loop0 b (n + 1)  = some x) : ∃ sf, sf = loop0 b n ∧ b sf  = some x := ⟨_, rfl, loop0_succ.symm.trans h⟩
theorem jnE1 {A0 : Type} {j f : A0 → Option R} {a0 : A0} (e : j = f) (h : j a0 = some x) : f a0 = some x := e ▸ h
theorem jnR1 {A0 : Type} {j f : A0 → Option R} {a0 : A0} (e : j = f) (h : j a0 = some x) : f a0 = some x := e ▸ h
@[irreducible] def loop1 {A0 : Type} (b : (A0 → Option R) → A0 → Option R) (n : Nat) : A0 → Option R := Nat.rec (fun _ => none) (fun _ s => b s) n
theorem loop1_zero {A0 : Type} {b : (A0 → Option R) → A0 → Option R} {a0 : A0} : loop1 b 0 a0 = none := by unfold loop1; rfl
theorem loop1_succ {A0 : Type} {b : (A0 → Option R) → A0 → Option R} {n : Nat} {a0 : A0} : loop1 b (n + 1) a0 = b (loop1 b n) a0 := by unfold loop1; rfl
theorem loop1_z {A0 : Type} {b : (A0 → Option R) → A0 → Option R} {a0 : A0} (h : loop1 b 0 a0 = some x) : False := by rw [loop1_zero] at h; cases h
theorem loop1_s {A0 : Type} {b : (A0 → Option R) → A0 → Option R} {n : Nat} {a0 : A0} (h : loop1 b (n + 1) a0 = some x) : ∃ sf, sf = loop1 b n ∧ b sf a0 = some x := ⟨_, rfl, loop1_succ.symm.trans h⟩
theorem jnE2 {A0 A1 : Type} {j f : A0 → A1 → Option R} {a0 : A0} {a1 : A1} (e : j = f) (h : j a0 a1 = some x) : f a0 a1 = some x := e ▸ h
theorem jnR2 {A0 A1 : Type} {j f : A0 → A1 → Option R} {a0 : A0} {a1 : A1} (e : j = f) (h : j a0 a1 = some x) : f a0 a1 = some x := e ▸ h
@[irreducible] def loop2 {A0 A1 : Type} (b : (A0 → A1 → Option R) → A0 → A1 → Option R) (n : Nat) : A0 → A1 → Option R := Nat.rec (fun _ _ => none) (fun _ s => b s) n
theorem loop2_zero {A0 A1 : Type} {b : (A0 → A1 → Option R) → A0 → A1 → Option R} {a0 : A0} {a1 : A1} : loop2 b 0 a0 a1 = none := by unfold loop2; rfl
theorem loop2_succ {A0 A1 : Type} {b : (A0 → A1 → Option R) → A0 → A1 → Option R} {n : Nat} {a0 : A0} {a1 : A1} : loop2 b (n + 1) a0 a1 = b (loop2 b n) a0 a1 := by unfold loop2; rfl
theorem loop2_z {A0 A1 : Type} {b : (A0 → A1 → Option R) → A0 → A1 → Option R} {a0 : A0} {a1 : A1} (h : loop2 b 0 a0 a1 = some x) : False := by rw [loop2_zero] at h; cases h
theorem loop2_s {A0 A1 : Type} {b : (A0 → A1 → Option R) → A0 → A1 → Option R} {n : Nat} {a0 : A0} {a1 : A1} (h : loop2 b (n + 1) a0 a1 = some x) : ∃ sf, sf = loop2 b n ∧ b sf a0 a1 = some x := ⟨_, rfl, loop2_succ.symm.trans h⟩
theorem jnE3 {A0 A1 A2 : Type} {j f : A0 → A1 → A2 → Option R} {a0 : A0} {a1 : A1} {a2 : A2} (e : j = f) (h : j a0 a1 a2 = some x) : f a0 a1 a2 = some x := e ▸ h
theorem jnR3 {A0 A1 A2 : Type} {j f : A0 → A1 → A2 → Option R} {a0 : A0} {a1 : A1} {a2 : A2} (e : j = f) (h : j a0 a1 a2 = some x) : f a0 a1 a2 = some x := e ▸ h
@[irreducible] def loop3 {A0 A1 A2 : Type} (b : (A0 → A1 → A2 → Option R) → A0 → A1 → A2 → Option R) (n : Nat) : A0 → A1 → A2 → Option R := Nat.rec (fun _ _ _ => none) (fun _ s => b s) n
theorem loop3_zero {A0 A1 A2 : Type} {b : (A0 → A1 → A2 → Option R) → A0 → A1 → A2 → Option R} {a0 : A0} {a1 : A1} {a2 : A2} : loop3 b 0 a0 a1 a2 = none := by unfold loop3; rfl
theorem loop3_succ {A0 A1 A2 : Type} {b : (A0 → A1 → A2 → Option R) → A0 → A1 → A2 → Option R} {n : Nat} {a0 : A0} {a1 : A1} {a2 : A2} : loop3 b (n + 1) a0 a1 a2 = b (loop3 b n) a0 a1 a2 := by unfold loop3; rfl
theorem loop3_z {A0 A1 A2 : Type} {b : (A0 → A1 → A2 → Option R) → A0 → A1 → A2 → Option R} {a0 : A0} {a1 : A1} {a2 : A2} (h : loop3 b 0 a0 a1 a2 = some x) : False := by rw [loop3_zero] at h; cases h
theorem loop3_s {A0 A1 A2 : Type} {b : (A0 → A1 → A2 → Option R) → A0 → A1 → A2 → Option R} {n : Nat} {a0 : A0} {a1 : A1} {a2 : A2} (h : loop3 b (n + 1) a0 a1 a2 = some x) : ∃ sf, sf = loop3 b n ∧ b sf a0 a1 a2 = some x := ⟨_, rfl, loop3_succ.symm.trans h⟩
theorem jnE4 {A0 A1 A2 A3 : Type} {j f : A0 → A1 → A2 → A3 → Option R} {a0 : A0} {a1 : A1} {a2 : A2} {a3 : A3} (e : j = f) (h : j a0 a1 a2 a3 = some x) : f a0 a1 a2 a3 = some x := e ▸ h
theorem jnR4 {A0 A1 A2 A3 : Type} {j f : A0 → A1 → A2 → A3 → Option R} {a0 : A0} {a1 : A1} {a2 : A2} {a3 : A3} (e : j = f) (h : j a0 a1 a2 a3 = some x) : f a0 a1 a2 a3 = some x := e ▸ h
@[irreducible] def loop4 {A0 A1 A2 A3 : Type} (b : (A0 → A1 → A2 → A3 → Option R) → A0 → A1 → A2 → A3 → Option R) (n : Nat) : A0 → A1 → A2 → A3 → Option R := Nat.rec (fun _ _ _ _ => none) (fun _ s => b s) n
theorem loop4_zero {A0 A1 A2 A3 : Type} {b : (A0 → A1 → A2 → A3 → Option R) → A0 → A1 → A2 → A3 → Option R} {a0 : A0} {a1 : A1} {a2 : A2} {a3 : A3} : loop4 b 0 a0 a1 a2 a3 = none := by unfold loop4; rfl
theorem loop4_succ {A0 A1 A2 A3 : Type} {b : (A0 → A1 → A2 → A3 → Option R) → A0 → A1 → A2 → A3 → Option R} {n : Nat} {a0 : A0} {a1 : A1} {a2 : A2} {a3 : A3} : loop4 b (n + 1) a0 a1 a2 a3 = b (loop4 b n) a0 a1 a2 a3 := by unfold loop4; rfl
theorem loop4_z {A0 A1 A2 A3 : Type} {b : (A0 → A1 → A2 → A3 → Option R) → A0 → A1 → A2 → A3 → Option R} {a0 : A0} {a1 : A1} {a2 : A2} {a3 : A3} (h : loop4 b 0 a0 a1 a2 a3 = some x) : False := by rw [loop4_zero] at h; cases h
theorem loop4_s {A0 A1 A2 A3 : Type} {b : (A0 → A1 → A2 → A3 → Option R) → A0 → A1 → A2 → A3 → Option R} {n : Nat} {a0 : A0} {a1 : A1} {a2 : A2} {a3 : A3} (h : loop4 b (n + 1) a0 a1 a2 a3 = some x) : ∃ sf, sf = loop4 b n ∧ b sf a0 a1 a2 a3 = some x := ⟨_, rfl, loop4_succ.symm.trans h⟩
theorem jnE5 {A0 A1 A2 A3 A4 : Type} {j f : A0 → A1 → A2 → A3 → A4 → Option R} {a0 : A0} {a1 : A1} {a2 : A2} {a3 : A3} {a4 : A4} (e : j = f) (h : j a0 a1 a2 a3 a4 = some x) : f a0 a1 a2 a3 a4 = some x := e ▸ h
theorem jnR5 {A0 A1 A2 A3 A4 : Type} {j f : A0 → A1 → A2 → A3 → A4 → Option R} {a0 : A0} {a1 : A1} {a2 : A2} {a3 : A3} {a4 : A4} (e : j = f) (h : j a0 a1 a2 a3 a4 = some x) : f a0 a1 a2 a3 a4 = some x := e ▸ h
@[irreducible] def loop5 {A0 A1 A2 A3 A4 : Type} (b : (A0 → A1 → A2 → A3 → A4 → Option R) → A0 → A1 → A2 → A3 → A4 → Option R) (n : Nat) : A0 → A1 → A2 → A3 → A4 → Option R := Nat.rec (fun _ _ _ _ _ => none) (fun _ s => b s) n
theorem loop5_zero {A0 A1 A2 A3 A4 : Type} {b : (A0 → A1 → A2 → A3 → A4 → Option R) → A0 → A1 → A2 → A3 → A4 → Option R} {a0 : A0} {a1 : A1} {a2 : A2} {a3 : A3} {a4 : A4} : loop5 b 0 a0 a1 a2 a3 a4 = none := by unfold loop5; rfl
theorem loop5_succ {A0 A1 A2 A3 A4 : Type} {b : (A0 → A1 → A2 → A3 → A4 → Option R) → A0 → A1 → A2 → A3 → A4 → Option R} {n : Nat} {a0 : A0} {a1 : A1} {a2 : A2} {a3 : A3} {a4 : A4} : loop5 b (n + 1) a0 a1 a2 a3 a4 = b (loop5 b n) a0 a1 a2 a3 a4 := by unfold loop5; rfl
theorem loop5_z {A0 A1 A2 A3 A4 : Type} {b : (A0 → A1 → A2 → A3 → A4 → Option R) → A0 → A1 → A2 → A3 → A4 → Option R} {a0 : A0} {a1 : A1} {a2 : A2} {a3 : A3} {a4 : A4} (h : loop5 b 0 a0 a1 a2 a3 a4 = some x) : False := by rw [loop5_zero] at h; cases h
theorem loop5_s {A0 A1 A2 A3 A4 : Type} {b : (A0 → A1 → A2 → A3 → A4 → Option R) → A0 → A1 → A2 → A3 → A4 → Option R} {n : Nat} {a0 : A0} {a1 : A1} {a2 : A2} {a3 : A3} {a4 : A4} (h : loop5 b (n + 1) a0 a1 a2 a3 a4 = some x) : ∃ sf, sf = loop5 b n ∧ b sf a0 a1 a2 a3 a4 = some x := ⟨_, rfl, loop5_succ.symm.trans h⟩
theorem jnE6 {A0 A1 A2 A3 A4 A5 : Type} {j f : A0 → A1 → A2 → A3 → A4 → A5 → Option R} {a0 : A0} {a1 : A1} {a2 : A2} {a3 : A3} {a4 : A4} {a5 : A5} (e : j = f) (h : j a0 a1 a2 a3 a4 a5 = some x) : f a0 a1 a2 a3 a4 a5 = some x := e ▸ h
theorem jnR6 {A0 A1 A2 A3 A4 A5 : Type} {j f : A0 → A1 → A2 → A3 → A4 → A5 → Option R} {a0 : A0} {a1 : A1} {a2 : A2} {a3 : A3} {a4 : A4} {a5 : A5} (e : j = f) (h : j a0 a1 a2 a3 a4 a5 = some x) : f a0 a1 a2 a3 a4 a5 = some x := e ▸ h
@[irreducible] def loop6 {A0 A1 A2 A3 A4 A5 : Type} (b : (A0 → A1 → A2 → A3 → A4 → A5 → Option R) → A0 → A1 → A2 → A3 → A4 → A5 → Option R) (n : Nat) : A0 → A1 → A2 → A3 → A4 → A5 → Option R := Nat.rec (fun _ _ _ _ _ _ => none) (fun _ s => b s) n
theorem loop6_zero {A0 A1 A2 A3 A4 A5 : Type} {b : (A0 → A1 → A2 → A3 → A4 → A5 → Option R) → A0 → A1 → A2 → A3 → A4 → A5 → Option R} {a0 : A0} {a1 : A1} {a2 : A2} {a3 : A3} {a4 : A4} {a5 : A5} : loop6 b 0 a0 a1 a2 a3 a4 a5 = none := by unfold loop6; rfl
theorem loop6_succ {A0 A1 A2 A3 A4 A5 : Type} {b : (A0 → A1 → A2 → A3 → A4 → A5 → Option R) → A0 → A1 → A2 → A3 → A4 → A5 → Option R} {n : Nat} {a0 : A0} {a1 : A1} {a2 : A2} {a3 : A3} {a4 : A4} {a5 : A5} : loop6 b (n + 1) a0 a1 a2 a3 a4 a5 = b (loop6 b n) a0 a1 a2 a3 a4 a5 := by unfold loop6; rfl
theorem loop6_z {A0 A1 A2 A3 A4 A5 : Type} {b : (A0 → A1 → A2 → A3 → A4 → A5 → Option R) → A0 → A1 → A2 → A3 → A4 → A5 → Option R} {a0 : A0} {a1 : A1} {a2 : A2} {a3 : A3} {a4 : A4} {a5 : A5} (h : loop6 b 0 a0 a1 a2 a3 a4 a5 = some x) : False := by rw [loop6_zero] at h; cases h
theorem loop6_s {A0 A1 A2 A3 A4 A5 : Type} {b : (A0 → A1 → A2 → A3 → A4 → A5 → Option R) → A0 → A1 → A2 → A3 → A4 → A5 → Option R} {n : Nat} {a0 : A0} {a1 : A1} {a2 : A2} {a3 : A3} {a4 : A4} {a5 : A5} (h : loop6 b (n + 1) a0 a1 a2 a3 a4 a5 = some x) : ∃ sf, sf = loop6 b n ∧ b sf a0 a1 a2 a3 a4 a5 = some x := ⟨_, rfl, loop6_succ.symm.trans h⟩
theorem jnE7 {A0 A1 A2 A3 A4 A5 A6 : Type} {j f : A0 → A1 → A2 → A3 → A4 → A5 → A6 → Option R} {a0 : A0} {a1 : A1} {a2 : A2} {a3 : A3} {a4 : A4} {a5 : A5} {a6 : A6} (e : j = f) (h : j a0 a1 a2 a3 a4 a5 a6 = some x) : f a0 a1 a2 a3 a4 a5 a6 = some x := e ▸ h
theorem jnR7 {A0 A1 A2 A3 A4 A5 A6 : Type} {j f : A0 → A1 → A2 → A3 → A4 → A5 → A6 → Option R} {a0 : A0} {a1 : A1} {a2 : A2} {a3 : A3} {a4 : A4} {a5 : A5} {a6 : A6} (e : j = f) (h : j a0 a1 a2 a3 a4 a5 a6 = some x) : f a0 a1 a2 a3 a4 a5 a6 = some x := e ▸ h
@[irreducible] def loop7 {A0 A1 A2 A3 A4 A5 A6 : Type} (b : (A0 → A1 → A2 → A3 → A4 → A5 → A6 → Option R) → A0 → A1 → A2 → A3 → A4 → A5 → A6 → Option R) (n : Nat) : A0 → A1 → A2 → A3 → A4 → A5 → A6 → Option R := Nat.rec (fun _ _ _ _ _ _ _ => none) (fun _ s => b s) n
theorem loop7_zero {A0 A1 A2 A3 A4 A5 A6 : Type} {b : (A0 → A1 → A2 → A3 → A4 → A5 → A6 → Option R) → A0 → A1 → A2 → A3 → A4 → A5 → A6 → Option R} {a0 : A0} {a1 : A1} {a2 : A2} {a3 : A3} {a4 : A4} {a5 : A5} {a6 : A6} : loop7 b 0 a0 a1 a2 a3 a4 a5 a6 = none := by unfold loop7; rfl
theorem loop7_succ {A0 A1 A2 A3 A4 A5 A6 : Type} {b : (A0 → A1 → A2 → A3 → A4 → A5 → A6 → Option R) → A0 → A1 → A2 → A3 → A4 → A5 → A6 → Option R} {n : Nat} {a0 : A0} {a1 : A1} {a2 : A2} {a3 : A3} {a4 : A4} {a5 : A5} {a6 : A6} : loop7 b (n + 1) a0 a1 a2 a3 a4 a5 a6 = b (loop7 b n) a0 a1 a2 a3 a4 a5 a6 := by unfold loop7; rfl
theorem loop7_z {A0 A1 A2 A3 A4 A5 A6 : Type} {b : (A0 → A1 → A2 → A3 → A4 → A5 → A6 → Option R) → A0 → A1 → A2 → A3 → A4 → A5 → A6 → Option R} {a0 : A0} {a1 : A1} {a2 : A2} {a3 : A3} {a4 : A4} {a5 : A5} {a6 : A6} (h : loop7 b 0 a0 a1 a2 a3 a4 a5 a6 = some x) : False := by rw [loop7_zero] at h; cases h
theorem loop7_s {A0 A1 A2 A3 A4 A5 A6 : Type} {b : (A0 → A1 → A2 → A3 → A4 → A5 → A6 → Option R) → A0 → A1 → A2 → A3 → A4 → A5 → A6 → Option R} {n : Nat} {a0 : A0} {a1 : A1} {a2 : A2} {a3 : A3} {a4 : A4} {a5 : A5} {a6 : A6} (h : loop7 b (n + 1) a0 a1 a2 a3 a4 a5 a6 = some x) : ∃ sf, sf = loop7 b n ∧ b sf a0 a1 a2 a3 a4 a5 a6 = some x := ⟨_, rfl, loop7_succ.symm.trans h⟩
theorem jnE8 {A0 A1 A2 A3 A4 A5 A6 A7 : Type} {j f : A0 → A1 → A2 → A3 → A4 → A5 → A6 → A7 → Option R} {a0 : A0} {a1 : A1} {a2 : A2} {a3 : A3} {a4 : A4} {a5 : A5} {a6 : A6} {a7 : A7} (e : j = f) (h : j a0 a1 a2 a3 a4 a5 a6 a7 = some x) : f a0 a1 a2 a3 a4 a5 a6 a7 = some x := e ▸ h
theorem jnR8 {A0 A1 A2 A3 A4 A5 A6 A7 : Type} {j f : A0 → A1 → A2 → A3 → A4 → A5 → A6 → A7 → Option R} {a0 : A0} {a1 : A1} {a2 : A2} {a3 : A3} {a4 : A4} {a5 : A5} {a6 : A6} {a7 : A7} (e : j = f) (h : j a0 a1 a2 a3 a4 a5 a6 a7 = some x) : f a0 a1 a2 a3 a4 a5 a6 a7 = some x := e ▸ h
@[irreducible] def loop8 {A0 A1 A2 A3 A4 A5 A6 A7 : Type} (b : (A0 → A1 → A2 → A3 → A4 → A5 → A6 → A7 → Option R) → A0 → A1 → A2 → A3 → A4 → A5 → A6 → A7 → Option R) (n : Nat) : A0 → A1 → A2 → A3 → A4 → A5 → A6 → A7 → Option R := Nat.rec (fun _ _ _ _ _ _ _ _ => none) (fun _ s => b s) n
theorem loop8_zero {A0 A1 A2 A3 A4 A5 A6 A7 : Type} {b : (A0 → A1 → A2 → A3 → A4 → A5 → A6 → A7 → Option R) → A0 → A1 → A2 → A3 → A4 → A5 → A6 → A7 → Option R} {a0 : A0} {a1 : A1} {a2 : A2} {a3 : A3} {a4 : A4} {a5 : A5} {a6 : A6} {a7 : A7} : loop8 b 0 a0 a1 a2 a3 a4 a5 a6 a7 = none := by unfold loop8; rfl
theorem loop8_succ {A0 A1 A2 A3 A4 A5 A6 A7 : Type} {b : (A0 → A1 → A2 → A3 → A4 → A5 → A6 → A7 → Option R) → A0 → A1 → A2 → A3 → A4 → A5 → A6 → A7 → Option R} {n : Nat} {a0 : A0} {a1 : A1} {a2 : A2} {a3 : A3} {a4 : A4} {a5 : A5} {a6 : A6} {a7 : A7} : loop8 b (n + 1) a0 a1 a2 a3 a4 a5 a6 a7 = b (loop8 b n) a0 a1 a2 a3 a4 a5 a6 a7 := by unfold loop8; rfl
theorem loop8_z {A0 A1 A2 A3 A4 A5 A6 A7 : Type} {b : (A0 → A1 → A2 → A3 → A4 → A5 → A6 → A7 → Option R) → A0 → A1 → A2 → A3 → A4 → A5 → A6 → A7 → Option R} {a0 : A0} {a1 : A1} {a2 : A2} {a3 : A3} {a4 : A4} {a5 : A5} {a6 : A6} {a7 : A7} (h : loop8 b 0 a0 a1 a2 a3 a4 a5 a6 a7 = some x) : False := by rw [loop8_zero] at h; cases h
theorem loop8_s {A0 A1 A2 A3 A4 A5 A6 A7 : Type} {b : (A0 → A1 → A2 → A3 → A4 → A5 → A6 → A7 → Option R) → A0 → A1 → A2 → A3 → A4 → A5 → A6 → A7 → Option R} {n : Nat} {a0 : A0} {a1 : A1} {a2 : A2} {a3 : A3} {a4 : A4} {a5 : A5} {a6 : A6} {a7 : A7} (h : loop8 b (n + 1) a0 a1 a2 a3 a4 a5 a6 a7 = some x) : ∃ sf, sf = loop8 b n ∧ b sf a0 a1 a2 a3 a4 a5 a6 a7 = some x := ⟨_, rfl, loop8_succ.symm.trans h⟩
theorem jnE9 {A0 A1 A2 A3 A4 A5 A6 A7 A8 : Type} {j f : A0 → A1 → A2 → A3 → A4 → A5 → A6 → A7 → A8 → Option R} {a0 : A0} {a1 : A1} {a2 : A2} {a3 : A3} {a4 : A4} {a5 : A5} {a6 : A6} {a7 : A7} {a8 : A8} (e : j = f) (h : j a0 a1 a2 a3 a4 a5 a6 a7 a8 = some x) : f a0 a1 a2 a3 a4 a5 a6 a7 a8 = some x := e ▸ h
theorem jnR9 {A0 A1 A2 A3 A4 A5 A6 A7 A8 : Type} {j f : A0 → A1 → A2 → A3 → A4 → A5 → A6 → A7 → A8 → Option R} {a0 : A0} {a1 : A1} {a2 : A2} {a3 : A3} {a4 : A4} {a5 : A5} {a6 : A6} {a7 : A7} {a8 : A8} (e : j = f) (h : j a0 a1 a2 a3 a4 a5 a6 a7 a8 = some x) : f a0 a1 a2 a3 a4 a5 a6 a7 a8 = some x := e ▸ h
@[irreducible] def loop9 {A0 A1 A2 A3 A4 A5 A6 A7 A8 : Type} (b : (A0 → A1 → A2 → A3 → A4 → A5 → A6 → A7 → A8 → Option R) → A0 → A1 → A2 → A3 → A4 → A5 → A6 → A7 → A8 → Option R) (n : Nat) : A0 → A1 → A2 → A3 → A4 → A5 → A6 → A7 → A8 → Option R := Nat.rec (fun _ _ _ _ _ _ _ _ _ => none) (fun _ s => b s) n
theorem loop9_zero {A0 A1 A2 A3 A4 A5 A6 A7 A8 : Type} {b : (A0 → A1 → A2 → A3 → A4 → A5 → A6 → A7 → A8 → Option R) → A0 → A1 → A2 → A3 → A4 → A5 → A6 → A7 → A8 → Option R} {a0 : A0} {a1 : A1} {a2 : A2} {a3 : A3} {a4 : A4} {a5 : A5} {a6 : A6} {a7 : A7} {a8 : A8} : loop9 b 0 a0 a1 a2 a3 a4 a5 a6 a7 a8 = none := by unfold loop9; rfl
theorem loop9_succ {A0 A1 A2 A3 A4 A5 A6 A7 A8 : Type} {b : (A0 → A1 → A2 → A3 → A4 → A5 → A6 → A7 → A8 → Option R) → A0 → A1 → A2 → A3 → A4 → A5 → A6 → A7 → A8 → Option R} {n : Nat} {a0 : A0} {a1 : A1} {a2 : A2} {a3 : A3} {a4 : A4} {a5 : A5} {a6 : A6} {a7 : A7} {a8 : A8} : loop9 b (n + 1) a0 a1 a2 a3 a4 a5 a6 a7 a8 = b (loop9 b n) a0 a1 a2 a3 a4 a5 a6 a7 a8 := by unfold loop9; rfl
theorem loop9_z {A0 A1 A2 A3 A4 A5 A6 A7 A8 : Type} {b : (A0 → A1 → A2 → A3 → A4 → A5 → A6 → A7 → A8 → Option R) → A0 → A1 → A2 → A3 → A4 → A5 → A6 → A7 → A8 → Option R} {a0 : A0} {a1 : A1} {a2 : A2} {a3 : A3} {a4 : A4} {a5 : A5} {a6 : A6} {a7 : A7} {a8 : A8} (h : loop9 b 0 a0 a1 a2 a3 a4 a5 a6 a7 a8 = some x) : False := by rw [loop9_zero] at h; cases h
theorem loop9_s {A0 A1 A2 A3 A4 A5 A6 A7 A8 : Type} {b : (A0 → A1 → A2 → A3 → A4 → A5 → A6 → A7 → A8 → Option R) → A0 → A1 → A2 → A3 → A4 → A5 → A6 → A7 → A8 → Option R} {n : Nat} {a0 : A0} {a1 : A1} {a2 : A2} {a3 : A3} {a4 : A4} {a5 : A5} {a6 : A6} {a7 : A7} {a8 : A8} (h : loop9 b (n + 1) a0 a1 a2 a3 a4 a5 a6 a7 a8 = some x) : ∃ sf, sf = loop9 b n ∧ b sf a0 a1 a2 a3 a4 a5 a6 a7 a8 = some x := ⟨_, rfl, loop9_succ.symm.trans h⟩
theorem jnE10 {A0 A1 A2 A3 A4 A5 A6 A7 A8 A9 : Type} {j f : A0 → A1 → A2 → A3 → A4 → A5 → A6 → A7 → A8 → A9 → Option R} {a0 : A0} {a1 : A1} {a2 : A2} {a3 : A3} {a4 : A4} {a5 : A5} {a6 : A6} {a7 : A7} {a8 : A8} {a9 : A9} (e : j = f) (h : j a0 a1 a2 a3 a4 a5 a6 a7 a8 a9 = some x) : f a0 a1 a2 a3 a4 a5 a6 a7 a8 a9 = some x := e ▸ h
theorem jnR10 {A0 A1 A2 A3 A4 A5 A6 A7 A8 A9 : Type} {j f : A0 → A1 → A2 → A3 → A4 → A5 → A6 → A7 → A8 → A9 → Option R} {a0 : A0} {a1 : A1} {a2 : A2} {a3 : A3} {a4 : A4} {a5 : A5} {a6 : A6} {a7 : A7} {a8 : A8} {a9 : A9} (e : j = f) (h : j a0 a1 a2 a3 a4 a5 a6 a7 a8 a9 = some x) : f a0 a1 a2 a3 a4 a5 a6 a7 a8 a9 = some x := e ▸ h
@[irreducible] def loop10 {A0 A1 A2 A3 A4 A5 A6 A7 A8 A9 : Type} (b : (A0 → A1 → A2 → A3 → A4 → A5 → A6 → A7 → A8 → A9 → Option R) → A0 → A1 → A2 → A3 → A4 → A5 → A6 → A7 → A8 → A9 → Option R) (n : Nat) : A0 → A1 → A2 → A3 → A4 → A5 → A6 → A7 → A8 → A9 → Option R := Nat.rec (fun _ _ _ _ _ _ _ _ _ _ => none) (fun _ s => b s) n
theorem loop10_zero {A0 A1 A2 A3 A4 A5 A6 A7 A8 A9 : Type} {b : (A0 → A1 → A2 → A3 → A4 → A5 → A6 → A7 → A8 → A9 → Option R) → A0 → A1 → A2 → A3 → A4 → A5 → A6 → A7 → A8 → A9 → Option R} {a0 : A0} {a1 : A1} {a2 : A2} {a3 : A3} {a4 : A4} {a5 : A5} {a6 : A6} {a7 : A7} {a8 : A8} {a9 : A9} : loop10 b 0 a0 a1 a2 a3 a4 a5 a6 a7 a8 a9 = none := by unfold loop10; rfl
theorem loop10_succ {A0 A1 A2 A3 A4 A5 A6 A7 A8 A9 : Type} {b : (A0 → A1 → A2 → A3 → A4 → A5 → A6 → A7 → A8 → A9 → Option R) → A0 → A1 → A2 → A3 → A4 → A5 → A6 → A7 → A8 → A9 → Option R} {n : Nat} {a0 : A0} {a1 : A1} {a2 : A2} {a3 : A3} {a4 : A4} {a5 : A5} {a6 : A6} {a7 : A7} {a8 : A8} {a9 : A9} : loop10 b (n + 1) a0 a1 a2 a3 a4 a5 a6 a7 a8 a9 = b (loop10 b n) a0 a1 a2 a3 a4 a5 a6 a7 a8 a9 := by unfold loop10; rfl
theorem loop10_z {A0 A1 A2 A3 A4 A5 A6 A7 A8 A9 : Type} {b : (A0 → A1 → A2 → A3 → A4 → A5 → A6 → A7 → A8 → A9 → Option R) → A0 → A1 → A2 → A3 → A4 → A5 → A6 → A7 → A8 → A9 → Option R} {a0 : A0} {a1 : A1} {a2 : A2} {a3 : A3} {a4 : A4} {a5 : A5} {a6 : A6} {a7 : A7} {a8 : A8} {a9 : A9} (h : loop10 b 0 a0 a1 a2 a3 a4 a5 a6 a7 a8 a9 = some x) : False := by rw [loop10_zero] at h; cases h
theorem loop10_s {A0 A1 A2 A3 A4 A5 A6 A7 A8 A9 : Type} {b : (A0 → A1 → A2 → A3 → A4 → A5 → A6 → A7 → A8 → A9 → Option R) → A0 → A1 → A2 → A3 → A4 → A5 → A6 → A7 → A8 → A9 → Option R} {n : Nat} {a0 : A0} {a1 : A1} {a2 : A2} {a3 : A3} {a4 : A4} {a5 : A5} {a6 : A6} {a7 : A7} {a8 : A8} {a9 : A9} (h : loop10 b (n + 1) a0 a1 a2 a3 a4 a5 a6 a7 a8 a9 = some x) : ∃ sf, sf = loop10 b n ∧ b sf a0 a1 a2 a3 a4 a5 a6 a7 a8 a9 = some x := ⟨_, rfl, loop10_succ.symm.trans h⟩
theorem jnE11 {A0 A1 A2 A3 A4 A5 A6 A7 A8 A9 A10 : Type} {j f : A0 → A1 → A2 → A3 → A4 → A5 → A6 → A7 → A8 → A9 → A10 → Option R} {a0 : A0} {a1 : A1} {a2 : A2} {a3 : A3} {a4 : A4} {a5 : A5} {a6 : A6} {a7 : A7} {a8 : A8} {a9 : A9} {a10 : A10} (e : j = f) (h : j a0 a1 a2 a3 a4 a5 a6 a7 a8 a9 a10 = some x) : f a0 a1 a2 a3 a4 a5 a6 a7 a8 a9 a10 = some x := e ▸ h
theorem jnR11 {A0 A1 A2 A3 A4 A5 A6 A7 A8 A9 A10 : Type} {j f : A0 → A1 → A2 → A3 → A4 → A5 → A6 → A7 → A8 → A9 → A10 → Option R} {a0 : A0} {a1 : A1} {a2 : A2} {a3 : A3} {a4 : A4} {a5 : A5} {a6 : A6} {a7 : A7} {a8 : A8} {a9 : A9} {a10 : A10} (e : j = f) (h : j a0 a1 a2 a3 a4 a5 a6 a7 a8 a9 a10 = some x) : f a0 a1 a2 a3 a4 a5 a6 a7 a8 a9 a10 = some x := e ▸ h
@[irreducible] def loop11 {A0 A1 A2 A3 A4 A5 A6 A7 A8 A9 A10 : Type} (b : (A0 → A1 → A2 → A3 → A4 → A5 → A6 → A7 → A8 → A9 → A10 → Option R) → A0 → A1 → A2 → A3 → A4 → A5 → A6 → A7 → A8 → A9 → A10 → Option R) (n : Nat) : A0 → A1 → A2 → A3 → A4 → A5 → A6 → A7 → A8 → A9 → A10 → Option R := Nat.rec (fun _ _ _ _ _ _ _ _ _ _ _ => none) (fun _ s => b s) n
theorem loop11_zero {A0 A1 A2 A3 A4 A5 A6 A7 A8 A9 A10 : Type} {b : (A0 → A1 → A2 → A3 → A4 → A5 → A6 → A7 → A8 → A9 → A10 → Option R) → A0 → A1 → A2 → A3 → A4 → A5 → A6 → A7 → A8 → A9 → A10 → Option R} {a0 : A0} {a1 : A1} {a2 : A2} {a3 : A3} {a4 : A4} {a5 : A5} {a6 : A6} {a7 : A7} {a8 : A8} {a9 : A9} {a10 : A10} : loop11 b 0 a0 a1 a2 a3 a4 a5 a6 a7 a8 a9 a10 = none := by unfold loop11; rfl
theorem loop11_succ {A0 A1 A2 A3 A4 A5 A6 A7 A8 A9 A10 : Type} {b : (A0 → A1 → A2 → A3 → A4 → A5 → A6 → A7 → A8 → A9 → A10 → Option R) → A0 → A1 → A2 → A3 → A4 → A5 → A6 → A7 → A8 → A9 → A10 → Option R} {n : Nat} {a0 : A0} {a1 : A1} {a2 : A2} {a3 : A3} {a4 : A4} {a5 : A5} {a6 : A6} {a7 : A7} {a8 : A8} {a9 : A9} {a10 : A10} : loop11 b (n + 1) a0 a1 a2 a3 a4 a5 a6 a7 a8 a9 a10 = b (loop11 b n) a0 a1 a2 a3 a4 a5 a6 a7 a8 a9 a10 := by unfold loop11; rfl
theorem loop11_z {A0 A1 A2 A3 A4 A5 A6 A7 A8 A9 A10 : Type} {b : (A0 → A1 → A2 → A3 → A4 → A5 → A6 → A7 → A8 → A9 → A10 → Option R) → A0 → A1 → A2 → A3 → A4 → A5 → A6 → A7 → A8 → A9 → A10 → Option R} {a0 : A0} {a1 : A1} {a2 : A2} {a3 : A3} {a4 : A4} {a5 : A5} {a6 : A6} {a7 : A7} {a8 : A8} {a9 : A9} {a10 : A10} (h : loop11 b 0 a0 a1 a2 a3 a4 a5 a6 a7 a8 a9 a10 = some x) : False := by rw [loop11_zero] at h; cases h
theorem loop11_s {A0 A1 A2 A3 A4 A5 A6 A7 A8 A9 A10 : Type} {b : (A0 → A1 → A2 → A3 → A4 → A5 → A6 → A7 → A8 → A9 → A10 → Option R) → A0 → A1 → A2 → A3 → A4 → A5 → A6 → A7 → A8 → A9 → A10 → Option R} {n : Nat} {a0 : A0} {a1 : A1} {a2 : A2} {a3 : A3} {a4 : A4} {a5 : A5} {a6 : A6} {a7 : A7} {a8 : A8} {a9 : A9} {a10 : A10} (h : loop11 b (n + 1) a0 a1 a2 a3 a4 a5 a6 a7 a8 a9 a10 = some x) : ∃ sf, sf = loop11 b n ∧ b sf a0 a1 a2 a3 a4 a5 a6 a7 a8 a9 a10 = some x := ⟨_, rfl, loop11_succ.symm.trans h⟩
theorem jnE12 {A0 A1 A2 A3 A4 A5 A6 A7 A8 A9 A10 A11 : Type} {j f : A0 → A1 → A2 → A3 → A4 → A5 → A6 → A7 → A8 → A9 → A10 → A11 → Option R} {a0 : A0} {a1 : A1} {a2 : A2} {a3 : A3} {a4 : A4} {a5 : A5} {a6 : A6} {a7 : A7} {a8 : A8} {a9 : A9} {a10 : A10} {a11 : A11} (e : j = f) (h : j a0 a1 a2 a3 a4 a5 a6 a7 a8 a9 a10 a11 = some x) : f a0 a1 a2 a3 a4 a5 a6 a7 a8 a9 a10 a11 = some x := e ▸ h
theorem jnR12 {A0 A1 A2 A3 A4 A5 A6 A7 A8 A9 A10 A11 : Type} {j f : A0 → A1 → A2 → A3 → A4 → A5 → A6 → A7 → A8 → A9 → A10 → A11 → Option R} {a0 : A0} {a1 : A1} {a2 : A2} {a3 : A3} {a4 : A4} {a5 : A5} {a6 : A6} {a7 : A7} {a8 : A8} {a9 : A9} {a10 : A10} {a11 : A11} (e : j = f) (h : j a0 a1 a2 a3 a4 a5 a6 a7 a8 a9 a10 a11 = some x) : f a0 a1 a2 a3 a4 a5 a6 a7 a8 a9 a10 a11 = some x := e ▸ h
@[irreducible] def loop12 {A0 A1 A2 A3 A4 A5 A6 A7 A8 A9 A10 A11 : Type} (b : (A0 → A1 → A2 → A3 → A4 → A5 → A6 → A7 → A8 → A9 → A10 → A11 → Option R) → A0 → A1 → A2 → A3 → A4 → A5 → A6 → A7 → A8 → A9 → A10 → A11 → Option R) (n : Nat) : A0 → A1 → A2 → A3 → A4 → A5 → A6 → A7 → A8 → A9 → A10 → A11 → Option R := Nat.rec (fun _ _ _ _ _ _ _ _ _ _ _ _ => none) (fun _ s => b s) n
theorem loop12_zero {A0 A1 A2 A3 A4 A5 A6 A7 A8 A9 A10 A11 : Type} {b : (A0 → A1 → A2 → A3 → A4 → A5 → A6 → A7 → A8 → A9 → A10 → A11 → Option R) → A0 → A1 → A2 → A3 → A4 → A5 → A6 → A7 → A8 → A9 → A10 → A11 → Option R} {a0 : A0} {a1 : A1} {a2 : A2} {a3 : A3} {a4 : A4} {a5 : A5} {a6 : A6} {a7 : A7} {a8 : A8} {a9 : A9} {a10 : A10} {a11 : A11} : loop12 b 0 a0 a1 a2 a3 a4 a5 a6 a7 a8 a9 a10 a11 = none := by unfold loop12; rfl
theorem loop12_succ {A0 A1 A2 A3 A4 A5 A6 A7 A8 A9 A10 A11 : Type} {b : (A0 → A1 → A2 → A3 → A4 → A5 → A6 → A7 → A8 → A9 → A10 → A11 → Option R) → A0 → A1 → A2 → A3 → A4 → A5 → A6 → A7 → A8 → A9 → A10 → A11 → Option R} {n : Nat} {a0 : A0} {a1 : A1} {a2 : A2} {a3 : A3} {a4 : A4} {a5 : A5} {a6 : A6} {a7 : A7} {a8 : A8} {a9 : A9} {a10 : A10} {a11 : A11} : loop12 b (n + 1) a0 a1 a2 a3 a4 a5 a6 a7 a8 a9 a10 a11 = b (loop12 b n) a0 a1 a2 a3 a4 a5 a6 a7 a8 a9 a10 a11 := by unfold loop12; rfl
theorem loop12_z {A0 A1 A2 A3 A4 A5 A6 A7 A8 A9 A10 A11 : Type} {b : (A0 → A1 → A2 → A3 → A4 → A5 → A6 → A7 → A8 → A9 → A10 → A11 → Option R) → A0 → A1 → A2 → A3 → A4 → A5 → A6 → A7 → A8 → A9 → A10 → A11 → Option R} {a0 : A0} {a1 : A1} {a2 : A2} {a3 : A3} {a4 : A4} {a5 : A5} {a6 : A6} {a7 : A7} {a8 : A8} {a9 : A9} {a10 : A10} {a11 : A11} (h : loop12 b 0 a0 a1 a2 a3 a4 a5 a6 a7 a8 a9 a10 a11 = some x) : False := by rw [loop12_zero] at h; cases h
theorem loop12_s {A0 A1 A2 A3 A4 A5 A6 A7 A8 A9 A10 A11 : Type} {b : (A0 → A1 → A2 → A3 → A4 → A5 → A6 → A7 → A8 → A9 → A10 → A11 → Option R) → A0 → A1 → A2 → A3 → A4 → A5 → A6 → A7 → A8 → A9 → A10 → A11 → Option R} {n : Nat} {a0 : A0} {a1 : A1} {a2 : A2} {a3 : A3} {a4 : A4} {a5 : A5} {a6 : A6} {a7 : A7} {a8 : A8} {a9 : A9} {a10 : A10} {a11 : A11} (h : loop12 b (n + 1) a0 a1 a2 a3 a4 a5 a6 a7 a8 a9 a10 a11 = some x) : ∃ sf, sf = loop12 b n ∧ b sf a0 a1 a2 a3 a4 a5 a6 a7 a8 a9 a10 a11 = some x := ⟨_, rfl, loop12_succ.symm.trans h⟩
theorem jnE13 {A0 A1 A2 A3 A4 A5 A6 A7 A8 A9 A10 A11 A12 : Type} {j f : A0 → A1 → A2 → A3 → A4 → A5 → A6 → A7 → A8 → A9 → A10 → A11 → A12 → Option R} {a0 : A0} {a1 : A1} {a2 : A2} {a3 : A3} {a4 : A4} {a5 : A5} {a6 : A6} {a7 : A7} {a8 : A8} {a9 : A9} {a10 : A10} {a11 : A11} {a12 : A12} (e : j = f) (h : j a0 a1 a2 a3 a4 a5 a6 a7 a8 a9 a10 a11 a12 = some x) : f a0 a1 a2 a3 a4 a5 a6 a7 a8 a9 a10 a11 a12 = some x := e ▸ h
theorem jnR13 {A0 A1 A2 A3 A4 A5 A6 A7 A8 A9 A10 A11 A12 : Type} {j f : A0 → A1 → A2 → A3 → A4 → A5 → A6 → A7 → A8 → A9 → A10 → A11 → A12 → Option R} {a0 : A0} {a1 : A1} {a2 : A2} {a3 : A3} {a4 : A4} {a5 : A5} {a6 : A6} {a7 : A7} {a8 : A8} {a9 : A9} {a10 : A10} {a11 : A11} {a12 : A12} (e : j = f) (h : j a0 a1 a2 a3 a4 a5 a6 a7 a8 a9 a10 a11 a12 = some x) : f a0 a1 a2 a3 a4 a5 a6 a7 a8 a9 a10 a11 a12 = some x := e ▸ h
@[irreducible] def loop13 {A0 A1 A2 A3 A4 A5 A6 A7 A8 A9 A10 A11 A12 : Type} (b : (A0 → A1 → A2 → A3 → A4 → A5 → A6 → A7 → A8 → A9 → A10 → A11 → A12 → Option R) → A0 → A1 → A2 → A3 → A4 → A5 → A6 → A7 → A8 → A9 → A10 → A11 → A12 → Option R) (n : Nat) : A0 → A1 → A2 → A3 → A4 → A5 → A6 → A7 → A8 → A9 → A10 → A11 → A12 → Option R := Nat.rec (fun _ _ _ _ _ _ _ _ _ _ _ _ _ => none) (fun _ s => b s) n
theorem loop13_zero {A0 A1 A2 A3 A4 A5 A6 A7 A8 A9 A10 A11 A12 : Type} {b : (A0 → A1 → A2 → A3 → A4 → A5 → A6 → A7 → A8 → A9 → A10 → A11 → A12 → Option R) → A0 → A1 → A2 → A3 → A4 → A5 → A6 → A7 → A8 → A9 → A10 → A11 → A12 → Option R} {a0 : A0} {a1 : A1} {a2 : A2} {a3 : A3} {a4 : A4} {a5 : A5} {a6 : A6} {a7 : A7} {a8 : A8} {a9 : A9} {a10 : A10} {a11 : A11} {a12 : A12} : loop13 b 0 a0 a1 a2 a3 a4 a5 a6 a7 a8 a9 a10 a11 a12 = none := by unfold loop13; rfl
theorem loop13_succ {A0 A1 A2 A3 A4 A5 A6 A7 A8 A9 A10 A11 A12 : Type} {b : (A0 → A1 → A2 → A3 → A4 → A5 → A6 → A7 → A8 → A9 → A10 → A11 → A12 → Option R) → A0 → A1 → A2 → A3 → A4 → A5 → A6 → A7 → A8 → A9 → A10 → A11 → A12 → Option R} {n : Nat} {a0 : A0} {a1 : A1} {a2 : A2} {a3 : A3} {a4 : A4} {a5 : A5} {a6 : A6} {a7 : A7} {a8 : A8} {a9 : A9} {a10 : A10} {a11 : A11} {a12 : A12} : loop13 b (n + 1) a0 a1 a2 a3 a4 a5 a6 a7 a8 a9 a10 a11 a12 = b (loop13 b n) a0 a1 a2 a3 a4 a5 a6 a7 a8 a9 a10 a11 a12 := by unfold loop13; rfl
theorem loop13_z {A0 A1 A2 A3 A4 A5 A6 A7 A8 A9 A10 A11 A12 : Type} {b : (A0 → A1 → A2 → A3 → A4 → A5 → A6 → A7 → A8 → A9 → A10 → A11 → A12 → Option R) → A0 → A1 → A2 → A3 → A4 → A5 → A6 → A7 → A8 → A9 → A10 → A11 → A12 → Option R} {a0 : A0} {a1 : A1} {a2 : A2} {a3 : A3} {a4 : A4} {a5 : A5} {a6 : A6} {a7 : A7} {a8 : A8} {a9 : A9} {a10 : A10} {a11 : A11} {a12 : A12} (h : loop13 b 0 a0 a1 a2 a3 a4 a5 a6 a7 a8 a9 a10 a11 a12 = some x) : False := by rw [loop13_zero] at h; cases h
theorem loop13_s {A0 A1 A2 A3 A4 A5 A6 A7 A8 A9 A10 A11 A12 : Type} {b : (A0 → A1 → A2 → A3 → A4 → A5 → A6 → A7 → A8 → A9 → A10 → A11 → A12 → Option R) → A0 → A1 → A2 → A3 → A4 → A5 → A6 → A7 → A8 → A9 → A10 → A11 → A12 → Option R} {n : Nat} {a0 : A0} {a1 : A1} {a2 : A2} {a3 : A3} {a4 : A4} {a5 : A5} {a6 : A6} {a7 : A7} {a8 : A8} {a9 : A9} {a10 : A10} {a11 : A11} {a12 : A12} (h : loop13 b (n + 1) a0 a1 a2 a3 a4 a5 a6 a7 a8 a9 a10 a11 a12 = some x) : ∃ sf, sf = loop13 b n ∧ b sf a0 a1 a2 a3 a4 a5 a6 a7 a8 a9 a10 a11 a12 = some x := ⟨_, rfl, loop13_succ.symm.trans h⟩
theorem jnE14 {A0 A1 A2 A3 A4 A5 A6 A7 A8 A9 A10 A11 A12 A13 : Type} {j f : A0 → A1 → A2 → A3 → A4 → A5 → A6 → A7 → A8 → A9 → A10 → A11 → A12 → A13 → Option R} {a0 : A0} {a1 : A1} {a2 : A2} {a3 : A3} {a4 : A4} {a5 : A5} {a6 : A6} {a7 : A7} {a8 : A8} {a9 : A9} {a10 : A10} {a11 : A11} {a12 : A12} {a13 : A13} (e : j = f) (h : j a0 a1 a2 a3 a4 a5 a6 a7 a8 a9 a10 a11 a12 a13 = some x) : f a0 a1 a2 a3 a4 a5 a6 a7 a8 a9 a10 a11 a12 a13 = some x := e ▸ h
theorem jnR14 {A0 A1 A2 A3 A4 A5 A6 A7 A8 A9 A10 A11 A12 A13 : Type} {j f : A0 → A1 → A2 → A3 → A4 → A5 → A6 → A7 → A8 → A9 → A10 → A11 → A12 → A13 → Option R} {a0 : A0} {a1 : A1} {a2 : A2} {a3 : A3} {a4 : A4} {a5 : A5} {a6 : A6} {a7 : A7} {a8 : A8} {a9 : A9} {a10 : A10} {a11 : A11} {a12 : A12} {a13 : A13} (e : j = f) (h : j a0 a1 a2 a3 a4 a5 a6 a7 a8 a9 a10 a11 a12 a13 = some x) : f a0 a1 a2 a3 a4 a5 a6 a7 a8 a9 a10 a11 a12 a13 = some x := e ▸ h
@[irreducible] def loop14 {A0 A1 A2 A3 A4 A5 A6 A7 A8 A9 A10 A11 A12 A13 : Type} (b : (A0 → A1 → A2 → A3 → A4 → A5 → A6 → A7 → A8 → A9 → A10 → A11 → A12 → A13 → Option R) → A0 → A1 → A2 → A3 → A4 → A5 → A6 → A7 → A8 → A9 → A10 → A11 → A12 → A13 → Option R) (n : Nat) : A0 → A1 → A2 → A3 → A4 → A5 → A6 → A7 → A8 → A9 → A10 → A11 → A12 → A13 → Option R := Nat.rec (fun _ _ _ _ _ _ _ _ _ _ _ _ _ _ => none) (fun _ s => b s) n
theorem loop14_zero {A0 A1 A2 A3 A4 A5 A6 A7 A8 A9 A10 A11 A12 A13 : Type} {b : (A0 → A1 → A2 → A3 → A4 → A5 → A6 → A7 → A8 → A9 → A10 → A11 → A12 → A13 → Option R) → A0 → A1 → A2 → A3 → A4 → A5 → A6 → A7 → A8 → A9 → A10 → A11 → A12 → A13 → Option R} {a0 : A0} {a1 : A1} {a2 : A2} {a3 : A3} {a4 : A4} {a5 : A5} {a6 : A6} {a7 : A7} {a8 : A8} {a9 : A9} {a10 : A10} {a11 : A11} {a12 : A12} {a13 : A13} : loop14 b 0 a0 a1 a2 a3 a4 a5 a6 a7 a8 a9 a10 a11 a12 a13 = none := by unfold loop14; rfl
theorem loop14_succ {A0 A1 A2 A3 A4 A5 A6 A7 A8 A9 A10 A11 A12 A13 : Type} {b : (A0 → A1 → A2 → A3 → A4 → A5 → A6 → A7 → A8 → A9 → A10 → A11 → A12 → A13 → Option R) → A0 → A1 → A2 → A3 → A4 → A5 → A6 → A7 → A8 → A9 → A10 → A11 → A12 → A13 → Option R} {n : Nat} {a0 : A0} {a1 : A1} {a2 : A2} {a3 : A3} {a4 : A4} {a5 : A5} {a6 : A6} {a7 : A7} {a8 : A8} {a9 : A9} {a10 : A10} {a11 : A11} {a12 : A12} {a13 : A13} : loop14 b (n + 1) a0 a1 a2 a3 a4 a5 a6 a7 a8 a9 a10 a11 a12 a13 = b (loop14 b n) a0 a1 a2 a3 a4 a5 a6 a7 a8 a9 a10 a11 a12 a13 := by unfold loop14; rfl
theorem loop14_z {A0 A1 A2 A3 A4 A5 A6 A7 A8 A9 A10 A11 A12 A13 : Type} {b : (A0 → A1 → A2 → A3 → A4 → A5 → A6 → A7 → A8 → A9 → A10 → A11 → A12 → A13 → Option R) → A0 → A1 → A2 → A3 → A4 → A5 → A6 → A7 → A8 → A9 → A10 → A11 → A12 → A13 → Option R} {a0 : A0} {a1 : A1} {a2 : A2} {a3 : A3} {a4 : A4} {a5 : A5} {a6 : A6} {a7 : A7} {a8 : A8} {a9 : A9} {a10 : A10} {a11 : A11} {a12 : A12} {a13 : A13} (h : loop14 b 0 a0 a1 a2 a3 a4 a5 a6 a7 a8 a9 a10 a11 a12 a13 = some x) : False := by rw [loop14_zero] at h; cases h
theorem loop14_s {A0 A1 A2 A3 A4 A5 A6 A7 A8 A9 A10 A11 A12 A13 : Type} {b : (A0 → A1 → A2 → A3 → A4 → A5 → A6 → A7 → A8 → A9 → A10 → A11 → A12 → A13 → Option R) → A0 → A1 → A2 → A3 → A4 → A5 → A6 → A7 → A8 → A9 → A10 → A11 → A12 → A13 → Option R} {n : Nat} {a0 : A0} {a1 : A1} {a2 : A2} {a3 : A3} {a4 : A4} {a5 : A5} {a6 : A6} {a7 : A7} {a8 : A8} {a9 : A9} {a10 : A10} {a11 : A11} {a12 : A12} {a13 : A13} (h : loop14 b (n + 1) a0 a1 a2 a3 a4 a5 a6 a7 a8 a9 a10 a11 a12 a13 = some x) : ∃ sf, sf = loop14 b n ∧ b sf a0 a1 a2 a3 a4 a5 a6 a7 a8 a9 a10 a11 a12 a13 = some x := ⟨_, rfl, loop14_succ.symm.trans h⟩
end model

section ink
theorem inK_wrap (k : IntKind) (n : Int) : InK k (k.wrap n) := wrap_within k n
theorem inK_bits (op : BinOp) (k : IntKind) (a b : Int) : InK k (Go.bits op k a b) := bits_within op k a b
theorem inK_u8 (b : UInt8) : InK .u8 (b.toNat : Int) := by
  have := b.toNat_lt
  constructor <;> simp [IntKind.min, IntKind.max, IntKind.bits, IntKind.signed]; omega
theorem inK_len {α : Type} {r : Rp α} {w : World} {O : List Nat} {a : Option Addr} {c : Nat} {xs : List α} (h : SlR r w O a c xs) : InK .i64 (xs.length : Int) := by
  have := h.len
  constructor <;> simp [IntKind.min, IntKind.max, IntKind.bits, IntKind.signed] <;> omega
theorem inK_cap {α : Type} {r : Rp α} {w : World} {O : List Nat} {a : Option Addr} {c : Nat} {xs : List α} (h : SlR r w O a c xs) : InK .i64 (c : Int) := by
  have := h.cap
  have : maxLen = 9223372036854775807 := rfl
  constructor <;> simp [IntKind.min, IntKind.max, IntKind.bits, IntKind.signed] <;> omega
theorem inK_lenG {α : Type} {q : Rp α} {e : TypeId} {w : World} {O : List Nat} {a : Option Addr} {c : Nat} {xs : List α} {kk : Option Nat} {o : Obj} (h : Gs q e w O a c xs kk o) : InK .i64 (xs.length : Int) := by
  have := h.le
  have : maxLen = 9223372036854775807 := rfl
  constructor <;> simp [IntKind.min, IntKind.max, IntKind.bits, IntKind.signed] <;> omega
theorem inK_of {k : Nat} (h : k ≤ 9223372036854775807) : InK .i64 (k : Int) := by
  constructor <;> simp [IntKind.min, IntKind.max, IntKind.bits, IntKind.signed] <;> omega
theorem inK_minlen {α : Type} {r : Rp α} {w : World} {O : List Nat} {a : Option Addr} {c k : Nat} {xs : List α} (h : SlR r w O a c xs) : InK .i64 ((min xs.length k : Nat) : Int) := by
  have := h.len
  constructor <;> simp [IntKind.min, IntKind.max, IntKind.bits, IntKind.signed] <;> omega
theorem inK_tmod {k : IntKind} {m n : Int} (h : InK k m) : InK k (m.tmod n) := by
  have h1 : m.tmod n = m - n * m.tdiv n := by have := Int.mul_tdiv_add_tmod m n; omega
  rcases Int.le_total 0 m with hm | hm
  · have h2 := Int.tmod_nonneg n hm
    have h3 : m.tmod n ≤ m := by
      have e := Int.natAbs_tmod m n
      have : m.natAbs % n.natAbs ≤ m.natAbs := Nat.mod_le _ _
      omega
    refine ⟨Int.le_trans ?_ h2, Int.le_trans h3 h.2⟩
    cases k <;> simp [IntKind.min, IntKind.bits, IntKind.signed]
  · have h3 : m ≤ m.tmod n ∧ m.tmod n ≤ 0 := by
      have e := Int.natAbs_tmod m n
      have : m.natAbs % n.natAbs ≤ m.natAbs := Nat.mod_le _ _
      have h4 : (-m).tmod n = -(m.tmod n) := Int.neg_tmod m n
      have h5 := Int.tmod_nonneg n (show 0 ≤ -m by omega)
      omega
    refine ⟨Int.le_trans h.1 h3.1, Int.le_trans h3.2 ?_⟩
    cases k <;> simp [IntKind.max, IntKind.bits, IntKind.signed]
theorem inK_shr {k : IntKind} {m : Int} {j : Nat} (h : InK k m) : InK k (m / 2 ^ j) := by
  have hp : (0 : Int) < 2 ^ j := Int.pow_pos (by decide)
  rcases Int.le_total 0 m with hm | hm
  · have h2 : 0 ≤ m / 2 ^ j := Int.ediv_nonneg hm (Int.le_of_lt hp)
    have h3 : m / 2 ^ j ≤ m := Int.ediv_le_self _ hm
    refine ⟨Int.le_trans ?_ h2, Int.le_trans h3 h.2⟩
    cases k <;> simp [IntKind.min, IntKind.bits, IntKind.signed]
  · have h2 : m ≤ m / 2 ^ j := by
      rw [Int.le_ediv_iff_mul_le hp]
      have : (1 : Int) ≤ 2 ^ j := hp
      have := Int.mul_le_mul_of_nonpos_left hm this
      simpa using this
    have h3 : m / 2 ^ j ≤ 0 := by
      have := Int.ediv_le_ediv hp hm
      simpa using this
    refine ⟨Int.le_trans h.1 h2, Int.le_trans h3 ?_⟩
    cases k <;> simp [IntKind.max, IntKind.bits, IntKind.signed]
theorem inK_max {k : IntKind} {m n : Int} (h1 : InK k m) (h2 : InK k n) : InK k (max m n) := ⟨Int.le_trans h1.1 (Int.le_max_left ..), Int.max_le.2 ⟨h1.2, h2.2⟩⟩
theorem inK_min {k : IntKind} {m n : Int} (h1 : InK k m) (h2 : InK k n) : InK k (min m n) := ⟨Int.le_min.2 ⟨h1.1, h2.1⟩, Int.le_trans (Int.min_le_left ..) h1.2⟩
theorem inK_cond {k : IntKind} {c : Bool} {m n : Int} (h1 : InK k m) (h2 : InK k n) : InK k (bif c then m else n) := by cases c <;> assumption
theorem mk_int {k : IntKind} {x : Int} {w : World} {O : List Nat} (h : InK k x) : (rInt k).rd w O [.int k x] x := ⟨rfl, h⟩
theorem u8_of {x : Int} (h : InK .u8 x) : ((UInt8.ofNat x.toNat).toNat : Int) = x := by
  obtain ⟨h1, h2⟩ := h
  simp [IntKind.min, IntKind.max, IntKind.bits, IntKind.signed] at h1 h2
  simp; omega
theorem mk_u8 {x : Int} {w : World} {O : List Nat} (h : InK .u8 x) : rU8.rd w O [.int .u8 x] (UInt8.ofNat x.toNat) := by
  show _ = [Value.int .u8 _]
  rw [u8_of h]
theorem val_u8 {x : Int} (h : InK .u8 x) : Value.int .u8 x = .int .u8 (UInt8.ofNat x.toNat).toNat := by rw [u8_of h]
end ink

theorem inK_ofu8 (k : IntKind) (hk : 8 ≤ k.bits ∧ (k.signed = true → 9 ≤ k.bits)) (b : UInt8) : InK k (b.toNat : Int) := by
  have := b.toNat_lt
  cases k <;> simp [IntKind.bits, IntKind.signed] at hk <;> constructor <;> simp [IntKind.min, IntKind.max, IntKind.bits, IntKind.signed] <;> omega
/-- a string's bytes, in one cell -/
def rStr : Rp (List UInt8) where
  n := 1
  rd _ _ vs x := vs = [.string (Fx.bs x)]
  len h := by rw [h]; rfl
  one h := by rw [h]; intro v hv; simp at hv; subst hv; rfl
  step _ h := h
theorem un_str {w : World} {O : List Nat} {v : Value} {x : List UInt8} (h : rStr.rd w O [v] x) : v = .string (Fx.bs x) := by simpa [rStr] using h
theorem mkStr {w : World} {O : List Nat} {x : List UInt8} : rStr.rd w O [.string (Fx.bs x)] x := rfl
theorem u8c {V : Value → World → Prop} {w : World} {x : Int} (h : InK .u8 x) (hV : V (.int .u8 (UInt8.ofNat x.toNat).toNat) w) : V (.int .u8 x) w := by rw [val_u8 h]; exact hV

section
variable {P : Program} {r : Option Nat} {ρ : Env} {w : World} {d : Option Nat} {ty : TypeId} {pos : String} {aft : Array Edge} {g : Option (Nat × Bool)} {V : Value → World → Prop}
variable {w0 : Zx} {w' : World} {O0 : List Nat} {bs bs' new : Ents}
variable {x y : Operand} {t s u : TypeId} {td : TypeDesc} {n b : Nat} {z : List Value} {ag : Bool} {k q q' : IntKind} {m j : Int}

theorem run1_u8 {o : Oper} {e : Int} (hr : InK .u8 e) (h : ∀ V : Value → World → Prop, V (.int .u8 e) w → Run1 P r ρ w o V) (k : V (.int .u8 (UInt8.ofNat e.toNat).toNat) w) : Run1 P r ρ w o V := h V (by rw [val_u8 hr]; exact k)
theorem op_and (hx : ev ρ x = .int q m) (hy : ev ρ y = .int q j) (h : V (.int q (Go.bits .and q m j)) w) : Run1 P r ρ w ⟨d, .binOp .and t x y u, ty, pos, aft, g⟩ V :=
  run1_value (by simp) (by simp [execOp, hx, hy, eqGuard, binOp, Op.intBits, Go.bits]) h
theorem op_or (hx : ev ρ x = .int q m) (hy : ev ρ y = .int q j) (h : V (.int q (Go.bits .or q m j)) w) : Run1 P r ρ w ⟨d, .binOp .or t x y u, ty, pos, aft, g⟩ V :=
  run1_value (by simp) (by simp [execOp, hx, hy, eqGuard, binOp, Op.intBits, Go.bits]) h
theorem op_xor (hx : ev ρ x = .int q m) (hy : ev ρ y = .int q j) (h : V (.int q (Go.bits .xor q m j)) w) : Run1 P r ρ w ⟨d, .binOp .xor t x y u, ty, pos, aft, g⟩ V :=
  run1_value (by simp) (by simp [execOp, hx, hy, eqGuard, binOp, Op.intBits, Go.bits]) h
theorem op_shl (hx : ev ρ x = .int q m) (hy : ev ρ y = .int q' j) (h0 : 0 ≤ j) (h : V (.int q (q.wrap (m * 2 ^ min j.toNat q.bits))) w) : Run1 P r ρ w ⟨d, .binOp .shl t x y u, ty, pos, aft, g⟩ V :=
  run1_value (by simp) (by simp [execOp, hx, hy, eqGuard, binOp, shift_shl_any _ _ _ _ h0]) h
theorem op_shr (hx : ev ρ x = .int q m) (hy : ev ρ y = .int q' j) (h0 : 0 ≤ j) (h : V (.int q (m / 2 ^ min j.toNat q.bits)) w) : Run1 P r ρ w ⟨d, .binOp .shr t x y u, ty, pos, aft, g⟩ V :=
  run1_value (by simp) (by simp [execOp, hx, hy, eqGuard, binOp, shift_shr_any _ _ _ _ h0]) h
theorem op_neg (hx : ev ρ x = .int q m) (h : V (.int q (q.wrap (0 - m))) w) : Run1 P r ρ w ⟨d, .unOp .neg t x, ty, pos, aft, g⟩ V :=
  run1_value (by simp) (by simp only [execOp, hx, Op.unary, Op.intArith]; simp) h
theorem op_com (hx : ev ρ x = .int q m) (h : V (.int q (Go.bits .xor q (if q.signed then -1 else q.max) m)) w) : Run1 P r ρ w ⟨d, .unOp .xor t x, ty, pos, aft, g⟩ V :=
  run1_value (by simp) (by simp [execOp, hx, Op.unary, Op.intBits, Go.bits]) h

theorem op_max {us : Array TypeId} (hx : ev ρ x = .int q m) (hy : ev ρ y = .int q j) (h : V (.int q (max m j)) w) : Run1 P r ρ w ⟨d, .call ⟨.builtin .max, #[x, y], us⟩, ty, pos, aft, g⟩ V := by
  have e : (if m < j then j else m) = max m j := by split <;> omega
  exact run1_value (v := .int q (max m j)) (by simp) (by simp [execOp, resolve, invoke, builtin, Builtin.max_, Builtin.max2, hx, hy, e]) h
theorem op_min {us : Array TypeId} (hx : ev ρ x = .int q m) (hy : ev ρ y = .int q j) (h : V (.int q (min m j)) w) : Run1 P r ρ w ⟨d, .call ⟨.builtin .min, #[x, y], us⟩, ty, pos, aft, g⟩ V := by
  have e : (if j < m then j else m) = min m j := by split <;> omega
  exact run1_value (v := .int q (min m j)) (by simp) (by simp [execOp, resolve, invoke, builtin, Builtin.min_, Builtin.min2, hx, hy, e]) h
theorem eqlen {a : Option Addr} {l l' c : Nat} (h : ev ρ x = .slice a l c) (e : l = l') : ev ρ x = .slice a l' c := e ▸ h
theorem eqlenV {a : Option Addr} {l l' c : Nat} (e : l = l') : Value.slice a l c = .slice a l' c := e ▸ rfl
theorem bndI {o : Operand} {dflt l : Nat} {m : Int} (h : ev ρ o = .int q m) (hk : m = (l : Int)) : Bnd ρ (some o) dflt l := ⟨q, by rw [h, hk]⟩
theorem Src.owned' {bl len : Nat} {cs news : List Value} {e : TypeId} {fz : Nat × Nat} (h : w.heap[bl]? = some (.cells cs.toArray e fz)) (hn : (cs.drop 0).take len = news) : Src w (some ⟨bl, 0, none⟩) news := hn ▸ Src.owned h
theorem Gs.of_make {α : Type} {p : Rp α} {O : List Nat} {e : TypeId} {bl l c : Nat} {v : Value} {x0 : α} (hp : p.n = 1) (hr : ∀ w O, p.rd w O [v] x0) (hlc : l ≤ c) (hc : c ≤ maxLen) :
    Gs p e w O (some ⟨bl, 0, none⟩) c (List.replicate l x0) (some bl) (.cells (List.replicate c v).toArray e) := by
  refine Gs.made (by simp [hp]) (by simpa using hlc) hc ?_
  simp only [hp, Nat.mul_one, List.length_replicate, List.take_replicate, Nat.min_eq_left hlc]
  clear hlc
  induction l with
  | zero => exact Els.nil
  | succ l ih => exact ⟨[v], List.replicate l v, by simp [List.replicate_succ], hr w O, ih⟩
theorem op_makeSliceI {α : Type} {q : Rp α} {e : TypeId} {bt : Nat} {tz : List Value} {ta : Bool} {v : Value} {x0 : α} {kl kc : IntKind} {l c : Int} (T : Ty P t (.slice e) 1 bt tz ta) (E : Ty P e td 1 b [v] ag) (hs : St w0 O0 w bs)
    (hx : ev ρ x = .int kl l) (hy : ev ρ y = .int kc c) (hc : 0 ≤ l ∧ l ≤ c ∧ b * c ≤ 281474976710656 ∧ c ≤ 281474976710656) (hq : q.n = 1) (hr : ∀ w O, q.rd w O [v] x0)
    (k : ∀ bl w', Ext w w' → Step (ks bs O0) w (ks ((some bl, .cells (List.replicate c.toNat v).toArray e) :: bs) O0) w' → St w0 O0 w' ((some bl, .cells (List.replicate c.toNat v).toArray e) :: bs) →
      Gs q e w' (ks ((some bl, .cells (List.replicate c.toNat v).toArray e) :: bs) O0) (some ⟨bl, 0, none⟩) c.toNat (List.replicate l.toNat x0) (some bl) (.cells (List.replicate c.toNat v).toArray e) →
      V (.slice (some ⟨bl, 0, none⟩) (List.replicate l.toNat x0).length c.toNat) w') :
    Run1 P r ρ w ⟨d, .makeSlice t x y, ty, pos, aft, g⟩ V := by
  have hm : maxLen = 9223372036854775807 := rfl
  refine op_makeSlice (l := l.toNat) (c := c.toNat) T E hs (hx.trans (by rw [Int.toNat_of_nonneg hc.1])) (hy.trans (by rw [Int.toNat_of_nonneg (by omega)])) (by omega) ?_ (by omega) fun bl w' hx h1 h2 => ?_
  · have e1 : ((c.toNat : Nat) : Int) = c := Int.toNat_of_nonneg (by omega)
    have e2 : ((b * c.toNat : Nat) : Int) = b * c := by rw [Int.natCast_mul, e1]
    have := hc.2.2.1
    rw [← e2] at this
    exact Int.ofNat_le.1 this
  · have := k bl w' hx h1 h2 (Gs.of_make hq hr (by omega) (by omega))
    rwa [List.length_replicate] at this
theorem perm_front {β : Type} : ∀ (l : List β) (i : Nat) (p : β), l[i]? = some p → (p :: l.eraseIdx i).Perm l
  | [], _, _, h => by simp at h
  | a :: l, 0, p, h => by simp at h; subst h; exact List.Perm.refl _
  | a :: l, i + 1, p, h => (List.Perm.swap a p _).trans ((perm_front l i p (by simpa using h)).cons a)
theorem St.front {i : Nat} {p : Option Nat × Obj} (hs : St w0 O0 w bs) (hi : bs[i]? = some p) : St w0 O0 w (p :: bs.eraseIdx i) ∧ Step (ks bs O0) w (ks (p :: bs.eraseIdx i) O0) w := by
  have hp : (p :: bs.eraseIdx i).Perm bs := perm_front bs i p hi
  have hk : ∀ b, b ∈ ks (p :: bs.eraseIdx i) O0 ↔ b ∈ ks bs O0 := fun b => by
    simp only [ks, List.mem_append]
    rw [(hp.filterMap Prod.fst).mem_iff]
  refine ⟨⟨hs.below, fun q hq => hs.own q (hp.mem_iff.1 hq), ?_, fun j hj => ⟨(hs.dj j hj).1, fun hm => (hs.dj j hj).2 ((hp.filterMap Prod.fst).mem_iff.1 hm)⟩, hs.dsn, hs.dfs⟩, Nat.le_refl _, fun j hj hn => ⟨fun h => hn ((hk j).1 h), rfl⟩⟩
  exact (hp.filterMap Prod.fst).nodup_iff.2 hs.nd

/-- a field of a struct's value -/
theorem op_field1 {fs : Array Field} {f fb : Nat} {fl : Field} {fd : TypeDesc} {fz cs : List Value} {v : Value} (T : Ty P t (.struct fs) n b z ag) (hf : fs[f]? = some fl) (F : Ty P fl.type fd 1 fb fz false)
    (hx : ev ρ x = .agg cs.toArray) (hv : cs[fl.offset]? = some v) (k : V v w) : Run1 P r ρ w ⟨d, .field t x f, ty, pos, aft, g⟩ V :=
  run1_value (by simp) (by simp [execOp, hx, Instr.field, T.runU, hf, part, F.agg, asAgg, hv]) k
theorem op_fieldA {fs : Array Field} {f fn fb : Nat} {fl : Field} {fd : TypeDesc} {fz cs vs : List Value} (T : Ty P t (.struct fs) n b z ag) (hf : fs[f]? = some fl) (F : Ty P fl.type fd fn fb fz true)
    (hx : ev ρ x = .agg cs.toArray) (hv : (cs.drop fl.offset).take fn = vs) (hl : fl.offset + fn ≤ cs.length) (k : V (.agg vs.toArray) w) : Run1 P r ρ w ⟨d, .field t x f, ty, pos, aft, g⟩ V :=
  run1_value (v := .agg vs.toArray) (by simp) (by
    have e : cs.toArray.extract fl.offset (fl.offset + fn) = vs.toArray := by
      apply Array.ext'
      simp [List.extract_eq_take_drop, ← hv]
    simp [execOp, hx, Instr.field, T.runU, hf, part, F.agg, F.runSize, asAgg, hv]) k

/-! slices of one's own, read and written -/
section own
variable {α : Type} {p : Rp α} {O O' : List Nat}
theorem Els.set : ∀ {cs : List Value} {xs : List α}, Els p w O cs xs → ∀ i, i < xs.length → ∀ {vs : List Value} {y : α}, p.rd w O vs y → Els p w O (cs.take (i * p.n) ++ vs ++ cs.drop (i * p.n + p.n)) (xs.set i y)
  | _, [], h, i, hi, _, _, _ => by simp at hi
  | _, x :: xs, ⟨v1, v2, h1, h2, h3⟩, 0, _, vs, y, hy => by
    refine ⟨vs, v2, ?_, hy, h3⟩
    rw [h1, ← p.len h2]; simp
  | _, x :: xs, ⟨v1, v2, h1, h2, h3⟩, i + 1, hi, vs, y, hy => by
    refine ⟨v1, v2.take (i * p.n) ++ vs ++ v2.drop (i * p.n + p.n), ?_, h2, Els.set h3 i (by simpa using hi) hy⟩
    have hl := p.len h2
    have e1 : (i + 1) * p.n = v1.length + i * p.n := by rw [hl, Nat.add_mul, Nat.one_mul, Nat.add_comm]
    rw [h1, e1, List.take_length_add_append, Nat.add_assoc, List.drop_append]
    simp [Nat.add_assoc]

theorem Gs.at_ {e : TypeId} {a : Option Addr} {c : Nat} {xs : List α} {kk : Option Nat} {o : Obj} (h : Gs p e w O a c xs kk o) (hx : 0 < xs.length) : ∃ bl, a = some ⟨bl, 0, none⟩ ∧ kk = some bl := by
  rcases h with ⟨_, _, rfl, _⟩ | ⟨bl, cur, h1, h2, _⟩
  · simp at hx
  · exact ⟨bl, h1, h2⟩
theorem op_indexAddrG {xs : List α} {e : TypeId} {dt : TypeDesc} {a : Option Addr} {c : Nat} {kd : IntKind} {bt : Nat} {tz : List Value} {ta : Bool} {kk : Option Nat} {o : Obj} (T : Ty P t (.slice e) 1 bt tz ta) (E : Ty P e dt n b z ag)
    (hx : ev ρ x = .slice a xs.length c) (hy : ev ρ y = .int kd m) (h : Gs p e w O a c xs kk o) (h0 : 0 ≤ m ∧ m < xs.length)
    (k : ∀ bl, a = some ⟨bl, 0, none⟩ → kk = some bl → V (.pointer (some ⟨bl, m.toNat * n, none⟩)) w) : Run1 P r ρ w ⟨d, .indexAddr t x y, ty, pos, aft, g⟩ V := by
  obtain ⟨bl, ha, hk⟩ := h.at_ (by omega)
  refine op_indexAddrO T E (hx.trans (by rw [ha])) hy h0.1 h0.2 ?_
  simpa using k bl ha hk
theorem Gs.cellsAt {e : TypeId} {a : Option Addr} {c bl : Nat} {xs : List α} {o : Obj} (h : Gs p e w O a c xs (some bl) o) {i : Nat} (hi : i < xs.length) :
    ∃ cur, o = .cells cur e (0, 0) ∧ (i + 1) * p.n ≤ cur.size ∧ p.rd w O ((cur.toList.drop (i * p.n)).take p.n) xs[i] := by
  rcases h with ⟨_, _, rfl, _⟩ | ⟨b2, cur, h1, h2, h3, h4, h5, h6, h7⟩
  · simp at hi
  · have e1 : (i + 1) * p.n ≤ xs.length * p.n := Nat.mul_le_mul_right _ hi
    have e2 : xs.length * p.n ≤ c * p.n := Nat.mul_le_mul_right _ h5
    refine ⟨cur, h3, by omega, ?_⟩
    have := h7.get i hi
    rwa [List.drop_take, List.take_take, Nat.min_eq_left (by rw [Nat.add_mul] at e1; omega)] at this
theorem op_loadG [Inhabited α] {xs : List α} {e : TypeId} {a : Option Addr} {c bl i : Nat} {o : Obj} (T : Ty P t td 1 b z false) (hp : p.n = 1) (hs : St w0 O0 w bs) (hi : bs[i]? = some (some bl, o))
    (hx : ev ρ x = .pointer (some ⟨bl, m.toNat * 1, none⟩)) (h : Gs p e w O a c xs (some bl) o) (h0 : 0 ≤ m ∧ m < xs.length)
    (k : ∀ v, p.rd w O [v] (xs.getD m.toNat default) → V v w) : Run1 P r ρ w ⟨d, .load t x, ty, pos, aft, g⟩ V := by
  have hm : m.toNat < xs.length := by omega
  obtain ⟨cur, h1, h2, h3⟩ := h.cellsAt hm
  subst h1
  rw [hp] at h2 h3
  simp only [Nat.mul_one] at h2 h3 hx
  have hl : m.toNat < cur.size := by omega
  have e1 : (cur.toList.drop m.toNat).take 1 = [cur[m.toNat]] := by
    rw [List.drop_eq_getElem_cons (by simpa using hl)]; simp
  rw [e1] at h3
  refine op_load (cs := cur.toList) (v := cur[m.toNat]) T hs hx (by rw [hi]) ?_ (k _ ?_)
  · rw [List.getElem?_eq_getElem (by simpa using hl)]; simp
  · have : xs.getD m.toNat default = xs[m.toNat] := by simp [List.getD_eq_getElem?_getD, List.getElem?_eq_getElem hm]
    rw [this]; exact h3
theorem op_loadGF [Inhabited α] {xs : List α} {e : TypeId} {a : Option Addr} {c bl i nn off : Nat} {o : Obj} (T : Ty P t td 1 b z false) (hp : p.n = nn) (hs : St w0 O0 w bs) (hi : bs[i]? = some (some bl, o))
    (hx : ev ρ x = .pointer (some ⟨bl, m.toNat * nn + off, none⟩)) (h : Gs p e w O a c xs (some bl) o) (h0 : 0 ≤ m ∧ m < xs.length) (hoff : off < nn)
    (k : ∀ vs v, p.rd w O vs (xs.getD m.toNat default) → vs[off]? = some v → V v w) : Run1 P r ρ w ⟨d, .load t x, ty, pos, aft, g⟩ V := by
  have hm : m.toNat < xs.length := by omega
  obtain ⟨cur, h1, h2, h3⟩ := h.cellsAt hm
  subst h1 hp
  have hl : m.toNat * p.n + off < cur.size := by rw [Nat.add_mul] at h2; omega
  refine op_load (cs := cur.toList) (v := cur[m.toNat * p.n + off]) T hs hx (by rw [hi]) ?_ (k ((cur.toList.drop (m.toNat * p.n)).take p.n) _ ?_ ?_)
  · rw [List.getElem?_eq_getElem (by simpa using hl)]; simp
  · have : xs.getD m.toNat default = xs[m.toNat] := by simp [List.getD_eq_getElem?_getD, List.getElem?_eq_getElem hm]
    rw [this]; exact h3
  · rw [List.getElem?_take, if_pos hoff, List.getElem?_drop, List.getElem?_eq_getElem (by simpa using hl)]; simp
theorem op_loadGA [Inhabited α] {xs : List α} {e : TypeId} {a : Option Addr} {c bl i : Nat} {o : Obj} (T : Ty P t td n b z true) (hp : p.n = n) (hs : St w0 O0 w bs) (hi : bs[i]? = some (some bl, o))
    (hx : ev ρ x = .pointer (some ⟨bl, m.toNat * n, none⟩)) (h : Gs p e w O a c xs (some bl) o) (h0 : 0 ≤ m ∧ m < xs.length)
    (k : ∀ vs, p.rd w O vs (xs.getD m.toNat default) → V (.agg vs.toArray) w) : Run1 P r ρ w ⟨d, .load t x, ty, pos, aft, g⟩ V := by
  have hm : m.toNat < xs.length := by omega
  obtain ⟨cur, h1, h2, h3⟩ := h.cellsAt hm
  subst h1 hp
  refine op_loadA (cs := cur.toList) T hs hx (by rw [hi]) rfl (p.len h3) (k _ ?_)
  have : xs.getD m.toNat default = xs[m.toNat] := by simp [List.getD_eq_getElem?_getD, List.getElem?_eq_getElem hm]
  rw [this]; exact h3
theorem op_storeG {xs : List α} {e : TypeId} {a : Option Addr} {c bl i : Nat} {o : Obj} {v : Value} {vs : List Value} {yv : α} (T : Ty P t td n b z ag) (hp : p.n = n) (hs : St w0 O0 w bs) (hi : bs[i]? = some (some bl, o))
    (hx : ev ρ x = .pointer (some ⟨bl, m.toNat * n, none⟩)) (hy : ev ρ y = v) (hv : v.cells = vs.toArray) (h : Gs p e w (ks bs O0) a c xs (some bl) o) (h0 : 0 ≤ m ∧ m < xs.length) (hr : p.rd w (ks bs O0) vs yv)
    (k : ∀ w' o', Step (ks bs O0) w (ks (bs.set i (some bl, o')) O0) w' → St w0 O0 w' (bs.set i (some bl, o')) → Gs p e w' (ks (bs.set i (some bl, o')) O0) a c (xs.set m.toNat yv) (some bl) o' → V undef w') :
    Run1 P r ρ w ⟨d, .store t x y, ty, pos, aft, g⟩ V := by
  have hm : m.toNat < xs.length := by omega
  rcases h with ⟨_, _, rfl, _⟩ | ⟨b2, cur, h1, h2, h3, h4, h5, h6, h7⟩
  · simp at hm
  · cases h2
    subst h3 hp
    have e1 : (m.toNat + 1) * p.n ≤ xs.length * p.n := Nat.mul_le_mul_right _ hm
    have e2 : xs.length * p.n ≤ c * p.n := Nat.mul_le_mul_right _ h5
    rw [Nat.add_mul, Nat.one_mul] at e1
    have hn := p.len hr
    refine op_store (cs := cur.toList) (vs := vs) T hs hx hy (by rw [hi]) hv hn (by simp; omega) (List.all_eq_true.2 fun v hv => by simpa using p.one hr v hv) rfl rfl fun w' h8 h9 => ?_
    refine k w' _ h8 h9 ?_
    refine .inr ⟨bl, _, h1, rfl, rfl, ?_, by simpa using h5, h6, ?_⟩
    · rw [List.size_toArray, setL_length (by simp; omega)]; simpa using h4
    · have e3 := (h7.set m.toNat hm hr).step h8
      simp only [List.length_set]
      have e4 : (setL cur.toList (m.toNat * p.n) vs).take (xs.length * p.n) = ((cur.toList.take (xs.length * p.n)).take (m.toNat * p.n)) ++ vs ++ (cur.toList.take (xs.length * p.n)).drop (m.toNat * p.n + p.n) := by
        apply List.ext_getElem?
        intro j
        rw [List.getElem?_take, setL_getAll (by simp; omega)]
        simp only [List.getElem?_append, List.length_append, List.length_take, Array.length_toList, List.getElem?_take, List.getElem?_drop, hn]
        rw [Nat.min_eq_left (show xs.length * p.n ≤ cur.size by omega), Nat.min_eq_left (show m.toNat * p.n ≤ xs.length * p.n by omega)]
        by_cases c1 : j < m.toNat * p.n
        · simp [c1, show j < m.toNat * p.n + p.n by omega, show j < xs.length * p.n by omega, show ¬ m.toNat * p.n ≤ j by omega]
        · by_cases c2 : j < m.toNat * p.n + p.n
          · simp [c1, c2, show j < xs.length * p.n by omega, show m.toNat * p.n ≤ j by omega]
          · simp only [c1, c2, if_false, and_false]
            have : m.toNat * p.n + p.n + (j - (m.toNat * p.n + p.n)) = j := by omega
            rw [this]
      rw [e4]; exact e3
theorem Gs.of_cells {e : TypeId} {bl c : Nat} {cs : List Value} {xs : List α} (h : Els p w O cs xs) (hc : xs.length = c) (hm : c ≤ maxLen) : Gs p e w O (some ⟨bl, 0, none⟩) c xs (some bl) (.cells cs.toArray e) := by
  refine Gs.made (by simp [h.len, hc]) (by omega) hm ?_
  simp only
  rw [List.take_of_length_le (by rw [h.len]; exact Nat.le_refl _)]; exact h
end own

/-! function values -/
/-- a call of a function value -/
def FvTo (P : Program) (fv : Value) (args : List Value) (w : World) (K : Value → World → Prop) : Prop :=
  ∃ f first cap, fv = .func (.func f) first cap ∧ (∀ (zs : Array Value) (w : World), (callFunc f zs).run P w = .ok (.enter f zs) w) ∧ Fn P f (first.toList ++ args ++ cap.toList) w K
theorem op_callF {fv : Value} {args : Array Operand} {us : Array TypeId} {vs : List Value} {K : Value → World → Prop} (hx : ev ρ x = fv) (h : FvTo P fv vs w K) (ha : args.toList.map (ev ρ) = vs) (hk : ∀ v w', K v w' → V v w') :
    Run1 P r ρ w ⟨d, .call ⟨.value x, args, us⟩, ty, pos, aft, g⟩ V := by
  obtain ⟨f, first, cap, rfl, hc, hf⟩ := h
  refine run1_enter (f := f) (args := first.toList ++ vs ++ cap.toList) (w' := w) (by simp) ?_ hf hk
  have : args.map (ev ρ) = vs.toArray := by rw [← ha, ← Array.toList_map]
  simp [execOp, resolve, Deferred.ofValue, hx, invoke, hc, this]
theorem op_makeFunc' {f : Go.Fn} {a c : Array Operand} {a' c' : List Value} (ha : a.toList.map (ev ρ) = a') (hc : c.toList.map (ev ρ) = c') (h : V (.func f a'.toArray c'.toArray) w) : Run1 P r ρ w ⟨d, .makeFunc f a c, ty, pos, aft, g⟩ V := by
  refine op_makeFunc ?_
  have e1 : a.map (ev ρ) = a'.toArray := by rw [← ha, ← Array.toList_map]
  have e2 : c.map (ev ρ) = c'.toArray := by rw [← hc, ← Array.toList_map]
  rw [e1, e2]; exact h
/-- a function value computes what f says -/
def CallsTo1 {α β : Type} (P : Program) (w : World) (O : List Nat) (fv : Value) (A : Vr α) (R : Vr β) (f : α → Option β) : Prop :=
  ∀ w' O', Step O w O' w' → (∀ k ∈ O', k < w'.heap.size) → ∀ v x y, A.vd w' O' v x → f x = some y → FvTo P fv [v] w' fun u w'' => Ext w' w'' ∧ R.vd w'' O' u y
def CallsTo2 {α α' β : Type} (P : Program) (w : World) (O : List Nat) (fv : Value) (A : Vr α) (A' : Vr α') (R : Vr β) (f : α → α' → Option β) : Prop :=
  ∀ w' O', Step O w O' w' → (∀ k ∈ O', k < w'.heap.size) → ∀ v v' x x' y, A.vd w' O' v x → A'.vd w' O' v' x' → f x x' = some y → FvTo P fv [v, v'] w' fun u w'' => Ext w' w'' ∧ R.vd w'' O' u y
theorem CallsTo1.step {α β : Type} {w' : World} {O O' : List Nat} {fv : Value} {A : Vr α} {R : Vr β} {f : α → Option β} (h : CallsTo1 P w O fv A R f) (s : Step O w O' w') : CallsTo1 P w' O' fv A R f :=
  fun _ _ s' => h _ _ (s.trans s')
theorem CallsTo2.step {α α' β : Type} {w' : World} {O O' : List Nat} {fv : Value} {A : Vr α} {A' : Vr α'} {R : Vr β} {f : α → α' → Option β} (h : CallsTo2 P w O fv A A' R f) (s : Step O w O' w') : CallsTo2 P w' O' fv A A' R f :=
  fun _ _ s' => h _ _ (s.trans s')
theorem CallsTo1.call {α β : Type} {O : List Nat} {fv : Value} {A : Vr α} {R : Vr β} {f : α → Option β} (h : CallsTo1 P w O fv A R f) (hO : ∀ k ∈ O, k < w.heap.size) {v : Value} {x : α} {y : β} (hv : A.vd w O v x) (hy : f x = some y) :
    FvTo P fv [v] w fun u w'' => Ext w w'' ∧ R.vd w'' O u y := h _ _ (Step.refl _ _) hO _ _ _ hv hy
theorem CallsTo2.call {α α' β : Type} {O : List Nat} {fv : Value} {A : Vr α} {A' : Vr α'} {R : Vr β} {f : α → α' → Option β} (h : CallsTo2 P w O fv A A' R f) (hO : ∀ k ∈ O, k < w.heap.size) {v v' : Value} {x : α} {x' : α'} {y : β} (hv : A.vd w O v x) (hv' : A'.vd w O v' x') (hy : f x x' = some y) :
    FvTo P fv [v, v'] w fun u w'' => Ext w w'' ∧ R.vd w'' O u y := h _ _ (Step.refl _ _) hO _ _ _ _ _ hv hv' hy
theorem St.publishP {α : Type} {p : Rp α} (hs : St w0 O0 w bs) {i bl : Nat} {cs : List Value} {e : TypeId} {fz : Nat × Nat} {x : α} (hi : bs[i]? = some (some bl, .cells cs.toArray e fz)) (h : p.rd w (ks bs O0) cs x) :
    St w0 O0 w (bs.eraseIdx i) ∧ Step (ks bs O0) w (ks (bs.eraseIdx i) O0) w ∧ PtR p w (ks (bs.eraseIdx i) O0) ⟨bl, 0, none⟩ x := by
  have hst := Step.drop w O0 bs i
  refine ⟨hs.drop i, hst, rfl, ⟨hs.lt (List.mem_of_getElem? hi) rfl, not_ks_erase hs hi⟩, _, e, fz, hs.get hi, ?_, ?_⟩
  · have := p.len h; simp; omega
  · have h1 := p.len h
    simp only [List.drop_zero]
    rw [← h1, List.take_length]; exact p.step hst h

/-! a slice handed back as the caller's own -/
def OkG {α : Type} (P : Program) (f : FuncId) (args : List Value) (w : World) (O : List Nat) (p : Rp α) (e : TypeId) (x : List α) : Prop :=
  Fn P f args w fun v w' => Ext w w' ∧ ∃ a c kk o, v = .slice a x.length c ∧ (∀ b, kk = some b → w.heap.size ≤ b ∧ w'.heap[b]? = some o) ∧ Gs p e w' (kk.toList ++ O) a c x kk o
theorem ks_cons (kk : Option Nat) (o : Obj) : ks ((kk, o) :: bs) O0 = kk.toList ++ ks bs O0 := by cases kk <;> rfl
theorem St.callG {kk : Option Nat} {o : Obj} (hs : St w0 O0 w bs) (hx : Ext w w') (hk : ∀ b, kk = some b → w.heap.size ≤ b ∧ w'.heap[b]? = some o) :
    St w0 O0 w' ((kk, o) :: bs) ∧ Step (ks bs O0) w (ks ((kk, o) :: bs) O0) w' := by
  have h1 := hs.call hx
  cases kk with
  | none => exact ⟨h1.ghost o, Step.ext hx⟩
  | some b =>
    obtain ⟨hb, hg⟩ := hk b rfl
    refine ⟨⟨h1.below, fun q hq j hj => ?_, ?_, fun j hj => ⟨(h1.dj j hj).1, fun hm => ?_⟩, h1.dsn, h1.dfs⟩, hx.size, fun j hj hn => ⟨fun hm => ?_, (Step.ext (O := ks bs O0) hx).keep j hj hn |>.2⟩⟩
    · rcases List.mem_cons.1 hq with rfl | hq
      · cases hj; exact ⟨.inr (Nat.le_trans hs.below.size hb), hg⟩
      · exact h1.own q hq j hj
    · show (b :: bs.filterMap Prod.fst).Nodup
      rw [List.nodup_cons]
      refine ⟨fun hm => ?_, h1.nd⟩
      have := hs.ltw b (List.mem_append_left _ hm)
      omega
    · rcases List.mem_cons.1 (show j ∈ b :: bs.filterMap Prod.fst from hm) with e | hm
      · have := hs.lt0 j hj; omega
      · exact (hs.dj j hj).2 hm
    · rw [ks_cons] at hm
      rcases List.mem_append.1 hm with hm | hm
      · simp at hm; omega
      · exact hn hm
theorem OkG.ok {α : Type} {f : FuncId} {args : List Value} {O : List Nat} {p : Rp α} {e : TypeId} {xs : List α} (hO : ∀ k ∈ O, k < w.heap.size) (h : OkG P f args w O p e xs) : Ok P f args w O (vC (rSl p)) xs := by
  refine Fn.mono h fun v w' ⟨hx, a, c, kk, o, hv, hk, hG⟩ => ⟨hx, ?_⟩
  obtain ⟨h1, h2⟩ := (St.start hO).callG hx hk
  obtain ⟨_, _, h3⟩ := Gs.publish (i := 0) h1 rfl (by rw [ks_cons]; exact hG)
  rw [hv]
  exact mkC (mk_sl h3)
theorem OkG.mk {w0 : World} {α : Type} {O : List Nat} {p : Rp α} {e : TypeId} {xs ys : List α} {a : Option Addr} {c i : Nat} {kk : Option Nat} {o : Obj} (hs : St ⟨w0, [], []⟩ O w' bs) (hi : bs[i]? = some (kk, o)) (h : Gs p e w' (ks bs O) a c xs kk o) (he : xs = ys) :
    ∃ a' c' kk o, Value.slice a xs.length c = .slice a' ys.length c' ∧ (∀ b, kk = some b → w0.heap.size ≤ b ∧ w'.heap[b]? = some o) ∧ Gs p e w' (kk.toList ++ O) a' c' ys kk o := by
  subst he
  refine ⟨a, c, kk, o, rfl, fun b hb => ⟨((hs.own _ (List.mem_of_getElem? hi) b hb).1).resolve_left (by simp), (hs.own _ (List.mem_of_getElem? hi) b hb).2⟩, h.step ⟨Nat.le_refl _, fun j hj hn => ⟨fun hm => hn ?_, rfl⟩⟩⟩
  rcases List.mem_append.1 hm with hm | hm
  · refine List.mem_append_left _ (mem_keys.2 ⟨_, List.mem_of_getElem? hi, ?_⟩)
    simpa using hm
  · exact List.mem_append_right _ hm
theorem OkG.mkNil {w0 : World} {α : Type} {O : List Nat} {p : Rp α} {e : TypeId} {ys : List α} (he : ([] : List α) = ys) :
    ∃ a' c' kk o, Value.slice none 0 0 = .slice a' ys.length c' ∧ (∀ b, kk = some b → w0.heap.size ≤ b ∧ w'.heap[b]? = some o) ∧ Gs p e w' (kk.toList ++ O) a' c' ys kk o := by
  subst he
  exact ⟨none, 0, none, .cells #[] e, rfl, (fun _ h => by cases h), Gs.nil_⟩

theorem Els.drop {α : Type} {p : Rp α} {O : List Nat} : ∀ {cs : List Value} {xs : List α}, Els p w O cs xs → ∀ k, Els p w O (cs.drop (k * p.n)) (xs.drop k)
  | _, [], h, k => by rw [show _ = _ from h]; simp [Els]
  | _, _ :: _, h, 0 => by simpa using h
  | _, x :: xs, ⟨v1, v2, h1, h2, h3⟩, k + 1 => by
    have := Els.drop h3 k
    rw [h1, Nat.add_mul, Nat.one_mul, Nat.add_comm, ← p.len h2, List.drop_append, List.drop_of_length_le (by omega)]
    simp only [List.nil_append, List.drop_succ_cons, p.len h2, Nat.add_sub_cancel_left]; exact this
theorem op_copyG {α : Type} {p : Rp α} {xs ys : List α} {e : TypeId} {a a2 : Option Addr} {c c2 i bt : Nat} {tz : List Value} {ta : Bool} {kk : Option Nat} {o : Obj} (T : Ty P t (.slice e) 1 bt tz ta) (E : Ty P e td 1 b z ag) (hp : p.n = 1)
    (hs : St w0 O0 w bs) (hi : bs[i]? = some (kk, o)) (hx : ev ρ x = .slice a xs.length c) (hG : Gs p e w (ks bs O0) a c xs kk o) (hy : ev ρ y = .slice a2 ys.length c2) (h : SlR p w (ks bs O0) a2 c2 ys) (hpos : 0 < xs.length)
    (k : ∀ o' w', Step (ks bs O0) w (ks (bs.set i (kk, o')) O0) w' → St w0 O0 w' (bs.set i (kk, o')) → Gs p e w' (ks (bs.set i (kk, o')) O0) a c (ys.take xs.length ++ xs.drop ys.length) kk o' → V (.int .i64 ((min ys.length xs.length : Nat) : Int)) w') :
    Run1 P r ρ w ⟨d, .call ⟨.builtin .copy, #[x, y], #[t, t]⟩, ty, pos, aft, g⟩ V := by
  rcases hG with ⟨_, _, rfl, _⟩ | ⟨bl, cur, rfl, rfl, rfl, h4, h5, h6, h7⟩
  · simp at hpos
  · obtain ⟨news, hE, hS⟩ := h.src
    have hnl : news.length = ys.length := by rw [hE.len, hp, Nat.mul_one]
    rw [hp, Nat.mul_one] at h4 h7
    refine op_copy (cs := cur.toList) T E hs (by rw [hi]) hx hy hS hnl hE.one (by simp; omega) rfl rfl fun w' h8 h9 => k _ w' h8 h9 ?_
    have hlen : (news.take (min ys.length xs.length)).length = min ys.length xs.length := by simp; omega
    refine .inr ⟨bl, _, rfl, rfl, rfl, ?_, by simp; omega, h6, ?_⟩
    · rw [List.size_toArray, setL_length (by simp; omega)]; simpa [hp] using h4
    · have e1 : (ys.take xs.length ++ xs.drop ys.length).length = xs.length := by simp; omega
      rw [hp, Nat.mul_one, e1]
      have e2 : (setL cur.toList 0 (news.take (min ys.length xs.length))).take xs.length = news.take (min ys.length xs.length) ++ (cur.toList.take xs.length).drop (min ys.length xs.length) := by
        unfold setL
        simp only [List.take_zero, List.nil_append, Nat.zero_add, hlen]
        rw [List.take_append, hlen, List.take_of_length_le (by rw [hlen]; omega), List.drop_take]
      rw [show (setL cur.toList 0 (news.take (min ys.length xs.length))).toArray.toList = setL cur.toList 0 (news.take (min ys.length xs.length)) from rfl, e2]
      have e3 : ys.take xs.length = ys.take (min ys.length xs.length) := by rw [← List.take_take, List.take_of_length_le (l := ys.take xs.length) (by simp; omega)] <;> omega
      have e4 : xs.drop ys.length = xs.drop (min ys.length xs.length) := by
        rcases Nat.le_total ys.length xs.length with hl | hl
        · rw [Nat.min_eq_left hl]
        · rw [Nat.min_eq_right hl, List.drop_of_length_le hl, List.drop_of_length_le (Nat.le_refl _)]
      rw [e3, e4]
      have f1 := (hE.take (min ys.length xs.length)).step h8
      have f2 := (h7.drop (min ys.length xs.length)).step h8
      rw [hp, Nat.mul_one] at f1 f2
      exact f1.append f2

/-- a slice whose capacity is its length -/
def vCl {α : Type} (p : Rp α) : Vr (List α) := ⟨fun w O v x => ∃ a, v = .slice a x.length x.length ∧ SlR p w O a x.length x, fun s ⟨a, h1, h2⟩ => ⟨a, h1, h2.step s⟩⟩
theorem mkCl {α : Type} {p : Rp α} {O : List Nat} {a : Option Addr} {c : Nat} {xs : List α} (h : SlR p w O a c xs) (e : c = xs.length) : (vCl p).vd w O (.slice a xs.length c) xs := by
  subst e; exact ⟨a, rfl, h⟩

/-- copy into a window of a slice of one's own -/
theorem op_copyW {α : Type} {p : Rp α} {xs ys : List α} {news : List Value} {e : TypeId} {a2 : Option Addr} {c c2 i bt bl l h : Nat} {tz : List Value} {ta : Bool} {a : Option Addr} {o : Obj} (T : Ty P t (.slice e) 1 bt tz ta) (E : Ty P e td 1 b z ag) (hp : p.n = 1)
    (hs : St w0 O0 w bs) (hi : bs[i]? = some (some bl, o)) (hx : ev ρ x = .slice (some ⟨bl, if c = l then 0 else 0 + l * 1, none⟩) (h - l) (c - l)) (hG : Gs p e w (ks bs O0) a c xs (some bl) o) (hy : ev ρ y = .slice a2 ys.length c2) (hE : Els p w (ks bs O0) news ys) (hS : Src w a2 news)
    (hlh : l < h) (hh : h ≤ xs.length)
    (k : ∀ o' w', Step (ks bs O0) w (ks (bs.set i (some bl, o')) O0) w' → St w0 O0 w' (bs.set i (some bl, o')) →
      Gs p e w' (ks (bs.set i (some bl, o')) O0) a c (xs.take l ++ (ys.take (h - l) ++ (xs.drop l).drop (min ys.length (h - l)))) (some bl) o' → V (.int .i64 ((min ys.length (h - l) : Nat) : Int)) w') :
    Run1 P r ρ w ⟨d, .call ⟨.builtin .copy, #[x, y], #[t, t]⟩, ty, pos, aft, g⟩ V := by
  rcases hG with ⟨_, _, rfl, _⟩ | ⟨b2, cur, rfl, hb2, rfl, h4, h5, h6, h7⟩
  · simp at hh; omega
  · cases hb2
    have hnl : news.length = ys.length := by rw [hE.len, hp, Nat.mul_one]
    rw [hp, Nat.mul_one] at h4 h7
    have hcl : c ≠ l := by omega
    rw [if_neg hcl, Nat.zero_add, Nat.mul_one] at hx
    have hlen : (news.take (min ys.length (h - l))).length = min ys.length (h - l) := by simp; omega
    have hcs : cur.toList.length = c := by simpa using h4
    refine op_copy (cs := cur.toList) T E hs (by rw [hi]) hx hy hS hnl hE.one (by rw [hcs]; omega) rfl rfl fun w' h8 h9 => k _ w' h8 h9 ?_
    have hL : (xs.take l ++ (ys.take (h - l) ++ (xs.drop l).drop (min ys.length (h - l)))).length = xs.length := by simp; omega
    refine .inr ⟨bl, _, rfl, rfl, rfl, ?_, by rw [hL]; exact h5, h6, ?_⟩
    · rw [List.size_toArray, setL_length (by rw [hlen, hcs]; omega), hcs, hp, Nat.mul_one]
    · rw [hp, Nat.mul_one, hL]
      have e2 : (setL cur.toList l (news.take (min ys.length (h - l)))).take xs.length =
          (cur.toList.take xs.length).take l ++ (news.take (min ys.length (h - l)) ++ ((cur.toList.take xs.length).drop l).drop (min ys.length (h - l))) := by
        apply List.ext_getElem?
        intro j
        rw [List.getElem?_take, setL_getAll (by rw [hlen, hcs]; omega), hlen]
        simp only [List.getElem?_append, List.length_take, List.getElem?_take, List.getElem?_drop, hnl, hcs, List.length_drop]
        have e5 : min l (min xs.length c) = l := by omega
        rw [e5]
        by_cases c1 : j < l
        · simp [c1, show j < xs.length by omega, show ¬ l ≤ j by omega]
        · simp only [c1, if_false]
          by_cases c2 : j < l + min ys.length (h - l)
          · have c3 : j - l < min (min ys.length (h - l)) ys.length := by omega
            have c4 : j - l < min ys.length (h - l) := by omega
            simp only [show j < xs.length by omega, show l ≤ j by omega, c2, c3, c4, and_self, if_true]
          · have c3 : ¬ j - l < min (min ys.length (h - l)) ys.length := by omega
            simp only [c2, c3, and_false, if_false]
            have e6 : l + (min ys.length (h - l) + (j - l - min (min ys.length (h - l)) ys.length)) = j := by omega
            rw [e6]
      rw [show (setL cur.toList l (news.take (min ys.length (h - l)))).toArray.toList = setL cur.toList l (news.take (min ys.length (h - l))) from rfl, e2]
      have e3 : ys.take (h - l) = ys.take (min ys.length (h - l)) := by
        rcases Nat.le_total ys.length (h - l) with hl | hl
        · rw [Nat.min_eq_left hl, List.take_of_length_le hl, List.take_length]
        · rw [Nat.min_eq_right hl]
      rw [e3]
      have f0 := (h7.take l).step h8
      have f1 := (hE.take (min ys.length (h - l))).step h8
      have f2 := ((h7.drop l).drop (min ys.length (h - l))).step h8
      rw [hp, Nat.mul_one] at f0 f1 f2
      rw [Nat.mul_one] at f2
      exact f0.append (f1.append f2)

theorem Gs.win {α : Type} {p : Rp α} {xs : List α} {e : TypeId} {O : List Nat} {a : Option Addr} {c bl l h i : Nat} {o : Obj} (hp : p.n = 1) (hs : St w0 O0 w bs) (hi : bs[i]? = some (some bl, o)) (hG : Gs p e w O a c xs (some bl) o) (hlh : l < h) (hh : h ≤ xs.length) :
    ∃ news, Els p w O news ((xs.drop l).take (h - l)) ∧ Src w (some ⟨bl, if c = l then 0 else 0 + l * 1, none⟩) news := by
  rcases hG with ⟨_, _, rfl, _⟩ | ⟨b2, cur, rfl, hb2, rfl, h4, h5, h6, h7⟩
  · simp at hh; omega
  · cases hb2
    rw [hp, Nat.mul_one] at h4 h7
    have f := (h7.drop l).take (h - l)
    rw [hp, Nat.mul_one, Nat.mul_one] at f
    refine ⟨_, f, ?_⟩
    rw [if_neg (by omega), Nat.zero_add, Nat.mul_one]
    have e1 : ((cur.toList.take xs.length).drop l).take (h - l) = (cur.toList.drop l).take (h - l) := by
      rw [List.drop_take, List.take_take, Nat.min_eq_left (by omega)]
    rw [e1]
    exact Src.owned (cs := cur.toList) (e := e) (fz := (0, 0)) (hs.get (by rw [hi]))
/-! arrays in blocks of one's own -/
def vArr {α : Type} (p : Rp α) : Vr (List α) := ⟨fun w O v x => ∃ cs : List Value, v = .agg cs.toArray ∧ Els p w O cs x, fun s ⟨cs, h1, h2⟩ => ⟨cs, h1, h2.step s⟩⟩
theorem op_indexAddrAG {α : Type} {p : Rp α} {O : List Nat} {xs : List α} {e c bl tn : Nat} {dt : TypeDesc} {kd : IntKind} {bt : Nat} {tz : List Value} {ta : Bool} {a : Option Addr} {o : Obj} {e' : TypeId} (T : Ty P t (.array c e) tn bt tz ta) (E : Ty P e dt n b z ag)
    (hx : ev ρ x = .pointer (some ⟨bl, 0, none⟩)) (hy : ev ρ y = .int kd m) (h : Gs p e' w O a c xs (some bl) o) (h0 : 0 ≤ m ∧ m < xs.length)
    (k : V (.pointer (some ⟨bl, m.toNat * n, none⟩)) w) : Run1 P r ρ w ⟨d, .indexAddr t x y, ty, pos, aft, g⟩ V := by
  have hl := h.le.1
  refine op_indexAddrA T E hx hy h0.1 (by omega) ?_
  rw [Addr.add_lit, Nat.zero_add]; exact k
theorem op_loadArr {α : Type} {p : Rp α} {O : List Nat} {xs : List α} {e' : TypeId} {c bl i : Nat} {a : Option Addr} {o : Obj} (T : Ty P t td c b z true) (hp : p.n = 1) (hs : St w0 O0 w bs) (hi : bs[i]? = some (some bl, o))
    (hx : ev ρ x = .pointer (some ⟨bl, 0, none⟩)) (h : Gs p e' w O a c xs (some bl) o) (hl : xs.length = c)
    (k : ∀ cs, Els p w O cs xs → V (.agg cs.toArray) w) : Run1 P r ρ w ⟨d, .load t x, ty, pos, aft, g⟩ V := by
  rcases h with ⟨_, _, _, h⟩ | ⟨b2, cur, h1, h2, rfl, h4, h5, h6, h7⟩
  · cases h
  · cases h2
    rw [hp, Nat.mul_one] at h4 h7
    refine op_loadA (cs := cur.toList) (vs := cur.toList.take c) T hs hx (by rw [hi]) (by simp) (by simp [h4]) (k _ ?_)
    rw [← hl]; exact h7

theorem mk_slL {α : Type} {p : Rp α} {O : List Nat} {xs : List α} {a : Option Addr} {c l : Nat} (e : l = xs.length) (h : SlR p w O a c xs) : (rSl p).rd w O [.slice a l c] xs := by subst e; exact mk_sl h
end
end Go.Fx


/- Ranges over functions: iterators as lists of what they hand out; the loop over one. No program in sight. -/
set_option linter.unusedSimpArgs false
set_option linter.unusedVariables false
namespace Go.Fx
open Go Go.RowKit

/-- blocks of one's own from one world to the next: those of old, and new ones -/
structure Grow (O O' : List Nat) (w w' : World) : Prop where
  new : ∀ k ∈ O', k ∈ O ∨ w.heap.size ≤ k
  lt : ∀ k ∈ O', k < w'.heap.size
theorem Grow.refl {O : List Nat} {w w' : World} (h : ∀ k ∈ O, k < w'.heap.size) : Grow O O w w' := ⟨fun _ h => .inl h, h⟩

/-- what has come, the world, what the loop owns, what the iterator owns -/
abbrev JP (α : Type) := List α → World → List Nat → List Nat → Prop
structure Abides {α : Type} (J : JP α) : Prop where
  loc : ∀ {pre : List α} {w w' : World} {O K K' : List Nat}, J pre w O K → (∀ k ∈ K, k ∉ O) → Loc K w w' → Grow K K' w w' → J pre w' O K'
/-- how the loop's body takes what it is handed -/
def YieldsTo {α : Type} (P : Program) (enc : α → World → List Nat → List Value → Prop) (L : List α) (l : Nat) (J Jx : JP α) : Prop :=
  ∀ (pre : List α) (x : α) (w : World) (O K : List Nat) (vs : List Value), pre ++ [x] <+: L → J pre w O K → (∀ k ∈ K, k < w.heap.size ∧ k ∉ O) → (∀ k ∈ O, k < w.heap.size) → enc x w (K ++ O) vs →
    YieldAt (FW none) 0 P l vs.toArray w fun e w' => ∃ O', Loc O w w' ∧ Grow O O' w w' ∧ ((e = .returned (.bool true) ∧ J (pre ++ [x]) w' O' K) ∨ (e = .returned (.bool false) ∧ Jx (pre ++ [x]) w' O' K))
/-- function f, over what it has captured, hands out the list L -/
def IterF {α : Type} (P : Program) (w : World) (O : List Nat) (f : FuncId) (caps : List Value) (enc : α → World → List Nat → List Value → Prop) (L : List α) : Prop :=
  ∀ (w1 : World) (O1 : List Nat), Step O w O1 w1 → (∀ k ∈ O1, k < w1.heap.size) → ∀ (l : Nat) (J Jx : JP α), Abides J → Abides Jx → YieldsTo P enc L l J Jx → J [] w1 O1 [] →
    Fn P f (.func (.yield l) #[] #[] :: caps) w1 fun _ w2 => ∃ O2, J L w2 O2 [] ∨ ∃ pre, Jx pre w2 O2 []
theorem IterF.step {α : Type} {P : Program} {w w' : World} {O O' : List Nat} {f : FuncId} {caps : List Value} {enc : α → World → List Nat → List Value → Prop} {L : List α} (h : IterF P w O f caps enc L) (s : Step O w O' w') : IterF P w' O' f caps enc L :=
  fun w1 O1 s1 => h w1 O1 (s.trans s1)
def enc1 {α : Type} (a : Vr α) : α → World → List Nat → List Value → Prop := fun x w O vs => ∃ v, vs = [v] ∧ a.vd w O v x
def enc2 {α β : Type} (a : Vr α) (b : Vr β) : α × β → World → List Nat → List Value → Prop := fun x w O vs => ∃ v1 v2, vs = [v1, v2] ∧ a.vd w O v1 x.1 ∧ b.vd w O v2 x.2
theorem enc1_len {α : Type} {a : Vr α} {x : α} {w : World} {O : List Nat} {vs : List Value} (h : enc1 a x w O vs) : vs.length = 1 := by obtain ⟨v, rfl, _⟩ := h; rfl
theorem enc2_len {α β : Type} {a : Vr α} {b : Vr β} {x : α × β} {w : World} {O : List Nat} {vs : List Value} (h : enc2 a b x w O vs) : vs.length = 2 := by obtain ⟨v1, v2, rfl, _⟩ := h; rfl
theorem enc1_step {α : Type} {a : Vr α} {x : α} {w w' : World} {O O' : List Nat} {vs : List Value} (s : Step O w O' w') (h : enc1 a x w O vs) : enc1 a x w' O' vs := by obtain ⟨v, e, h⟩ := h; exact ⟨v, e, a.step s h⟩
theorem enc2_step {α β : Type} {a : Vr α} {b : Vr β} {x : α × β} {w w' : World} {O O' : List Nat} {vs : List Value} (s : Step O w O' w') (h : enc2 a b x w O vs) : enc2 a b x w' O' vs := by
  obtain ⟨v1, v2, e, h1, h2⟩ := h; exact ⟨v1, v2, e, a.step s h1, b.step s h2⟩

/-! ### what is owned, said anew -/
theorem Step.sub {O O' : List Nat} {w : World} (h : ∀ k ∈ O', k ∈ O) : Step O w O' w := ⟨Nat.le_refl _, fun k _ hn => ⟨fun hm => hn (h k hm), rfl⟩⟩
theorem Step.of_loc {O O' K : List Nat} {w w' : World} (h : Loc K w w') (hK : ∀ k ∈ K, k ∈ O) (hO : ∀ k ∈ O', k ∈ O ∨ w.heap.size ≤ k) : Step O w O' w' :=
  ⟨h.size, fun k hk hn => ⟨fun hm => (hO k hm).elim hn (fun h => by omega), h.block k hk fun hm => hn (hK k hm)⟩⟩
section
variable {z : Zx} {O0 O1 : List Nat} {w w' : World} {bs : Ents}
theorem mem_ks {k : Nat} : k ∈ ks bs O0 ↔ k ∈ bs.filterMap Prod.fst ∨ k ∈ O0 := List.mem_append
/-- what others own has turned -/
theorem St.loc (h : St z O0 w bs) {K : List Nat} (hl : Loc K w w') (hK : ∀ k ∈ K, k ∉ bs.filterMap Prod.fst ∧ (k ∈ z.K ∨ z.w.heap.size ≤ k) ∧ k ∉ z.ds) : St z O0 w' bs :=
  ⟨h.below.trans' hl fun k hk => (hK k hk).2.1, fun p hp b hb => ⟨(h.own p hp b hb).1, by rw [hl.block b (h.lt hp hb) fun hm => (hK b hm).1 (mem_keys.2 ⟨p, hp, hb⟩)]; exact (h.own p hp b hb).2⟩, h.nd,
   fun k hk => ⟨Nat.lt_of_lt_of_le (h.dj k hk).1 hl.size, (h.dj k hk).2⟩, h.dsn,
   fun D hD => ⟨(h.dfs D hD).1, (h.dfs D hD).2.1, by rw [hl.block D (h.lt0 D (h.dfs D hD).1) fun hm => (hK D hm).2.2 hD]; exact (h.dfs D hD).2.2⟩⟩
/-- others own other blocks -/
theorem St.others (h : St z O0 w bs) (hO : ∀ k ∈ O1, k < w.heap.size ∧ k ∉ bs.filterMap Prod.fst) (hd : ∀ D ∈ z.ds, D ∈ O1) : St z O1 w bs :=
  ⟨h.below, h.own, h.nd, hO, h.dsn, fun D hD => ⟨hd D hD, (h.dfs D hD).2⟩⟩
/-- said from here on -/
theorem St.re (h : St z O0 w bs) : St ⟨w, bs.filterMap Prod.fst, []⟩ O0 w bs :=
  ⟨Loc.refl _ _, fun p hp b hb => ⟨.inl (mem_keys.2 ⟨p, hp, hb⟩), (h.own p hp b hb).2⟩, h.nd, h.dj, List.nodup_nil, fun _ h => by cases h⟩
/-- and from the old beginning again -/
theorem St.back {w1 : World} {K1 : List Nat} (h : St ⟨w1, K1, []⟩ O0 w bs) (hl : Loc z.K z.w w1) (hK : ∀ k ∈ K1, k ∈ z.K ∨ z.w.heap.size ≤ k) (hdn : z.ds.Nodup)
    (hd : ∀ D ∈ z.ds, D ∈ O0 ∧ (D ∈ z.K ∨ z.w.heap.size ≤ D) ∧ w.heap[D]? = some (.deferred (some []))) : St z O0 w bs :=
  ⟨hl.trans' h.below hK, fun p hp b hb => ⟨(h.own p hp b hb).1.elim (hK b) fun h1 => .inr (Nat.le_trans hl.size h1), (h.own p hp b hb).2⟩, h.nd, h.dj, hdn, hd⟩
/-- what is no longer spoken of is let go -/
theorem St.sub {bs' : Ents} (h : St z O0 w bs) (hb : bs'.Sublist bs) : St z O0 w bs' ∧ Step (ks bs O0) w (ks bs' O0) w :=
  ⟨⟨h.below, fun p hp => h.own p (hb.subset hp), (hb.filterMap _).nodup h.nd, fun k hk => ⟨(h.dj k hk).1, fun hm => (h.dj k hk).2 ((hb.filterMap _).subset hm)⟩, h.dsn, h.dfs⟩,
   Step.sub fun k hk => (mem_ks.1 hk).elim (fun hm => mem_ks.2 (.inl ((hb.filterMap _).subset hm))) fun hm => mem_ks.2 (.inr hm)⟩
/-- the marks are taken up -/
theorem St.close {w0 : World} {K0 : List Nat} : ∀ {ds : List Nat} {w : World}, St ⟨w0, K0, ds⟩ O0 w bs → ∃ w', Closes ds w w' ∧ St ⟨w0, K0, []⟩ O0 w' bs ∧ Step (ks bs O0) w (ks bs O0) w'
  | [], w, h => ⟨w, rfl, h, Step.refl _ _⟩
  | D :: ds, w, h => by
    obtain ⟨h1, h2, h3⟩ := h.dfs D (by simp)
    have hlt := h.lt0 D h1
    have hn := List.nodup_cons.1 h.dsn
    have hl : Loc [D] w (w.putObj D (.deferred none)) := ⟨rfl, rfl, rfl, by simp, fun k hk hn => World.putObj_heap_other (by simpa using hn), Nat.le_refl _⟩
    have h4 : St ⟨w0, K0, ds⟩ O0 w bs := ⟨h.below, h.own, h.nd, h.dj, hn.2, fun E hE => h.dfs E (List.mem_cons_of_mem _ hE)⟩
    have h5 : St ⟨w0, K0, ds⟩ O0 (w.putObj D (.deferred none)) bs := h4.loc hl (by rintro k hk; simp at hk; subst hk; exact ⟨(h.dj _ h1).2, h2, hn.1⟩)
    obtain ⟨w', hc, hs, hp⟩ := h5.close
    exact ⟨w', ⟨h3, hc⟩, hs, (Step.of_loc hl (by rintro k hk; simp at hk; subst hk; exact mem_ks.2 (.inr h1)) (fun k hk => .inl hk)).trans hp⟩
end

def updP (ρ : Env) : List Nat → List Value → Env
  | p :: ps, v :: vs => updP (upd ρ p v) ps vs
  | _, _ => ρ
theorem isAct_round {n : Nat} : ∀ (ps : List Nat) (vs : List Value) {ρ : Env} {t : Array Value}, IsAct n ρ { tmps := t, defers := [] } → ps.all (· < n) = true →
    IsAct n (updP ρ ps vs) { tmps := (ps.zip vs).foldl (fun t (p, v) => t.setIfInBounds p v) t, defers := [] }
  | [], vs, ρ, t, h, _ => by cases vs <;> exact h
  | p :: ps, [], ρ, t, h, _ => h
  | p :: ps, v :: vs, ρ, t, h, hp => by
    simp only [List.all_cons, Bool.and_eq_true, decide_eq_true_eq] at hp
    have := h.put (d := some p) (by simpa using hp.1) v
    exact isAct_round ps vs (ρ := upd ρ p v) (t := t.setIfInBounds p v) (by simpa [Act.put, updO] using this) hp.2

theorem isAct_f {n : Nat} {ρ : Env} {a : Act} (h : IsAct n ρ a) : IsAct n ⟨ρ.f, []⟩ { tmps := a.tmps, defers := [] } := ⟨h.size, rfl, h.get⟩

/-- how a round is left for good: by a return (none), or out of a block -/
def exitOf : Option Nat → Exit
  | none => .ret
  | some id => .exit id
def codeOf : Option Nat → Code
  | none => .ret
  | some id => .exit id

section rule
variable {P : Program} {n : Nat} {Q : Post} {ρ : Env} {w : World} {z : Zx} {O0 : List Nat} {bs : Ents}
variable {α σ : Type} {g : Operand} {ps : List Nat} {assign body : Code} {f : FuncId} {caps : List Value} {enc : α → World → List Nat → List Value → Prop} {L : List α}
/-- what is known of the loop's own between two rounds; E: what the iterator and the loop's machinery own -/
structure Core (bs : Ents) (O0 : List Nat) (w : World) (z : Zx) (bsF : σ → Ents) (fct : σ → World → List Nat → Prop) (E : List Nat) (s : σ) (w' : World) : Prop where
  st : St z (E ++ O0) w' (bsF s)
  ch : Step (ks bs O0) w (ks (bsF s) (E ++ O0)) w'
  fc : fct s w' (ks (bsF s) (E ++ O0))

theorem Core.loc {bsF : σ → Ents} {fct : σ → World → List Nat → Prop} (hfs : ∀ s w O w' O', Step O w O' w' → fct s w O → fct s w' O') {K K' F : List Nat} {s : σ} {w' w'' : World} (h : Core bs O0 w z bsF fct (K ++ F) s w')
    (hK : ∀ k ∈ K, k ∉ ks (bsF s) (F ++ O0)) (hz : ∀ k ∈ K, k ∈ z.K ∨ z.w.heap.size ≤ k) (hds : ∀ D ∈ z.ds, D ∈ F ++ O0) (hl : Loc K w' w'') (hg : Grow K K' w' w'') : Core bs O0 w z bsF fct (K' ++ F) s w'' := by
  have h1 : St z (K ++ F ++ O0) w'' (bsF s) := h.st.loc hl fun k hk => ⟨fun hm => hK k hk (mem_ks.2 (.inl hm)), hz k hk, fun hm => hK k hk (mem_ks.2 (.inr (hds k hm)))⟩
  have h2 : St z (K' ++ F ++ O0) w'' (bsF s) := by
    refine h1.others (fun k hk => ?_) (fun D hD => ?_)
    · rw [List.append_assoc] at hk
      rcases List.mem_append.1 hk with hk | hk
      · refine ⟨hg.lt k hk, fun hm => ?_⟩
        rcases hg.new k hk with h5 | h5
        · exact hK k h5 (mem_ks.2 (.inl hm))
        · obtain ⟨p, hp, e⟩ := mem_keys.1 hm
          have := h.st.lt hp e
          omega
      · exact h1.dj k (by rw [List.append_assoc]; exact List.mem_append_right _ hk)
    · rw [List.append_assoc]; exact List.mem_append_right _ (hds D hD)
  have hst : Step (ks (bsF s) (K ++ F ++ O0)) w' (ks (bsF s) (K' ++ F ++ O0)) w'' := Step.of_loc hl (fun k hk => mem_ks.2 (.inr (by simp [hk]))) fun k hk => by
    rcases mem_ks.1 hk with hk | hk
    · exact .inl (mem_ks.2 (.inl hk))
    · rw [List.append_assoc] at hk
      rcases List.mem_append.1 hk with hk | hk
      · rcases hg.new k hk with h | h
        · exact .inl (mem_ks.2 (.inr (by simp [h])))
        · exact .inr h
      · exact .inl (mem_ks.2 (.inr (by rw [List.append_assoc]; exact List.mem_append_right _ hk)))
  exact ⟨h2, h.ch.trans hst, hfs _ _ _ _ _ hst h.fc⟩

/-- the loop over an iterator: s tells what the loop's own holds; tl: what is still to come; tx: how it is left -/
theorem Wp_rangeFunc (hs : St z O0 w bs) (hv : ev ρ g = .func (.func f) #[] caps.toArray) (hcall : ∀ (args : Array Value) (w : World), (callFunc f args).run P w = .ok (.enter f args) w) (it : IterF P w (ks bs O0) f caps enc L)
    (hps : ps.all (· < n) = true) (hlen : ∀ {x w O vs}, enc x w O vs → vs.length = ps.length) (henc : ∀ {x w O w' O' vs}, Step O w O' w' → enc x w O vs → enc x w' O' vs)
    (bsF : σ → Ents) (fct : σ → World → List Nat → Prop) (hfs : ∀ s w O w' O', Step O w O' w' → fct s w O → fct s w' O') (tl : σ → List α → Prop) (xs : List (Option Nat)) (tx : Option Nat → σ → Prop)
    (s0 : σ) (hb0 : bsF s0 = bs) (hf0 : fct s0 w (ks bs O0)) (ht0 : tl s0 L)
    (round : ∀ l E s x rest w' vs za, za.ds = [] → St za (E ++ O0) w' (bsF s) → Step (ks bs O0) w (ks (bsF s) (E ++ O0)) w' → fct s w' (ks (bsF s) (E ++ O0)) → tl s (x :: rest) → enc x w' (ks (bsF s) (E ++ O0)) vs →
      Wp P (some l) n assign (thenE (fun ρ' w2 => ∃ bs2, St za (E ++ O0) w2 bs2 ∧ ∀ w3 zb (RQ : Post), zb.ds = [] → St zb (E ++ O0) w3 bs2 → Step (ks bs2 (E ++ O0)) w2 (ks bs2 (E ++ O0)) w3 →
          (∀ s' ρ' w4, St zb (E ++ O0) w4 (bsF s') → Step (ks bs O0) w (ks (bsF s') (E ++ O0)) w4 → fct s' w4 (ks (bsF s') (E ++ O0)) → tl s' rest → RQ .normal ρ' w4) →
          (∀ e s' ρ' w4, e ∈ xs → St zb (E ++ O0) w4 (bsF s') → Step (ks bs O0) w (ks (bsF s') (E ++ O0)) w4 → fct s' w4 (ks (bsF s') (E ++ O0)) → tx e s' → RQ (exitOf e) ρ' w4) →
          Wp P (some l) n body RQ ρ' w3) (fun _ _ _ => False)) (updP ⟨ρ.f, []⟩ ps vs) w')
    (done : ∀ D s w', St ⟨z.w, z.K, D :: z.ds⟩ (D :: O0) w' (bsF s) → Step (ks bs O0) w (ks (bsF s) (D :: O0)) w' → fct s w' (ks (bsF s) (D :: O0)) → tl s [] → Q .normal ⟨ρ.f, D :: ρ.ds⟩ w')
    (stop : ∀ e D s w', e ∈ xs → St ⟨z.w, z.K, D :: z.ds⟩ (D :: O0) w' (bsF s) → Step (ks bs O0) w (ks (bsF s) (D :: O0)) w' → fct s w' (ks (bsF s) (D :: O0)) → tx e s → Q (exitOf e) ⟨ρ.f, D :: ρ.ds⟩ w') :
    Wp P none n (.rangeFunc g ps.toArray assign body) Q ρ w := by
  subst hb0
  unfold Wp
  intro a ha
  refine wpIn_rangeFunc ?_
  intro fn hfn
  obtain ⟨rec, hrec⟩ : ∃ rec : LoopState → Option Code → Loop, rec = fun st pe => { state := st, pending := pe, fn, tmps := a.tmps, params := ps.toArray, assign, body, defers := w.heap.size } := ⟨_, rfl⟩
  obtain ⟨w1, hw1⟩ : ∃ w1, (w.alloc (.deferred (some []))).alloc (.loop (rec .ready none)) = w1 := ⟨_, rfl⟩
  have hx1 : Ext w w1 := by rw [← hw1]; exact (Ext.alloc w _).trans (Ext.alloc _ _)
  have hsz : w1.heap.size = w.heap.size + 2 := by rw [← hw1]; simp
  have hl1 : w1.heap[w.heap.size + 1]? = some (.loop (rec .ready none)) := by
    rw [← hw1]; have := heap_alloc_new (w.alloc (.deferred (some []))) (.loop (rec .ready none)); simpa using this
  have hd1 : w1.heap[w.heap.size]? = some (.deferred (some [])) := by
    rw [← hw1, heap_alloc_old _ _ _ (by simp)]; exact heap_alloc_new w _
  obtain ⟨zD, hzD⟩ : ∃ zD : Zx, zD = ⟨z.w, z.K, w.heap.size :: z.ds⟩ := ⟨_, rfl⟩
  obtain ⟨F, hF⟩ : ∃ F : List Nat, F = [w.heap.size + 1, w.heap.size] := ⟨_, rfl⟩
  have hmF : ∀ k, k ∈ F ↔ k = w.heap.size + 1 ∨ k = w.heap.size := fun k => by rw [hF]; simp
  have hzds : ∀ D ∈ zD.ds, D ∈ F ++ O0 := fun D hD => by
    rw [hzD] at hD
    rcases List.mem_cons.1 hD with e | hD
    · exact List.mem_append_left _ ((hmF D).2 (.inr e))
    · exact List.mem_append_right _ (hs.dfs D hD).1
  have hzw : z.w.heap.size ≤ w.heap.size := hs.below.size
  -- the loop's invariant
  obtain ⟨J0, hJ0⟩ : ∃ J0 : (LoopState × Option Code) → List Nat → List Nat → World → σ → Prop, J0 = fun st O K w' s => O = ks (bsF s) (F ++ O0) ∧ (∀ k ∈ K, w.heap.size + 2 ≤ k) ∧ Core (bsF s0) O0 w zD bsF fct (K ++ F) s w' ∧
      w'.heap[w.heap.size + 1]? = some (.loop (rec st.1 st.2)) := ⟨_, rfl⟩
  have hJ0ab : ∀ {st : LoopState × Option Code} {O K K' : List Nat} {w' w'' : World} {s : σ}, J0 st O K w' s → (∀ k ∈ K, k ∉ O) → Loc K w' w'' → Grow K K' w' w'' → J0 st O K' w'' s := by
    intro st O K K' w' w'' s h hKO hl hg
    rw [hJ0] at h ⊢
    obtain ⟨h1, h2, h3, h4⟩ := h
    have hsz' : w.heap.size + 2 ≤ w'.heap.size := by
      have := h3.st.lt0 (w.heap.size + 1) (by simp [hF]); omega
    refine ⟨h1, fun k hk => (hg.new k hk).elim (h2 k) fun h => by omega, h3.loc hfs (fun k hk => h1 ▸ hKO k hk) (fun k hk => .inr ?_) hzds hl hg, ?_⟩
    · have := h2 k hk; rw [hzD]; simp only; omega
    · rw [hl.block _ (h3.st.lt0 _ (by simp [hF])) fun hm => by have := h2 _ hm; omega]; exact h4
  have hst0 : St z O0 w1 (bsF s0) := hs.call hx1
  have hcore1 : Core (bsF s0) O0 w zD bsF fct ([] ++ F) s0 w1 := by
    have h1 : St zD ([] ++ F ++ O0) w1 (bsF s0) := by
      refine ⟨by rw [hzD]; exact hst0.below, by rw [hzD]; exact hst0.own, hst0.nd, fun k hk => ?_, ?_, fun D hD => ?_⟩
      · rw [List.nil_append] at hk
        rcases List.mem_append.1 hk with hk | hk
        · have hk' := (hmF k).1 hk
          refine ⟨by omega, fun hm => ?_⟩
          obtain ⟨p, hp, e⟩ := mem_keys.1 hm
          have := hs.lt hp e; omega
        · exact hst0.dj k hk
      · rw [hzD]
        exact List.nodup_cons.2 ⟨fun hm => by have := hs.lt0 _ (hs.dfs _ hm).1; omega, hs.dsn⟩
      · refine ⟨by rw [List.nil_append]; exact hzds D hD, ?_⟩
        rw [hzD] at hD ⊢
        rcases List.mem_cons.1 hD with e | hD
        · subst e; exact ⟨.inr hzw, hd1⟩
        · exact (hst0.dfs D hD).2
    have h2 : Step (ks (bsF s0) O0) w (ks (bsF s0) ([] ++ F ++ O0)) w1 := Step.of_loc (K := []) (.of_ext hx1) (by simp) fun k hk => by
      rw [List.nil_append] at hk
      rcases mem_ks.1 hk with hk | hk
      · exact .inl (mem_ks.2 (.inl hk))
      · rcases List.mem_append.1 hk with hk | hk
        · have := (hmF k).1 hk; exact .inr (by omega)
        · exact .inl (mem_ks.2 (.inr hk))
    exact ⟨h1, h2, hfs _ _ _ _ _ h2 hf0⟩
  refine ⟨w.heap.size + 1, [dcol w.heap.size], w1, { target := .fn (.func f) caps.toArray, args := #[.func (.yield (w.heap.size + 1)) #[] #[]] }, w1, f,
    #[.func (.yield (w.heap.size + 1)) #[] #[]] ++ caps.toArray, w1, ?_, ?_, fun _ _ => trivial, ?_, fun h => by simp [FW] at h, ?_⟩
  · rw [← hw1, hrec]; exact run_enterLoop_outer _ _ _ _ _
  · simp only [resolve, ha.eval, hv]
    simp [go_sem, ev]
  · simp [invoke, go_sem, hcall]
  · have hfn' := it w1 (ks (bsF s0) (F ++ O0)) (by have := hcore1.ch; simpa using this) (fun k hk => by have := hcore1.st.ltw k (by simpa using hk); exact this) (w.heap.size + 1)
      (fun pre w' O K => ∃ s rest, L = pre ++ rest ∧ J0 (.ready, none) O K w' s ∧ tl s rest)
      (fun _ w' O K => ∃ s e, e ∈ xs ∧ J0 (.done, some (codeOf e)) O K w' s ∧ tx e s)
      ⟨fun ⟨s, rest, h1, h2, h3⟩ hk hl hg => ⟨s, rest, h1, hJ0ab h2 hk hl hg, h3⟩⟩ ⟨fun ⟨s, e, h1, h2, h3⟩ hk hl hg => ⟨s, e, h1, hJ0ab h2 hk hl hg, h3⟩⟩
      ?_ ⟨s0, L, rfl, by rw [hJ0]; exact ⟨rfl, by simp, hcore1, hl1⟩, ht0⟩
    · -- behind the iterator
      unfold Fn at hfn'
      have hcl : (#[Value.func (.yield (w.heap.size + 1)) #[] #[]] ++ caps.toArray) = (Value.func (.yield (w.heap.size + 1)) #[] #[] :: caps).toArray := by simp
      rw [hcl]
      refine CallsIn.mono hfn' ?_
      rintro e w2 ⟨v, rfl, O2, h⟩
      have fin : ∀ {st : LoopState × Option Code} {s : σ}, st.1 ≠ .busy → J0 st O2 [] w2 s → ∃ w3, (Instr.endLoop (w.heap.size + 1)).run P w2 = .ok st.2 w3 ∧
          St ⟨z.w, z.K, w.heap.size :: z.ds⟩ (w.heap.size :: O0) w3 (bsF s) ∧ Step (ks (bsF s0) O0) w (ks (bsF s) (w.heap.size :: O0)) w3 ∧ fct s w3 (ks (bsF s) (w.heap.size :: O0)) := by
        intro st s hb h
        rw [hJ0] at h
        obtain ⟨h1, h2, h3, h4⟩ := h
        have hrun := run_endLoop (P := P) h4 (by rw [hrec]; exact hb)
        have hlo : Loc [w.heap.size + 1] w2 (w2.putObj (w.heap.size + 1) (.loop { rec st.1 st.2 with state := .exhausted })) := ⟨rfl, rfl, rfl, by simp, fun k hk hn => World.putObj_heap_other (by simpa using hn), Nat.le_refl _⟩
        have h5 := h3.st.loc hlo (by
          rintro k hk
          simp at hk; subst hk
          exact ⟨(h3.st.dj _ (by simp [hF])).2, .inr (by rw [hzD]; simp only; omega), fun hm => by
            rw [hzD] at hm
            rcases List.mem_cons.1 hm with e | hm
            · omega
            · have := hs.lt0 _ (hs.dfs _ hm).1; omega⟩)
        have h6 : St ⟨z.w, z.K, w.heap.size :: z.ds⟩ (w.heap.size :: O0) (w2.putObj (w.heap.size + 1) (.loop { rec st.1 st.2 with state := .exhausted })) (bsF s) := by
          rw [← hzD]
          refine h5.others (fun k hk => h5.dj k ?_) fun D hD => ?_
          · rcases List.mem_cons.1 hk with e | hk
            · subst e; simp [hF]
            · simp [hk]
          · have := hzds D hD
            rw [hF] at this
            simp only [List.cons_append, List.nil_append, List.mem_cons] at this
            rcases this with e | e | e
            · exfalso
              rw [hzD] at hD
              rcases List.mem_cons.1 hD with e' | hD
              · omega
              · have := hs.lt0 _ (hs.dfs _ hD).1; omega
            · subst e; simp
            · simp [e]
        have h7 : Step (ks (bsF s) ([] ++ F ++ O0)) w2 (ks (bsF s) (w.heap.size :: O0)) (w2.putObj (w.heap.size + 1) (.loop { rec st.1 st.2 with state := .exhausted })) := Step.of_loc hlo (by
          rintro k hk
          simp at hk; subst hk
          exact mem_ks.2 (.inr (by simp [hF]))) fun k hk => .inl (by
          rcases mem_ks.1 hk with hk | hk
          · exact mem_ks.2 (.inl hk)
          · refine mem_ks.2 (.inr ?_)
            rcases List.mem_cons.1 hk with e | hk
            · subst e; simp [hF]
            · simp [hk])
        refine ⟨_, ?_, h6, h3.ch.trans h7, hfs _ _ _ _ _ h7 h3.fc⟩
        rw [hrun, hrec]
      have hav : ∀ D, IsAct n (⟨ρ.f, D :: ρ.ds⟩ : Env) { a with defers := [dcol D] ++ a.defers } := fun D => ⟨ha.size, by simp [ha.defers], ha.get⟩
      rcases h with ⟨s, rest, h1, h2, h3⟩ | ⟨pre, s, e, h1, h2, h3⟩
      · have hr : rest = [] := by simpa using h1
        subst hr
        obtain ⟨w3, h4, h5, h6, h7⟩ := fin (by simp) h2
        exact ⟨none, w3, h4, (fun _ h => by cases h), _, hav _, done _ s w3 h5 h6 h7 h3⟩
      · obtain ⟨w3, h4, h5, h6, h7⟩ := fin (by simp) h2
        refine ⟨some (codeOf e), w3, h4, ?_⟩
        have h8 := stop e _ s w3 h1 h5 h6 h7 h3
        cases e with
        | none => exact wpIn_ret ⟨(fun _ h => by cases h), _, hav _, h8⟩
        | some id => exact wpIn_exit ⟨(fun _ h => by cases h), _, hav _, h8⟩
    · -- one round
      rintro pre x w' O K vs ⟨tail, hpre⟩ ⟨s, rest, h1, h2, h3⟩ hK hO hen
      rw [hJ0] at h2
      obtain ⟨g1, g2, g3, g4⟩ := h2
      have hrest : rest = x :: tail := by
        rw [← hpre] at h1
        simpa using h1.symm
      subst hrest
      subst g1
      have hy := run_yield (P := P) (args := vs.toArray) g4 (by rw [hrec]; simpa using hlen hen)
      rw [hrec] at hy
      refine ⟨fn, _, assign, body, hy, roundIn_of_wpIn hfn ?_⟩
      have hen' : enc x w' (ks (bsF s) (K ++ F ++ O0)) vs := henc (Step.sub fun k hk => by
        rcases mem_ks.1 hk with hk | hk
        · exact List.mem_append_right _ (mem_ks.2 (.inl hk))
        · rw [List.append_assoc] at hk
          rcases List.mem_append.1 hk with hk | hk
          · exact List.mem_append_left _ hk
          · exact List.mem_append_right _ (mem_ks.2 (.inr hk))) hen
      have hza := g3.st.re
      have hrd := round (w.heap.size + 1) (K ++ F) s x tail w' vs _ rfl hza g3.ch g3.fc h3 hen'
      have hact := isAct_round ps vs (isAct_f ha) hps
      unfold Wp at hrd
      have hzip : (ps.toArray.zip vs.toArray).foldl (fun t (p : Nat × Value) => t.setIfInBounds p.1 p.2) a.tmps = (ps.zip vs).foldl (fun t (p, v) => t.setIfInBounds p v) a.tmps := by
        rw [← Array.foldl_toList, Array.toList_zip]
      rw [hzip]
      have hlF : w.heap.size + 1 ∈ K ++ F ++ O0 := by simp [hF]
      refine wpIn_mono (hrd _ hact) ?_
      rintro e a2 w2 ⟨hp, ρ2, ha2, hq⟩
      cases e <;> try exact hq.elim
      obtain ⟨bs2, hs2, hq⟩ := hq
      -- the record is as it was
      have hl2 : w2.heap[w.heap.size + 1]? = some (.loop (rec .ready none)) := by
        rw [hs2.below.block _ (by have := g3.st.lt0 _ hlF; exact this) (g3.st.dj _ hlF).2]; exact g4
      have hbr := run_beginRound (P := P) hl2 (by rw [hrec])
      refine ⟨_, hbr, ?_⟩
      have hlo2 : Loc [w.heap.size + 1] w2 (w2.putObj (w.heap.size + 1) (.loop { rec .ready none with state := .busy })) := ⟨rfl, rfl, rfl, by simp, fun k hk hn => World.putObj_heap_other (by simpa using hn), Nat.le_refl _⟩
      have hs2' := hs2.re
      have hs3 : St ⟨w2.putObj (w.heap.size + 1) (.loop { rec .ready none with state := .busy }), bs2.filterMap Prod.fst, []⟩ (K ++ F ++ O0) (w2.putObj (w.heap.size + 1) (.loop { rec .ready none with state := .busy })) bs2 := by
        refine ⟨Loc.refl _ _, fun p hp b hb => ⟨.inl (mem_keys.2 ⟨p, hp, hb⟩), ?_⟩, hs2.nd, fun k hk => ⟨by simpa using (hs2.dj k hk).1, (hs2.dj k hk).2⟩, List.nodup_nil, fun _ h => by cases h⟩
        rw [hlo2.block b (hs2.lt hp hb) (by simp; rintro rfl; exact (hs2.dj _ hlF).2 (mem_keys.2 ⟨p, hp, hb⟩))]
        exact (hs2.own p hp b hb).2
      have hst3 : Step (ks bs2 (K ++ F ++ O0)) w2 (ks bs2 (K ++ F ++ O0)) (w2.putObj (w.heap.size + 1) (.loop { rec .ready none with state := .busy })) :=
        Step.of_loc hlo2 (by rintro k hk; simp at hk; subst hk; exact mem_ks.2 (.inr hlF)) fun k hk => .inl hk
      obtain ⟨w3, hw3⟩ : ∃ w3, w3 = w2.putObj (w.heap.size + 1) (.loop { rec .ready none with state := .busy }) := ⟨_, rfl⟩
      rw [← hw3] at hs3 hst3 hlo2 ⊢
      have hl3 : w3.heap[w.heap.size + 1]? = some (.loop { rec .ready none with state := .busy }) := by
        rw [hw3]; exact World.putObj_heap_same (hs2.lt0 _ hlF)
      -- what the round's end makes of it
      have ends : ∀ (jump : Option Code) (s' : σ) (w4 : World), St ⟨w3, bs2.filterMap Prod.fst, []⟩ (K ++ F ++ O0) w4 (bsF s') → Step (ks (bsF s0) O0) w (ks (bsF s') (K ++ F ++ O0)) w4 → fct s' w4 (ks (bsF s') (K ++ F ++ O0)) →
          ∃ w5, (Instr.endRound (w.heap.size + 1) jump).run P w4 = .ok (.bool jump.isNone) w5 ∧ Loc (ks (bsF s) (F ++ O0)) w' w5 ∧ Grow (ks (bsF s) (F ++ O0)) (ks (bsF s') (F ++ O0)) w' w5 ∧
            J0 (if jump.isNone then .ready else .done, jump) (ks (bsF s') (F ++ O0)) K w5 s' := by
        intro jump s' w4 e1 e2 e3
        have hl4 : w4.heap[w.heap.size + 1]? = some (.loop { rec .ready none with state := .busy }) := by
          rw [e1.below.block _ (by have := hs3.lt0 _ hlF; exact this) (hs3.dj _ hlF).2]; exact hl3
        have hrun := run_endRound (P := P) jump hl4
        obtain ⟨w5, hw5⟩ : ∃ w5, w5 = w4.putObj (w.heap.size + 1) (.loop (rec (if jump.isNone then .ready else .done) jump)) := ⟨_, rfl⟩
        have hlo5 : Loc [w.heap.size + 1] w4 w5 := by rw [hw5]; exact ⟨rfl, rfl, rfl, by simp, fun k hk hn => World.putObj_heap_other (by simpa using hn), Nat.le_refl _⟩
        -- from w' to w5
        have hk2 : ∀ k ∈ bs2.filterMap Prod.fst, k ∈ (bsF s).filterMap Prod.fst ∨ w'.heap.size ≤ k := fun k hk => by
          obtain ⟨p, hp, e⟩ := mem_keys.1 hk
          exact (hs2.own p hp k e).1
        have L1 : Loc (ks (bsF s) (F ++ O0)) w' w2 := hs2.below.sub fun k hk => .inl (mem_ks.2 (.inl hk))
        have L2 : Loc (ks (bsF s) (F ++ O0)) w' w3 := L1.trans' hlo2 fun k hk => .inl (by simp at hk; subst hk; exact mem_ks.2 (.inr (by simp [hF])))
        have L3 : Loc (ks (bsF s) (F ++ O0)) w' w4 := L2.trans' e1.below fun k hk => (hk2 k hk).imp (fun h => mem_ks.2 (.inl h)) id
        have L4 : Loc (ks (bsF s) (F ++ O0)) w' w5 := L3.trans' hlo5 fun k hk => .inl (by simp at hk; subst hk; exact mem_ks.2 (.inr (by simp [hF])))
        have hsz2 : w'.heap.size ≤ w2.heap.size := hs2.below.size
        have hsz3 : w3.heap.size = w2.heap.size := by rw [hw3]; simp
        have keys' : ∀ k ∈ (bsF s').filterMap Prod.fst, k ∈ (bsF s).filterMap Prod.fst ∨ w'.heap.size ≤ k := fun k hk => by
          obtain ⟨p, hp, e⟩ := mem_keys.1 hk
          rcases (e1.own p hp k e).1 with h | h
          · exact hk2 k h
          · exact .inr (by simp only at h; omega)
        have hG : Grow (ks (bsF s) (F ++ O0)) (ks (bsF s') (F ++ O0)) w' w5 := ⟨fun k hk => by
            rcases mem_ks.1 hk with hk | hk
            · exact (keys' k hk).imp (fun h => mem_ks.2 (.inl h)) id
            · exact .inl (mem_ks.2 (.inr hk)), fun k hk => by
            have : k < w4.heap.size := e1.ltw k (by
              rcases mem_ks.1 hk with hk | hk
              · exact mem_ks.2 (.inl hk)
              · exact mem_ks.2 (.inr (by rw [List.append_assoc]; exact List.mem_append_right _ hk)))
            have := hlo5.size; omega⟩
        have hzk : ∀ k ∈ (bsF s).filterMap Prod.fst, k ∈ zD.K ∨ zD.w.heap.size ≤ k := fun k hk => by
          obtain ⟨p, hp, e⟩ := mem_keys.1 hk
          exact (g3.st.own p hp k e).1
        have hzs : zD.w.heap.size ≤ w.heap.size := by rw [hzD]; exact hzw
        have hzw' : zD.w.heap.size ≤ w'.heap.size := g3.st.below.size
        have hlds : w.heap.size + 1 ∉ zD.ds := fun hm => by
          rw [hzD] at hm
          rcases List.mem_cons.1 hm with e | hm
          · omega
          · have := hs.lt0 _ (hs.dfs _ hm).1; omega
        have B3 : Loc zD.K zD.w w3 := (g3.st.below.trans' hs2.below hzk).trans' hlo2 fun k hk => by simp at hk; subst hk; exact .inr (by omega)
        have S4 : St zD (K ++ F ++ O0) w4 (bsF s') := e1.back B3 (fun k hk => by
          rcases hk2 k hk with h | h
          · exact hzk k h
          · exact .inr (by omega)) g3.st.dsn fun D hD => by
          obtain ⟨d1, d2, d3⟩ := g3.st.dfs D hD
          refine ⟨d1, d2, ?_⟩
          have hlt := g3.st.lt0 D d1
          rw [e1.below.block D (by rw [hsz3]; omega) (hs2.dj D d1).2, hlo2.block D (by omega) (by simp; rintro rfl; exact hlds hD), hs2.below.block D hlt (g3.st.dj D d1).2]
          exact d3
        have S5 : St zD (K ++ F ++ O0) w5 (bsF s') := S4.loc hlo5 (by
          rintro k hk; simp at hk; subst hk
          exact ⟨(e1.dj _ hlF).2, .inr (by omega), hlds⟩)
        have P5 : Step (ks (bsF s') (K ++ F ++ O0)) w4 (ks (bsF s') (K ++ F ++ O0)) w5 := Step.of_loc hlo5 (by rintro k hk; simp at hk; subst hk; exact mem_ks.2 (.inr hlF)) fun k hk => .inl hk
        refine ⟨w5, ?_, L4, hG, ?_⟩
        · rw [hrun, hw5, hrec]
        · rw [hJ0]
          refine ⟨rfl, g2, ⟨S5, e2.trans P5, hfs _ _ _ _ _ P5 e3⟩, ?_⟩
          rw [hw5]; exact World.putObj_heap_same (by have := e1.lt0 _ hlF; exact this)
      have hbody := hq w3 _ (fun e _ w4 => match e with
          | .normal => ∃ s', St ⟨w3, bs2.filterMap Prod.fst, []⟩ (K ++ F ++ O0) w4 (bsF s') ∧ Step (ks (bsF s0) O0) w (ks (bsF s') (K ++ F ++ O0)) w4 ∧ fct s' w4 (ks (bsF s') (K ++ F ++ O0)) ∧ tl s' tail
          | e => ∃ e', e = exitOf e' ∧ e' ∈ xs ∧ ∃ s', St ⟨w3, bs2.filterMap Prod.fst, []⟩ (K ++ F ++ O0) w4 (bsF s') ∧ Step (ks (bsF s0) O0) w (ks (bsF s') (K ++ F ++ O0)) w4 ∧ fct s' w4 (ks (bsF s') (K ++ F ++ O0)) ∧ tx e' s') rfl hs3 hst3
          (fun s' _ w4 e1 e2 e3 e4 => ⟨s', e1, e2, e3, e4⟩) (fun e s' _ w4 he e1 e2 e3 e4 => by
            cases e with
            | none => exact ⟨none, rfl, he, s', e1, e2, e3, e4⟩
            | some id => exact ⟨some id, rfl, he, s', e1, e2, e3, e4⟩)
      unfold Wp at hbody
      refine wpIn_mono (hbody a2 ha2) ?_
      rintro e a4 w4 ⟨hp4, ρ4, ha4, hq4⟩
      cases e with
      | normal =>
        obtain ⟨s', e1, e2, e3, e4⟩ := hq4
        obtain ⟨w5, r1, r2, r3, r4⟩ := ends none s' w4 e1 e2 e3
        exact ⟨_, w5, r1, _, r2, r3, .inl ⟨rfl, s', tail, by rw [List.append_assoc]; exact h1, r4, e4⟩⟩
      | ret =>
        obtain ⟨e', hee, he, s', e1, e2, e3, e4⟩ := hq4
        cases e' with
        | some id => cases hee
        | none =>
          obtain ⟨w5, r1, r2, r3, r4⟩ := ends (some .ret) s' w4 e1 e2 e3
          exact ⟨_, w5, r1, _, r2, r3, .inr ⟨rfl, s', none, he, r4, e4⟩⟩
      | exit id =>
        obtain ⟨e', hee, he, s', e1, e2, e3, e4⟩ := hq4
        cases e' with
        | none => cases hee
        | some id' =>
          cases hee
          obtain ⟨w5, r1, r2, r3, r4⟩ := ends (some (.exit id)) s' w4 e1 e2 e3
          exact ⟨_, w5, r1, _, r2, r3, .inr ⟨rfl, s', some id, he, r4, e4⟩⟩
      | goto t => obtain ⟨e', hee, _⟩ := hq4; cases e' <;> cases hee
      | panic c => exact absurd rfl (hp4 c)
      | outgrown => obtain ⟨e', hee, _⟩ := hq4; cases e' <;> cases hee
end rule
/-! models: a list gone through -/
section model
universe u
variable {R : Type} {A : Type u} {x : R} {a : A} {L : List A}
def rng0 (b : (Option R) → A → Option R) (k : (Option R)) : List A → Option R
  | [] => k
  | x :: L => b (rng0 b k L) x
theorem rng0_nil {b : (Option R) → A → Option R} {k : (Option R)} : rng0 b k [] = k := rfl
theorem rng0_cons {b : (Option R) → A → Option R} {k : (Option R)} : rng0 b k (a :: L) = b (rng0 b k L) a := rfl
theorem rng0_z {b : (Option R) → A → Option R} {k : (Option R)} (h : rng0 b k [] = some x) : k = some x := rng0_nil.symm.trans h
theorem rng0_s {b : (Option R) → A → Option R} {k : (Option R)} (h : rng0 b k (a :: L) = some x) : ∃ sf, sf = rng0 b k L ∧ b sf a = some x := ⟨_, rfl, rng0_cons.symm.trans h⟩
def rng1 {A0 : Type} (b : (A0 → Option R) → A → A0 → Option R) (k : (A0 → Option R)) : List A → A0 → Option R
  | [] => k
  | x :: L => b (rng1 b k L) x
theorem rng1_nil {A0 : Type} {b : (A0 → Option R) → A → A0 → Option R} {k : (A0 → Option R)} {a0 : A0} : rng1 b k [] a0 = k a0 := rfl
theorem rng1_cons {A0 : Type} {b : (A0 → Option R) → A → A0 → Option R} {k : (A0 → Option R)} {a0 : A0} : rng1 b k (a :: L) a0 = b (rng1 b k L) a a0 := rfl
theorem rng1_z {A0 : Type} {b : (A0 → Option R) → A → A0 → Option R} {k : (A0 → Option R)} {a0 : A0} (h : rng1 b k [] a0 = some x) : k a0 = some x := rng1_nil.symm.trans h
theorem rng1_s {A0 : Type} {b : (A0 → Option R) → A → A0 → Option R} {k : (A0 → Option R)} {a0 : A0} (h : rng1 b k (a :: L) a0 = some x) : ∃ sf, sf = rng1 b k L ∧ b sf a a0 = some x := ⟨_, rfl, rng1_cons.symm.trans h⟩
def rng2 {A0 A1 : Type} (b : (A0 → A1 → Option R) → A → A0 → A1 → Option R) (k : (A0 → A1 → Option R)) : List A → A0 → A1 → Option R
  | [] => k
  | x :: L => b (rng2 b k L) x
theorem rng2_nil {A0 A1 : Type} {b : (A0 → A1 → Option R) → A → A0 → A1 → Option R} {k : (A0 → A1 → Option R)} {a0 : A0} {a1 : A1} : rng2 b k [] a0 a1 = k a0 a1 := rfl
theorem rng2_cons {A0 A1 : Type} {b : (A0 → A1 → Option R) → A → A0 → A1 → Option R} {k : (A0 → A1 → Option R)} {a0 : A0} {a1 : A1} : rng2 b k (a :: L) a0 a1 = b (rng2 b k L) a a0 a1 := rfl
theorem rng2_z {A0 A1 : Type} {b : (A0 → A1 → Option R) → A → A0 → A1 → Option R} {k : (A0 → A1 → Option R)} {a0 : A0} {a1 : A1} (h : rng2 b k [] a0 a1 = some x) : k a0 a1 = some x := rng2_nil.symm.trans h
theorem rng2_s {A0 A1 : Type} {b : (A0 → A1 → Option R) → A → A0 → A1 → Option R} {k : (A0 → A1 → Option R)} {a0 : A0} {a1 : A1} (h : rng2 b k (a :: L) a0 a1 = some x) : ∃ sf, sf = rng2 b k L ∧ b sf a a0 a1 = some x := ⟨_, rfl, rng2_cons.symm.trans h⟩
def rng3 {A0 A1 A2 : Type} (b : (A0 → A1 → A2 → Option R) → A → A0 → A1 → A2 → Option R) (k : (A0 → A1 → A2 → Option R)) : List A → A0 → A1 → A2 → Option R
  | [] => k
  | x :: L => b (rng3 b k L) x
theorem rng3_nil {A0 A1 A2 : Type} {b : (A0 → A1 → A2 → Option R) → A → A0 → A1 → A2 → Option R} {k : (A0 → A1 → A2 → Option R)} {a0 : A0} {a1 : A1} {a2 : A2} : rng3 b k [] a0 a1 a2 = k a0 a1 a2 := rfl
theorem rng3_cons {A0 A1 A2 : Type} {b : (A0 → A1 → A2 → Option R) → A → A0 → A1 → A2 → Option R} {k : (A0 → A1 → A2 → Option R)} {a0 : A0} {a1 : A1} {a2 : A2} : rng3 b k (a :: L) a0 a1 a2 = b (rng3 b k L) a a0 a1 a2 := rfl
theorem rng3_z {A0 A1 A2 : Type} {b : (A0 → A1 → A2 → Option R) → A → A0 → A1 → A2 → Option R} {k : (A0 → A1 → A2 → Option R)} {a0 : A0} {a1 : A1} {a2 : A2} (h : rng3 b k [] a0 a1 a2 = some x) : k a0 a1 a2 = some x := rng3_nil.symm.trans h
theorem rng3_s {A0 A1 A2 : Type} {b : (A0 → A1 → A2 → Option R) → A → A0 → A1 → A2 → Option R} {k : (A0 → A1 → A2 → Option R)} {a0 : A0} {a1 : A1} {a2 : A2} (h : rng3 b k (a :: L) a0 a1 a2 = some x) : ∃ sf, sf = rng3 b k L ∧ b sf a a0 a1 a2 = some x := ⟨_, rfl, rng3_cons.symm.trans h⟩
def rng4 {A0 A1 A2 A3 : Type} (b : (A0 → A1 → A2 → A3 → Option R) → A → A0 → A1 → A2 → A3 → Option R) (k : (A0 → A1 → A2 → A3 → Option R)) : List A → A0 → A1 → A2 → A3 → Option R
  | [] => k
  | x :: L => b (rng4 b k L) x
theorem rng4_nil {A0 A1 A2 A3 : Type} {b : (A0 → A1 → A2 → A3 → Option R) → A → A0 → A1 → A2 → A3 → Option R} {k : (A0 → A1 → A2 → A3 → Option R)} {a0 : A0} {a1 : A1} {a2 : A2} {a3 : A3} : rng4 b k [] a0 a1 a2 a3 = k a0 a1 a2 a3 := rfl
theorem rng4_cons {A0 A1 A2 A3 : Type} {b : (A0 → A1 → A2 → A3 → Option R) → A → A0 → A1 → A2 → A3 → Option R} {k : (A0 → A1 → A2 → A3 → Option R)} {a0 : A0} {a1 : A1} {a2 : A2} {a3 : A3} : rng4 b k (a :: L) a0 a1 a2 a3 = b (rng4 b k L) a a0 a1 a2 a3 := rfl
theorem rng4_z {A0 A1 A2 A3 : Type} {b : (A0 → A1 → A2 → A3 → Option R) → A → A0 → A1 → A2 → A3 → Option R} {k : (A0 → A1 → A2 → A3 → Option R)} {a0 : A0} {a1 : A1} {a2 : A2} {a3 : A3} (h : rng4 b k [] a0 a1 a2 a3 = some x) : k a0 a1 a2 a3 = some x := rng4_nil.symm.trans h
theorem rng4_s {A0 A1 A2 A3 : Type} {b : (A0 → A1 → A2 → A3 → Option R) → A → A0 → A1 → A2 → A3 → Option R} {k : (A0 → A1 → A2 → A3 → Option R)} {a0 : A0} {a1 : A1} {a2 : A2} {a3 : A3} (h : rng4 b k (a :: L) a0 a1 a2 a3 = some x) : ∃ sf, sf = rng4 b k L ∧ b sf a a0 a1 a2 a3 = some x := ⟨_, rfl, rng4_cons.symm.trans h⟩
def rng5 {A0 A1 A2 A3 A4 : Type} (b : (A0 → A1 → A2 → A3 → A4 → Option R) → A → A0 → A1 → A2 → A3 → A4 → Option R) (k : (A0 → A1 → A2 → A3 → A4 → Option R)) : List A → A0 → A1 → A2 → A3 → A4 → Option R
  | [] => k
  | x :: L => b (rng5 b k L) x
theorem rng5_nil {A0 A1 A2 A3 A4 : Type} {b : (A0 → A1 → A2 → A3 → A4 → Option R) → A → A0 → A1 → A2 → A3 → A4 → Option R} {k : (A0 → A1 → A2 → A3 → A4 → Option R)} {a0 : A0} {a1 : A1} {a2 : A2} {a3 : A3} {a4 : A4} : rng5 b k [] a0 a1 a2 a3 a4 = k a0 a1 a2 a3 a4 := rfl
theorem rng5_cons {A0 A1 A2 A3 A4 : Type} {b : (A0 → A1 → A2 → A3 → A4 → Option R) → A → A0 → A1 → A2 → A3 → A4 → Option R} {k : (A0 → A1 → A2 → A3 → A4 → Option R)} {a0 : A0} {a1 : A1} {a2 : A2} {a3 : A3} {a4 : A4} : rng5 b k (a :: L) a0 a1 a2 a3 a4 = b (rng5 b k L) a a0 a1 a2 a3 a4 := rfl
theorem rng5_z {A0 A1 A2 A3 A4 : Type} {b : (A0 → A1 → A2 → A3 → A4 → Option R) → A → A0 → A1 → A2 → A3 → A4 → Option R} {k : (A0 → A1 → A2 → A3 → A4 → Option R)} {a0 : A0} {a1 : A1} {a2 : A2} {a3 : A3} {a4 : A4} (h : rng5 b k [] a0 a1 a2 a3 a4 = some x) : k a0 a1 a2 a3 a4 = some x := rng5_nil.symm.trans h
theorem rng5_s {A0 A1 A2 A3 A4 : Type} {b : (A0 → A1 → A2 → A3 → A4 → Option R) → A → A0 → A1 → A2 → A3 → A4 → Option R} {k : (A0 → A1 → A2 → A3 → A4 → Option R)} {a0 : A0} {a1 : A1} {a2 : A2} {a3 : A3} {a4 : A4} (h : rng5 b k (a :: L) a0 a1 a2 a3 a4 = some x) : ∃ sf, sf = rng5 b k L ∧ b sf a a0 a1 a2 a3 a4 = some x := ⟨_, rfl, rng5_cons.symm.trans h⟩
def rng6 {A0 A1 A2 A3 A4 A5 : Type} (b : (A0 → A1 → A2 → A3 → A4 → A5 → Option R) → A → A0 → A1 → A2 → A3 → A4 → A5 → Option R) (k : (A0 → A1 → A2 → A3 → A4 → A5 → Option R)) : List A → A0 → A1 → A2 → A3 → A4 → A5 → Option R
  | [] => k
  | x :: L => b (rng6 b k L) x
theorem rng6_nil {A0 A1 A2 A3 A4 A5 : Type} {b : (A0 → A1 → A2 → A3 → A4 → A5 → Option R) → A → A0 → A1 → A2 → A3 → A4 → A5 → Option R} {k : (A0 → A1 → A2 → A3 → A4 → A5 → Option R)} {a0 : A0} {a1 : A1} {a2 : A2} {a3 : A3} {a4 : A4} {a5 : A5} : rng6 b k [] a0 a1 a2 a3 a4 a5 = k a0 a1 a2 a3 a4 a5 := rfl
theorem rng6_cons {A0 A1 A2 A3 A4 A5 : Type} {b : (A0 → A1 → A2 → A3 → A4 → A5 → Option R) → A → A0 → A1 → A2 → A3 → A4 → A5 → Option R} {k : (A0 → A1 → A2 → A3 → A4 → A5 → Option R)} {a0 : A0} {a1 : A1} {a2 : A2} {a3 : A3} {a4 : A4} {a5 : A5} : rng6 b k (a :: L) a0 a1 a2 a3 a4 a5 = b (rng6 b k L) a a0 a1 a2 a3 a4 a5 := rfl
theorem rng6_z {A0 A1 A2 A3 A4 A5 : Type} {b : (A0 → A1 → A2 → A3 → A4 → A5 → Option R) → A → A0 → A1 → A2 → A3 → A4 → A5 → Option R} {k : (A0 → A1 → A2 → A3 → A4 → A5 → Option R)} {a0 : A0} {a1 : A1} {a2 : A2} {a3 : A3} {a4 : A4} {a5 : A5} (h : rng6 b k [] a0 a1 a2 a3 a4 a5 = some x) : k a0 a1 a2 a3 a4 a5 = some x := rng6_nil.symm.trans h
theorem rng6_s {A0 A1 A2 A3 A4 A5 : Type} {b : (A0 → A1 → A2 → A3 → A4 → A5 → Option R) → A → A0 → A1 → A2 → A3 → A4 → A5 → Option R} {k : (A0 → A1 → A2 → A3 → A4 → A5 → Option R)} {a0 : A0} {a1 : A1} {a2 : A2} {a3 : A3} {a4 : A4} {a5 : A5} (h : rng6 b k (a :: L) a0 a1 a2 a3 a4 a5 = some x) : ∃ sf, sf = rng6 b k L ∧ b sf a a0 a1 a2 a3 a4 a5 = some x := ⟨_, rfl, rng6_cons.symm.trans h⟩
def rng7 {A0 A1 A2 A3 A4 A5 A6 : Type} (b : (A0 → A1 → A2 → A3 → A4 → A5 → A6 → Option R) → A → A0 → A1 → A2 → A3 → A4 → A5 → A6 → Option R) (k : (A0 → A1 → A2 → A3 → A4 → A5 → A6 → Option R)) : List A → A0 → A1 → A2 → A3 → A4 → A5 → A6 → Option R
  | [] => k
  | x :: L => b (rng7 b k L) x
theorem rng7_nil {A0 A1 A2 A3 A4 A5 A6 : Type} {b : (A0 → A1 → A2 → A3 → A4 → A5 → A6 → Option R) → A → A0 → A1 → A2 → A3 → A4 → A5 → A6 → Option R} {k : (A0 → A1 → A2 → A3 → A4 → A5 → A6 → Option R)} {a0 : A0} {a1 : A1} {a2 : A2} {a3 : A3} {a4 : A4} {a5 : A5} {a6 : A6} : rng7 b k [] a0 a1 a2 a3 a4 a5 a6 = k a0 a1 a2 a3 a4 a5 a6 := rfl
theorem rng7_cons {A0 A1 A2 A3 A4 A5 A6 : Type} {b : (A0 → A1 → A2 → A3 → A4 → A5 → A6 → Option R) → A → A0 → A1 → A2 → A3 → A4 → A5 → A6 → Option R} {k : (A0 → A1 → A2 → A3 → A4 → A5 → A6 → Option R)} {a0 : A0} {a1 : A1} {a2 : A2} {a3 : A3} {a4 : A4} {a5 : A5} {a6 : A6} : rng7 b k (a :: L) a0 a1 a2 a3 a4 a5 a6 = b (rng7 b k L) a a0 a1 a2 a3 a4 a5 a6 := rfl
theorem rng7_z {A0 A1 A2 A3 A4 A5 A6 : Type} {b : (A0 → A1 → A2 → A3 → A4 → A5 → A6 → Option R) → A → A0 → A1 → A2 → A3 → A4 → A5 → A6 → Option R} {k : (A0 → A1 → A2 → A3 → A4 → A5 → A6 → Option R)} {a0 : A0} {a1 : A1} {a2 : A2} {a3 : A3} {a4 : A4} {a5 : A5} {a6 : A6} (h : rng7 b k [] a0 a1 a2 a3 a4 a5 a6 = some x) : k a0 a1 a2 a3 a4 a5 a6 = some x := rng7_nil.symm.trans h
theorem rng7_s {A0 A1 A2 A3 A4 A5 A6 : Type} {b : (A0 → A1 → A2 → A3 → A4 → A5 → A6 → Option R) → A → A0 → A1 → A2 → A3 → A4 → A5 → A6 → Option R} {k : (A0 → A1 → A2 → A3 → A4 → A5 → A6 → Option R)} {a0 : A0} {a1 : A1} {a2 : A2} {a3 : A3} {a4 : A4} {a5 : A5} {a6 : A6} (h : rng7 b k (a :: L) a0 a1 a2 a3 a4 a5 a6 = some x) : ∃ sf, sf = rng7 b k L ∧ b sf a a0 a1 a2 a3 a4 a5 a6 = some x := ⟨_, rfl, rng7_cons.symm.trans h⟩
def rng8 {A0 A1 A2 A3 A4 A5 A6 A7 : Type} (b : (A0 → A1 → A2 → A3 → A4 → A5 → A6 → A7 → Option R) → A → A0 → A1 → A2 → A3 → A4 → A5 → A6 → A7 → Option R) (k : (A0 → A1 → A2 → A3 → A4 → A5 → A6 → A7 → Option R)) : List A → A0 → A1 → A2 → A3 → A4 → A5 → A6 → A7 → Option R
  | [] => k
  | x :: L => b (rng8 b k L) x
theorem rng8_nil {A0 A1 A2 A3 A4 A5 A6 A7 : Type} {b : (A0 → A1 → A2 → A3 → A4 → A5 → A6 → A7 → Option R) → A → A0 → A1 → A2 → A3 → A4 → A5 → A6 → A7 → Option R} {k : (A0 → A1 → A2 → A3 → A4 → A5 → A6 → A7 → Option R)} {a0 : A0} {a1 : A1} {a2 : A2} {a3 : A3} {a4 : A4} {a5 : A5} {a6 : A6} {a7 : A7} : rng8 b k [] a0 a1 a2 a3 a4 a5 a6 a7 = k a0 a1 a2 a3 a4 a5 a6 a7 := rfl
theorem rng8_cons {A0 A1 A2 A3 A4 A5 A6 A7 : Type} {b : (A0 → A1 → A2 → A3 → A4 → A5 → A6 → A7 → Option R) → A → A0 → A1 → A2 → A3 → A4 → A5 → A6 → A7 → Option R} {k : (A0 → A1 → A2 → A3 → A4 → A5 → A6 → A7 → Option R)} {a0 : A0} {a1 : A1} {a2 : A2} {a3 : A3} {a4 : A4} {a5 : A5} {a6 : A6} {a7 : A7} : rng8 b k (a :: L) a0 a1 a2 a3 a4 a5 a6 a7 = b (rng8 b k L) a a0 a1 a2 a3 a4 a5 a6 a7 := rfl
theorem rng8_z {A0 A1 A2 A3 A4 A5 A6 A7 : Type} {b : (A0 → A1 → A2 → A3 → A4 → A5 → A6 → A7 → Option R) → A → A0 → A1 → A2 → A3 → A4 → A5 → A6 → A7 → Option R} {k : (A0 → A1 → A2 → A3 → A4 → A5 → A6 → A7 → Option R)} {a0 : A0} {a1 : A1} {a2 : A2} {a3 : A3} {a4 : A4} {a5 : A5} {a6 : A6} {a7 : A7} (h : rng8 b k [] a0 a1 a2 a3 a4 a5 a6 a7 = some x) : k a0 a1 a2 a3 a4 a5 a6 a7 = some x := rng8_nil.symm.trans h
theorem rng8_s {A0 A1 A2 A3 A4 A5 A6 A7 : Type} {b : (A0 → A1 → A2 → A3 → A4 → A5 → A6 → A7 → Option R) → A → A0 → A1 → A2 → A3 → A4 → A5 → A6 → A7 → Option R} {k : (A0 → A1 → A2 → A3 → A4 → A5 → A6 → A7 → Option R)} {a0 : A0} {a1 : A1} {a2 : A2} {a3 : A3} {a4 : A4} {a5 : A5} {a6 : A6} {a7 : A7} (h : rng8 b k (a :: L) a0 a1 a2 a3 a4 a5 a6 a7 = some x) : ∃ sf, sf = rng8 b k L ∧ b sf a a0 a1 a2 a3 a4 a5 a6 a7 = some x := ⟨_, rfl, rng8_cons.symm.trans h⟩
attribute [irreducible] rng0 rng1 rng2 rng3 rng4 rng5 rng6 rng7 rng8
/-- what is handed out, and what comes behind -/
def yl {α : Type} (x : α) (m : Option (List α)) : Option (List α) := m.map (x :: ·)
theorem yl_elim {α : Type} {x : α} {m : Option (List α)} {L : List α} (h : yl x m = some L) : ∃ L', m = some L' ∧ L = x :: L' := by
  cases m with
  | none => cases h
  | some L' => exact ⟨L', rfl, (Option.some.inj h).symm⟩
end model

/-! the iterator's own walk -/
/-- an iterator as a value -/
def vIt {α : Type} (P : Program) (enc : α → World → List Nat → List Value → Prop) : Vr (List α) :=
  ⟨fun w O v L => ∃ f caps, v = .func (.func f) #[] (List.toArray caps) ∧ (∀ (args : Array Value) (w : World), (callFunc f args).run P w = .ok (.enter f args) w) ∧ IterF P w O f caps enc L,
   fun s ⟨f, caps, h1, h2, h3⟩ => ⟨f, caps, h1, h2, h3.step s⟩⟩
/-- the same, to be carried along -/
def ItR {α : Type} (P : Program) (enc : α → World → List Nat → List Value → Prop) (w : World) (O : List Nat) (v : Value) (L : List α) : Prop := (vIt P enc).vd w O v L
theorem ItR.step {α : Type} {P : Program} {enc : α → World → List Nat → List Value → Prop} {w w' : World} {O O' : List Nat} {v : Value} {L : List α} (h : ItR P enc w O v L) (s : Step O w O' w') : ItR P enc w' O' v L := (vIt P enc).step s h
section iter
variable {P : Program} {ρ : Env} {w : World} {z : Zx} {O : List Nat} {bs : Ents} {α : Type} {J Jx : JP α} {L pre : List α} {a : α} {l : Nat} {enc : α → World → List Nat → List Value → Prop}
structure Itr (J : JP α) (pre : List α) (z : Zx) (O : List Nat) : Prop where
  j : J pre z.w O z.K
  dj : ∀ k ∈ z.K, k ∉ O
theorem Itr.now (h : Itr J pre z O) (hJ : Abides J) (hs : St z O w bs) : J pre w O (bs.filterMap Prod.fst) :=
  hJ.loc h.j h.dj hs.below ⟨fun k hk => by obtain ⟨p, hp, e⟩ := mem_keys.1 hk; exact (hs.own p hp k e).1, fun k hk => by obtain ⟨p, hp, e⟩ := mem_keys.1 hk; exact hs.lt hp e⟩
theorem Itr.fin (h : Itr J pre z O) (hJ : Abides J) (hs : St z O w bs) : J pre w O [] :=
  hJ.loc (h.now hJ hs) (fun k hk hm => (hs.dj k hm).2 hk) (Loc.refl _ _) ⟨(fun _ h => by cases h), fun _ h => by cases h⟩
theorem Itr.start {w : World} (h : J [] w O []) : Itr J [] ⟨w, [], []⟩ O := ⟨h, fun _ h => by cases h⟩
theorem op_yield {d : Option Nat} {ty : TypeId} {pos : String} {aft : Array Edge} {g : Option (Nat × Bool)} {V : Value → World → Prop} {x : Operand} {args : List Operand} {us : Array TypeId} {vs : List Value}
    (hx : ev ρ x = .func (.yield l) #[] #[]) (ha : args.map (ev ρ) = vs) (hY : YieldsTo P enc L l J Jx) (hJ : Abides J) (hI : Itr J pre z O) (hs : St z O w bs) (hL : pre ++ [a] <+: L) (hen : enc a w (ks bs O) vs)
    (kt : ∀ w' O', St ⟨w', bs.filterMap Prod.fst, []⟩ O' w' bs → Step (ks bs O) w (ks bs O') w' → Itr J (pre ++ [a]) ⟨w', bs.filterMap Prod.fst, []⟩ O' → V (.bool true) w')
    (kf : ∀ w' O', St ⟨w', bs.filterMap Prod.fst, []⟩ O' w' bs → Itr Jx (pre ++ [a]) ⟨w', bs.filterMap Prod.fst, []⟩ O' → V (.bool false) w') :
    Run1 P none ρ w ⟨d, .call ⟨.value x, args.toArray, us⟩, ty, pos, aft, g⟩ V := by
  obtain ⟨fn, tmps, assign, body, hy, hR⟩ := hY pre a w O (bs.filterMap Prod.fst) vs hL (hI.now hJ hs) (fun k hk => ⟨hs.ltw k (mem_ks.2 (.inl hk)), fun hm => (hs.dj k hm).2 hk⟩) hs.lt0 hen
  unfold Run1
  rw [Oper.semAt_eq _ _ _ (by simp)]
  have hrun : (execOp (ev ρ) ⟨d, .call ⟨.value x, args.toArray, us⟩, ty, pos, aft, g⟩).run P w = .ok (.round l fn tmps assign body) w := by
    simp only [execOp, resolve, hx]
    subst ha
    simpa [go_sem, invoke] using hy
  rw [hrun]
  simp only
  refine RoundIn.mono hR ?_
  rintro e w' ⟨O', hl, hg, h⟩
  have hS : St ⟨w', bs.filterMap Prod.fst, []⟩ O' w' bs := by
    refine ⟨Loc.refl _ _, fun p hp b hb => ⟨.inl (mem_keys.2 ⟨p, hp, hb⟩), ?_⟩, hs.nd, fun k hk => ⟨hg.lt k hk, fun hm => ?_⟩, List.nodup_nil, fun _ h => by cases h⟩
    · rw [hl.block b (hs.lt hp hb) fun hm => (hs.dj b hm).2 (mem_keys.2 ⟨p, hp, hb⟩)]; exact (hs.own p hp b hb).2
    · rcases hg.new k hk with h1 | h1
      · exact (hs.dj k h1).2 hm
      · obtain ⟨p, hp, e⟩ := mem_keys.1 hm
        have := hs.lt hp e; omega
  have hP : Step (ks bs O) w (ks bs O') w' := Step.of_loc hl (fun k hk => mem_ks.2 (.inr hk)) fun k hk => by
    rcases mem_ks.1 hk with hk | hk
    · exact .inl (mem_ks.2 (.inl hk))
    · exact (hg.new k hk).imp (fun h => mem_ks.2 (.inr h)) id
  have hdj : ∀ k ∈ bs.filterMap Prod.fst, k ∉ O' := fun k hk hm => (hS.dj k hm).2 hk
  rcases h with ⟨rfl, h⟩ | ⟨rfl, h⟩
  · exact ⟨_, rfl, kt w' O' hS hP ⟨h, hdj⟩⟩
  · exact ⟨_, rfl, kf w' O' hS ⟨h, hdj⟩⟩
end iter
end Go.Fx


/- From what an argument reads as in a row to what it reads as here. No program in sight. -/
set_option linter.unusedSimpArgs false
set_option linter.unusedVariables false
namespace Go.Fx
open Go Go.RowKit Go.ChangeShapes

section
variable {H : Type} {enc : TypeId × Value → H} {P : Program} {w : World} {base : Nat} {spare : Nat → Bool} {held : Bool}
/-- no slice longer than memory -/
def SmL {α : Type} (Sm : α → Prop) (xs : List α) : Prop := xs.length ≤ 140737488351232 ∧ ∀ x ∈ xs, Sm x
def SmT {α : Type} (_ : α) : Prop := True
/-- whatever is read as a datum of type t stands in cells as one of α -/
def Rd {α : Type} (enc : TypeId × Value → H) (P : Program) (w : World) (base : Nat) (spare : Nat → Bool) (held : Bool) (t : TypeId) (q : Rp α) (Sm : α → Prop) : Prop :=
  P.cellsOf t = q.n ∧ ∀ (fuel : Nat) (cs : List Value) (y : DataW H × List MemPlace), DataW.trod enc P w base spare held fuel t cs = some y → ∃ x, q.rd w [] cs x ∧ ((∀ n ∈ y.1.weights P t, n ≤ reachBytes) → Sm x)

theorem wf_inK {k : IntKind} {n : Int} (h : (Lit.int k n).wf = true) : k.min ≤ n ∧ n ≤ k.max := by
  simpa [Lit.wf, IntKind.has] using h
theorem Rd_int {t : TypeId} {k : IntKind} (ht : P.underlying t = some (.int k)) (hc : P.cellsOf t = 1) : Rd enc P w base spare held t (rInt k) (InK k) := by
  refine ⟨hc, fun fuel cs y h => ?_⟩
  obtain ⟨n, rfl, _, hw⟩ := DataW.trod_int ht h
  exact ⟨n, ⟨rfl, wf_inK hw⟩, fun _ => wf_inK hw⟩
theorem Rd_u8 {t : TypeId} (ht : P.underlying t = some (.int .u8)) (hc : P.cellsOf t = 1) : Rd enc P w base spare held t rU8 SmT := by
  refine ⟨hc, fun fuel cs y h => ?_⟩
  obtain ⟨n, rfl, _, hw⟩ := DataW.trod_int ht h
  exact ⟨UInt8.ofNat n.toNat, mk_u8 (wf_inK hw), fun _ => trivial⟩
theorem Rd_bool {t : TypeId} (ht : P.underlying t = some .bool) (hc : P.cellsOf t = 1) : Rd enc P w base spare held t rBool SmT := by
  refine ⟨hc, fun fuel cs y h => ?_⟩
  obtain ⟨b, rfl, _⟩ := DataW.trod_bool ht h
  exact ⟨b, rfl, fun _ => trivial⟩
theorem bs_toList (s : ByteArray) : Fx.bs s.data.toList = s := by cases s; simp [Fx.bs]
theorem Rd_str {t : TypeId} (ht : P.underlying t = some .string) (hc : P.cellsOf t = 1) : Rd enc P w base spare held t rStr (SmL SmT) := by
  refine ⟨hc, fun fuel cs y h => ?_⟩
  obtain ⟨s, rfl, hy, _⟩ := DataW.trod_string ht h
  refine ⟨s.data.toList, by show _ = _; rw [bs_toList], fun hw => ⟨?_, fun _ _ => trivial⟩⟩
  have := hw s.data.toList.length (by rw [hy]; simp [DataW.weights])
  simpa [reachBytes] using this
theorem ptR_of_cells {α : Type} {q : Rp α} {a : Addr} {cs : List Value} {x : α} (hn : 0 < q.n) (hc : w.cells? base a q.n = some cs) (hr : q.rd w [] cs x) : PtR q w [] a x := by
  obtain ⟨_, hl, hg⟩ := World.cells?_some hc
  have h0 := hg 0 hn
  have hs0 : (cs[0]?).isSome := by simp; omega
  obtain ⟨v0, hv0⟩ := Option.isSome_iff_exists.1 hs0
  rw [hv0] at h0
  have hsp : a.spot = none := by have := World.cell?_spot h0; rwa [Addr.add_zero'] at this
  obtain ⟨b, off, sp⟩ := a
  simp only at hsp; subst hsp
  have hblk : ∃ c T fz, w.heap[b]? = some (.cells c T fz) := by
    simp only [Addr.add_lit, World.cell?, Option.isSome_none, Bool.false_eq_true, if_false] at h0
    cases hb : w.heap[b]? with
    | none => rw [hb] at h0; simp at h0
    | some o => cases o <;> simp [hb] at h0; exact ⟨_, _, _, rfl⟩
  obtain ⟨c, T, fz, hb⟩ := hblk
  have hget : ∀ i, i < q.n → c[off + i]? = cs[i]? := fun i hi => by
    have := hg i hi
    rw [Addr.add_lit, cell_at hb] at this
    exact this
  have hsz : off + q.n ≤ c.size := by
    have := hget (q.n - 1) (by omega)
    rw [List.getElem?_eq_getElem (by omega)] at this
    have := (Array.getElem?_eq_some_iff.1 this).1
    omega
  refine ⟨rfl, ⟨(Array.getElem?_eq_some_iff.1 hb).1, by simp⟩, c, T, fz, hb, hsz, ?_⟩
  have e : (c.toList.drop off).take q.n = cs := by
    apply List.ext_getElem?
    intro i
    rw [List.getElem?_take, List.getElem?_drop]
    split
    · rename_i hi; rw [← hget i hi]; simp
    · rw [List.getElem?_eq_none (by omega)]
  simp only [e]; exact hr
theorem weightsAll_mem {e : TypeId} : ∀ {l : List (DataW H)} {d : DataW H}, d ∈ l → ∀ n ∈ d.weights P e, n ∈ DataW.weightsAll P e l
  | [], _, h, _, _ => by cases h
  | x :: l, d, h, n, hn => by
    rw [DataW.weightsAll]
    rcases List.mem_cons.1 h with e | h
    · subst e; exact List.mem_append_left _ hn
    · exact List.mem_append_right _ (weightsAll_mem h n hn)
theorem Rd_slice {α : Type} {q : Rp α} {Sm : α → Prop} {t e : TypeId} (ht : P.underlying t = some (.slice e)) (hc : P.cellsOf t = 1) (hn : 0 < q.n) (hby : 1 ≤ P.bytesOf e) (R : Rd enc P w base spare held e q Sm) : Rd enc P w base spare held t (rSl q) (SmL Sm) := by
  refine ⟨hc, fun fuel cs y h => ?_⟩
  rcases DataW.trod_slice ht h with ⟨rfl, _⟩ | ⟨a, len, cap, elems, rest, n, _, rfl, hy, hb, hl, hm, hlen, hel, _, _⟩
  · exact ⟨[], ⟨none, 0, rfl, SlR.nil_⟩, fun _ => ⟨by simp, by simp⟩⟩
  · have hex : ∀ i (hi : i < elems.length), ∃ x, PtR q w [] (a.add (i * q.n)) x ∧ ((∀ n ∈ elems[i].1.weights P e, n ≤ reachBytes) → Sm x) := fun i hi => by
      have h1 := hel i (by omega)
      rw [List.getElem?_eq_getElem hi, Option.bind_eq_some_iff] at h1
      obtain ⟨cs, h2, h3⟩ := h1
      obtain ⟨x, hx, hs⟩ := R.2 _ _ _ h3
      rw [R.1] at h2
      exact ⟨x, ptR_of_cells hn h2 hx, hs⟩
    have key : ∀ k, k ≤ elems.length → ∃ xs : List α, xs.length = k ∧ ∀ i (h : i < xs.length) (hi : i < elems.length), PtR q w [] (a.add (i * q.n)) xs[i] ∧ ((∀ n ∈ elems[i].1.weights P e, n ≤ reachBytes) → Sm xs[i]) := by
      intro k
      induction k with
      | zero => exact fun _ => ⟨[], rfl, by simp⟩
      | succ k ih =>
        intro hk
        obtain ⟨xs, h1, h2⟩ := ih (by omega)
        obtain ⟨x, hx⟩ := hex k (by omega)
        refine ⟨xs ++ [x], by simp [h1], fun i hi hi2 => ?_⟩
        by_cases hik : i < xs.length
        · rw [List.getElem_append_left hik]; exact h2 i hik hi2
        · have : i = k := by simp at hi; omega
          subst this
          rw [List.getElem_append_right (by omega)]; simpa [h1] using hx
    obtain ⟨xs, h1, h2⟩ := key elems.length (Nat.le_refl _)
    refine ⟨xs, ⟨some a, cap, by rw [h1, hlen], ⟨by omega, hm, (fun h => by cases h), fun ad he i hi => by cases he; exact (h2 i hi (by omega)).1⟩⟩, fun hw => ?_⟩
    rw [hy] at hw
    simp only [DataW.weights, ht, List.mem_cons, List.mem_append] at hw
    refine ⟨?_, fun x hx => ?_⟩
    · have h3 := hw _ (.inl rfl)
      simp only [List.length_map, reachBytes] at h3
      have h4 : elems.length * 1 ≤ (elems.length + rest.length) * P.bytesOf e := Nat.mul_le_mul (by omega) hby
      rw [h1]; omega
    · obtain ⟨i, hi, rfl⟩ := List.mem_iff_getElem.1 hx
      refine (h2 i hi (by omega)).2 fun n hn' => hw n (.inr (.inl (weightsAll_mem (d := elems[i].1) (List.mem_map.2 ⟨elems[i], List.getElem_mem _, rfl⟩) n hn')))
theorem fld {α : Type} {q : Rp α} {Sm : α → Prop} {fs : Array Field} {cs : List Value} {xs : List (DataW H × List MemPlace)} {n i : Nat} {f : Field} {t : TypeId} {y : DataW H × List MemPlace} (ht : P.underlying t = some (.struct fs))
    (h : ∀ (i : Nat) (f : Field), fs[i]? = some f → DataW.trod enc P w base spare held n f.type ((cs.drop f.offset).take (P.cellsOf f.type)) = xs[i]?) (hl : xs.length = fs.size) (hy : y = (.agg (xs.map (·.1)), xs.flatMap (·.2))) (hf : fs[i]? = some f)
    (R : Rd enc P w base spare held f.type q Sm) : ∃ x, q.rd w [] ((cs.drop f.offset).take q.n) x ∧ ((∀ n ∈ y.1.weights P t, n ≤ reachBytes) → Sm x) := by
  have h1 := h i f hf
  have hi : i < xs.length := by rw [hl]; exact (Array.getElem?_eq_some_iff.1 hf).1
  rw [List.getElem?_eq_getElem hi] at h1
  obtain ⟨x, hx, hs⟩ := R.2 _ _ _ h1
  rw [R.1] at hx
  refine ⟨x, hx, fun hw => hs fun n hn => hw n ?_⟩
  rw [hy]
  simp only [DataW.weights, ht]
  exact DataW.weights_mem_each (j := i) (t := f.type) (d := xs[i].1) (by simp [hf]) (by simp [hi]) n hn
theorem rd_pair {α β : Type} {r : Rp α} {s : Rp β} {O : List Nat} {cs : List Value} {o : Nat} {x : α} {y : β} (h1 : r.rd w O ((cs.drop o).take r.n) x) (h2 : s.rd w O ((cs.drop (o + r.n)).take s.n) y) :
    (rPair r s).rd w O ((cs.drop o).take (rPair r s).n) (x, y) := by
  refine ⟨_, _, ?_, h1, h2⟩
  show (cs.drop o).take (r.n + s.n) = _
  rw [List.take_add, List.drop_drop]
theorem rd_all {α : Type} {q : Rp α} {O : List Nat} {cs : List Value} {x : α} (h : q.rd w O ((cs.drop 0).take q.n) x) (hl : cs.length = q.n) : q.rd w O cs x := by
  rwa [List.drop_zero, List.take_of_length_le (by omega)] at h
end
end Go.Fx


/- Function values that may be nil; append of fresh zeros; slices cut to nothing. No program in sight. -/
set_option linter.unusedSimpArgs false
set_option linter.unusedVariables false
namespace Go.Fx
open Go Go.RowKit

/-! function values that may be nil -/
/-- a call of one -/
def callO {α β : Type} (f : Option (α → Option β)) (x : α) : Option β := f.bind fun g => g x
/-- it is nil, or computes what f says -/
def CallsO1 {α β : Type} (P : Program) (w : World) (O : List Nat) (fv : Value) (A : Vr α) (R : Vr β) (f : Option (α → Option β)) : Prop :=
  (f = none ∧ fv = .nilFunc) ∨ ∃ g fn first cap, f = some g ∧ fv = .func fn first cap ∧ CallsTo1 P w O fv A R g
theorem CallsO1.step {α β : Type} {P : Program} {w w' : World} {O O' : List Nat} {fv : Value} {A : Vr α} {R : Vr β} {f : Option (α → Option β)} (h : CallsO1 P w O fv A R f) (s : Step O w O' w') : CallsO1 P w' O' fv A R f := by
  rcases h with h | ⟨g, fn, first, cap, h1, h2, h3⟩
  · exact .inl h
  · exact .inr ⟨g, fn, first, cap, h1, h2, h3.step s⟩
theorem CallsO1.nil_ {α β : Type} {P : Program} {w : World} {O : List Nat} {A : Vr α} {R : Vr β} : CallsO1 P w O .nilFunc A R (none : Option (α → Option β)) := .inl ⟨rfl, rfl⟩
theorem CallsO1.some_ {α β : Type} {P : Program} {w : World} {O : List Nat} {fn : Go.Fn} {first cap : Array Value} {A : Vr α} {R : Vr β} {g : α → Option β} (h : CallsTo1 P w O (.func fn first cap) A R g) : CallsO1 P w O (.func fn first cap) A R (some g) := .inr ⟨g, fn, first, cap, rfl, rfl, h⟩
theorem CallsO1.call {α β : Type} {P : Program} {w : World} {O : List Nat} {fv : Value} {A : Vr α} {R : Vr β} {f : Option (α → Option β)} (h : CallsO1 P w O fv A R f) (hO : ∀ k ∈ O, k < w.heap.size) {v : Value} {x : α} {y : β} (hv : A.vd w O v x) (hy : callO f x = some y) :
    FvTo P fv [v] w fun u w'' => Ext w w'' ∧ R.vd w'' O u y := by
  rcases h with ⟨rfl, _⟩ | ⟨g, fn, first, cap, rfl, h2, h3⟩
  · cases hy
  · exact h3.call hO hv hy
theorem CallsO1.cells {α β : Type} {P : Program} {w : World} {O : List Nat} {fv : Value} {A : Vr α} {R : Vr β} {f : Option (α → Option β)} (h : CallsO1 P w O fv A R f) : fv.cells = [fv].toArray := by
  rcases h with ⟨_, rfl⟩ | ⟨_, _, _, _, _, rfl, _⟩ <;> rfl
/-- in a cell -/
def rFO {α β : Type} (P : Program) (A : Vr α) (R : Vr β) : Rp (Option (α → Option β)) where
  n := 1
  rd w O cs f := ∃ v, cs = [v] ∧ CallsO1 P w O v A R f
  len := fun ⟨_, h, _⟩ => by rw [h]; rfl
  one := fun ⟨v, h, h2⟩ => by
    subst h
    rcases h2 with ⟨_, rfl⟩ | ⟨_, _, _, _, _, rfl, _⟩ <;> simp [Value.oneCell']
  step := fun s ⟨v, h, h2⟩ => ⟨v, h, h2.step s⟩
section
variable {α β : Type} {P : Program} {w : World} {O : List Nat} {A : Vr α} {R : Vr β} {f : Option (α → Option β)} {v : Value} {cs : List Value}
theorem mk_fo (h : CallsO1 P w O v A R f) : (rFO P A R).rd w O [v] f := ⟨v, rfl, h⟩
theorem un_fo (h : (rFO P A R).rd w O [v] f) : CallsO1 P w O v A R f := by obtain ⟨v', h1, h2⟩ := h; cases h1; exact h2
end
/-! function values in cells -/
def rFv1 {α β : Type} (P : Program) (A : Vr α) (R : Vr β) : Rp (α → Option β) where
  n := 1
  rd w O cs f := ∃ v, cs = [v] ∧ (∃ fn first cap, v = .func fn first cap) ∧ CallsTo1 P w O v A R f
  len := fun ⟨_, h, _⟩ => by rw [h]; rfl
  one := fun ⟨v, h, ⟨fn, first, cap, h2⟩, _⟩ => by subst h; subst h2; simp [Value.oneCell']
  step := fun s ⟨v, h, h2, h3⟩ => ⟨v, h, h2, h3.step s⟩
def rFv2 {α α' β : Type} (P : Program) (A : Vr α) (A' : Vr α') (R : Vr β) : Rp (α → α' → Option β) where
  n := 1
  rd w O cs f := ∃ v, cs = [v] ∧ (∃ fn first cap, v = .func fn first cap) ∧ CallsTo2 P w O v A A' R f
  len := fun ⟨_, h, _⟩ => by rw [h]; rfl
  one := fun ⟨v, h, ⟨fn, first, cap, h2⟩, _⟩ => by subst h; subst h2; simp [Value.oneCell']
  step := fun s ⟨v, h, h2, h3⟩ => ⟨v, h, h2, h3.step s⟩
def vFv1 {α β : Type} (P : Program) (A : Vr α) (R : Vr β) : Vr (α → Option β) := ⟨fun w O v f => CallsTo1 P w O v A R f, fun s h => h.step s⟩
def vFv2 {α α' β : Type} (P : Program) (A : Vr α) (A' : Vr α') (R : Vr β) : Vr (α → α' → Option β) := ⟨fun w O v f => CallsTo2 P w O v A A' R f, fun s h => h.step s⟩
section
variable {α α' β : Type} {P : Program} {w : World} {O : List Nat} {A : Vr α} {A' : Vr α'} {R : Vr β}
theorem mk_fv1 {f : α → Option β} {fn : Go.Fn} {first cap : Array Value} (h : CallsTo1 P w O (.func fn first cap) A R f) : (rFv1 P A R).rd w O [.func fn first cap] f := ⟨_, rfl, ⟨_, _, _, rfl⟩, h⟩
theorem un_fv1 {f : α → Option β} {v : Value} (h : (rFv1 P A R).rd w O [v] f) : (∃ fn first cap, v = .func fn first cap) ∧ CallsTo1 P w O v A R f := by obtain ⟨v', h1, h2⟩ := h; cases h1; exact h2
theorem mk_fv2 {f : α → α' → Option β} {fn : Go.Fn} {first cap : Array Value} (h : CallsTo2 P w O (.func fn first cap) A A' R f) : (rFv2 P A A' R).rd w O [.func fn first cap] f := ⟨_, rfl, ⟨_, _, _, rfl⟩, h⟩
theorem un_fv2 {f : α → α' → Option β} {v : Value} (h : (rFv2 P A A' R).rd w O [v] f) : (∃ fn first cap, v = .func fn first cap) ∧ CallsTo2 P w O v A A' R f := by obtain ⟨v', h1, h2⟩ := h; cases h1; exact h2
end
section
variable {P : Program} {r : Option Nat} {ρ : Env} {w : World} {d : Option Nat} {ty : TypeId} {pos : String} {aft : Array Edge} {g : Option (Nat × Bool)} {V : Value → World → Prop}
variable {w0 : Zx} {O0 : List Nat} {bs bs' : Ents} {x y : Operand} {t u : TypeId} {td : TypeDesc} {n b : Nat} {z : List Value} {ag : Bool}
theorem run_equalIn_func_nil (d : Nat) {t : TypeId} {u1 u2 : Array TypeId} {vr : Bool} (hu : P.underlying t = some (.func u1 u2 vr)) : (Op.equalIn (d + 1) t .nilFunc .nilFunc).run P w = .ok true w := by
  simp [Op.equalIn, run_underlying hu]
theorem run_equalIn_func_some (d : Nat) {t : TypeId} {u1 u2 : Array TypeId} {vr : Bool} (fn : Go.Fn) (first cap : Array Value) (hu : P.underlying t = some (.func u1 u2 vr)) : (Op.equalIn (d + 1) t (.func fn first cap) .nilFunc).run P w = .ok false w := by
  simp [Op.equalIn, run_underlying hu]
/-- held against nil -/
theorem op_nilF {α β : Type} {O : List Nat} {A : Vr α} {R : Vr β} {f : Option (α → Option β)} {fv : Value} {u1 u2 : Array TypeId} {vr : Bool} (hu : P.underlying t = some (.func u1 u2 vr)) (hx : ev ρ x = fv) (hf : CallsO1 P w O fv A R f) (hy : ev ρ y = .nilFunc) (h : V (.bool f.isSome) w) :
    Run1 P r ρ w ⟨d, .binOp .neq t x y u, ty, pos, aft, g⟩ V := by
  refine run1_value (v := .bool f.isSome) (by simp) ?_ h
  rcases hf with ⟨rfl, rfl⟩ | ⟨_, fn, first, cap, rfl, rfl, _⟩
  · simp [execOp, hx, hy, eqGuard, binOp, Op.equal, Op.maxDepth, run_equalIn_func_nil 9999 hu]
  · simp [execOp, hx, hy, eqGuard, binOp, Op.equal, Op.maxDepth, run_equalIn_func_some 9999 fn first cap hu]
/-- append(nil, make([]E, m)...) -/
theorem op_appendZ {α : Type} {q : Rp α} {e ti : TypeId} {bt : Nat} {tz : List Value} {ta : Bool} {m : Int} (T : Ty P t (.slice e) 1 bt tz ta) (E : Ty P e td n b z ag) (hqn : q.n = n) (hti : P.underlying ti = some (.int .i64)) (hs : St w0 O0 w bs)
    (hx : ev ρ x = .slice none 0 0) (hy : ev ρ y = .int .i64 m) (hm : InK .i64 m) (h0 : 0 < m) (hb : m * b ≤ 281474976710656)
    (k : ∀ bl c o w', m.toNat ≤ c → Step (ks bs O0) w (ks ((some bl, o) :: bs) O0) w' → St w0 O0 w' ((some bl, o) :: bs) → Gs q e w' (ks ((some bl, o) :: bs) O0) (some ⟨bl, 0, none⟩) c ([] : List α) (some bl) o → V (.slice (some ⟨bl, 0, none⟩) m.toNat c) w') :
    Run1 P r ρ w ⟨d, .call ⟨.builtin .append, #[x, y], #[t, ti]⟩, ty, pos, aft, g⟩ V := by
  obtain ⟨inf, hi1, hi2, hi3, zv, hi4, hi5⟩ := E.info
  have hzl : zv.cells.size = n := by rw [hi5]; simpa using E.zl
  have hw : IntKind.i64.wrap m = m := wrap_i64 (by have := hm.1; simp [IntKind.min, IntKind.signed, IntKind.bits] at this; omega) (by have := hm.2; simp [IntKind.max, IntKind.signed, IntKind.bits] at this; omega)
  obtain ⟨mn, rfl⟩ : ∃ mn : Nat, m = mn := ⟨m.toNat, by omega⟩
  have hmx : (mn : Int) ≤ 9223372036854775807 := by have := hm.2; simp [IntKind.max, IntKind.signed, IntKind.bits] at this; omega
  have h0' : 0 < mn := by omega
  have e1 : (mn : Int).toNat = mn := Int.toNat_natCast mn
  rw [e1] at k
  obtain ⟨o', ho'⟩ : ∃ o', o' = Obj.cells ((if mn * inf.size = 0 then #[] else Builtin.zeroCells zv.cells mn) ++ Builtin.zeroCells zv.cells (grownCap w mn 0 e - mn)) e := ⟨_, rfl⟩
  have hge := grownCap_ge w mn 0 e
  have hcm := grownCap_le_maxLen w mn 0 e (by simp [maxLen]; omega)
  have hr : (Builtin.append_ #[t, ti] ty #[.slice none 0 0, .int .i64 mn]).run P w = .ok (.slice (some ⟨w.heap.size, 0, none⟩) mn (grownCap w mn 0 e)) (w.drew.alloc o') := by
    have hn : mn ≠ 0 := by omega
    have a1 : ¬ (mn : Int) < 0 := by omega
    have a2 : ¬ (281474976710656 < (mn : Int) * inf.bytes) := by rw [hi3]; omega
    have a3 : ¬ (9223372036854775807 < (mn : Int)) := by omega
    have a4 : ¬ (281474976710656 < Builtin.nextslicecap mn 0 * inf.bytes) := by rw [nextslicecap_zero h0', hi3]; omega
    subst ho'
    by_cases hz : mn * inf.size = 0
    · simp [Builtin.append_, T.runU, run_underlying hti, sizeOf, typeInfo, zeroValue, hi1, hi4, asInt, asIntOf, hw, hn, a1, a2, a3, a4, hz, Question.forced, run_firstCells_none, newRow, grownCap]
    · simp [Builtin.append_, T.runU, run_underlying hti, sizeOf, typeInfo, zeroValue, hi1, hi4, asInt, asIntOf, hw, hn, a1, a2, a3, a4, hz, Question.forced, run_firstCells_none, newRow, grownCap]
  have hs1 := hs.ghost default
  obtain ⟨h1, h2⟩ := hs1.extend (i := 0) rfl o'
  rw [ks_ghost] at h2
  have hG : Gs q e (w.drew.alloc o') (ks ((some w.heap.size, o') :: bs) O0) (some ⟨w.heap.size, 0, none⟩) (grownCap w mn 0 e) ([] : List α) (some w.heap.size) o' := by
    subst ho'
    refine Gs.made ?_ (by simp) hcm ?_
    · simp only [Array.size_append, size_zeroCells, hzl, hqn]
      by_cases hz : mn * inf.size = 0
      · rw [if_pos hz]
        have : n = 0 := by rw [← hi2]; rcases Nat.mul_eq_zero.1 hz with h | h <;> omega
        simp [this]
      · rw [if_neg hz, size_zeroCells, hzl, ← Nat.add_mul]; congr 1; omega
    · simp [Els]
  refine run1_value (by simp) ?_ (k _ _ _ _ hge h2 h1 hG)
  simp [execOp, resolve, invoke, builtin, hx, hy, hr]
theorem op_appendPX {α : Type} {q : Rp α} {xs ys : List α} {e : TypeId} {a a2 : Option Addr} {c2 bt : Nat} {tz : List Value} {ta : Bool} {news : List Value}
    (T : Ty P t (.slice e) 1 bt tz ta) (E : Ty P e td n b z ag) (hqn : q.n = n) (h0 : 0 < n) (hs : St w0 O0 w bs)
    (hx : ev ρ x = .slice a xs.length xs.length) (hG : SlR q w (ks bs O0) a xs.length xs) (hy : ev ρ y = .slice a2 ys.length c2) (hS : Src w a2 news) (hE : Els q w (ks bs O0) news ys) (hys : 0 < ys.length)
    (hb : (xs.length + ys.length) * b ≤ 140737488355328) (h63 : xs.length + ys.length ≤ maxLen)
    (k : ∀ a' c' w', Ext w w' → Step (ks bs O0) w (ks bs O0) w' → St w0 O0 w' bs → SlR q w' (ks bs O0) a' c' (xs ++ ys) → V (.slice a' (xs ++ ys).length c') w') :
    Run1 P r ρ w ⟨d, .call ⟨.builtin .append, #[x, y], #[t, t]⟩, ty, pos, aft, g⟩ V := by
  obtain ⟨ti, hi1, hi2, hi3, zv, hi4, hi5⟩ := E.info
  have hlen := hE.len
  rw [hqn, ← hi2] at hlen
  have h63' : xs.length + ys.length ≤ 9223372036854775807 := by simpa [maxLen] using h63
  have hzl : zv.cells.size = n := by rw [hi5]; simpa using E.zl
  have hnn : news ≠ [] := fun hn => by
    rw [hn, List.length_nil] at hlen
    have : 0 < ys.length * ti.size := Nat.mul_pos hys (by omega)
    omega
  obtain ⟨ad, ha2, hnews⟩ := hS.resolve_left hnn
  subst ha2
  have hs1 := hs.ghost default
  have fresh : ∀ (old : Nat) (olds : List Value), Els q w (ks bs O0) olds xs →
      let o' := Obj.cells (olds.toArray ++ news.toArray ++ Builtin.zeroCells zv.cells (grownCap w (xs.length + ys.length) old e - (xs.length + ys.length))) e
      Ext w (w.drew.alloc o') ∧ Step (ks bs O0) w (ks bs O0) (w.drew.alloc o') ∧ St w0 O0 (w.drew.alloc o') bs ∧
      SlR q (w.drew.alloc o') (ks bs O0) (some ⟨w.heap.size, 0, none⟩) (grownCap w (xs.length + ys.length) old e) (xs ++ ys) := by
    intro old olds hol o'
    obtain ⟨h1, h2⟩ := hs1.extend (i := 0) rfl o'
    have hge := grownCap_ge w (xs.length + ys.length) old e
    have hcm := grownCap_le_maxLen w (xs.length + ys.length) old e h63
    have hlo := hol.len
    have hE' : Els q w (ks bs O0) (olds ++ news) (xs ++ ys) := hol.append hE
    have h2' : Step (ks bs O0) w (ks ((some w.heap.size, o') :: bs) O0) (w.drew.alloc o') := by
      have := h2; rw [ks_ghost] at this; exact this
    have hG' : Gs q e (w.drew.alloc o') (ks ((some w.heap.size, o') :: bs) O0) (some ⟨w.heap.size, 0, none⟩) (grownCap w (xs.length + ys.length) old e) (xs ++ ys) (some w.heap.size) o' := by
      refine Gs.made ?_ (by simpa using hge) hcm ?_
      · simp only [Array.size_append, List.size_toArray, size_zeroCells, hzl, hlo, hlen, hqn, hi2, ← Nat.add_mul]
        congr 1; omega
      · have e1 : (olds.toArray ++ news.toArray ++ Builtin.zeroCells zv.cells (grownCap w (xs.length + ys.length) old e - (xs.length + ys.length))).toList.take ((xs ++ ys).length * q.n) = olds ++ news := by
          have : (xs ++ ys).length * q.n = (olds ++ news).length := by rw [hE'.len]
          rw [this]
          simp only [Array.toList_append, List.append_assoc]
          rw [← List.append_assoc, List.take_left]
        rw [e1]; exact hE'.step h2'
    obtain ⟨p1, p2, p3⟩ := Gs.publish (i := 0) h1 rfl hG'
    exact ⟨(Ext.drew w).trans (Ext.alloc w.drew o'), h2'.trans p2, p1, p3⟩
  have main : ∃ a' c' w', (Builtin.append_ #[t, t] ty #[.slice a xs.length xs.length, .slice (some ad) ys.length c2]).run P w = .ok (.slice a' (xs ++ ys).length c') w' ∧
      Ext w w' ∧ Step (ks bs O0) w (ks bs O0) w' ∧ St w0 O0 w' bs ∧ SlR q w' (ks bs O0) a' c' (xs ++ ys) := by
    cases a with
    | none =>
      have hx0 := (hG.nil rfl).1
      subst hx0
      have hr := run_append_nil (P := P) (w := w) t ty e ti zv T.und hi1 hi4 ad ys.length c2 news hlen hnews hys (by simp at h63'; omega) (by rw [hi3]; simp at hb; omega)
      have hf := fresh 0 [] rfl
      simp only [List.length_nil, Nat.zero_add, List.nil_append, Array.empty_append] at hf ⊢
      exact ⟨_, _, _, hr, hf⟩
    | some ad0 =>
      obtain ⟨olds, ho1, ho2⟩ := hG.cells
      have hlo : olds.length = xs.length * ti.size := by rw [ho1.len, hqn, hi2]
      have hr := run_append_grow (P := P) (w := w) t ty e ti zv T.und hi1 hi4 ad0 xs.length xs.length olds hlo ho2 ad ys.length c2 news hlen hnews (by omega) (by omega)
        (growslice_fits (by omega) (by rw [hi3]; exact hb))
      exact ⟨_, _, _, by rw [List.length_append]; exact hr, fresh _ olds ho1⟩
  obtain ⟨a', c', w', hr, h0, h1, h2, h3⟩ := main
  refine run1_value (by simp) ?_ (k a' c' w' h0 h1 h2 h3)
  simp [execOp, resolve, invoke, builtin, hx, hy, hr]
/-- a slice cut to nothing keeps its capacity -/
theorem op_slice0 {bl len c bt : Nat} {tz : List Value} {ta : Bool} {e : TypeId} {hi : Option Operand} (T : Ty P t (.slice e) 1 bt tz ta) (E : Ty P e td n b z ag)
    (hx : ev ρ x = .slice (some ⟨bl, 0, none⟩) len c) (hh : Bnd ρ hi len 0) (k : V (.slice (some ⟨bl, 0, none⟩) 0 c) w) : Run1 P r ρ w ⟨d, .slice t x none hi none, ty, pos, aft, g⟩ V := by
  refine op_sliceO (l := 0) (h := 0) (m := c) T E hx rfl hh rfl (by simp) (Nat.le_refl _) (Nat.zero_le _) (Nat.le_refl _) ?_
  have : (if c = 0 then (0 : Nat) else 0 + 0 * n) = 0 := by split <;> simp
  simpa [this] using k
theorem op_sliceNil {bt : Nat} {tz : List Value} {ta : Bool} {e : TypeId} {hi : Option Operand} (T : Ty P t (.slice e) 1 bt tz ta) (E : Ty P e td n b z ag)
    (hx : ev ρ x = .slice none 0 0) (hh : Bnd ρ hi 0 0) (k : V (.slice none 0 0) w) : Run1 P r ρ w ⟨d, .slice t x none hi none, ty, pos, aft, g⟩ V := by
  refine run1_value (by simp) ?_ k
  have hb := run_sliceBounds (P := P) (w := w) (ρ := ρ) (lo := none) (hi := hi) (mx := none) (l := 0) (h := 0) (m := 0) (len := 0) (cap := 0) (is := true) rfl hh rfl (Nat.le_refl _) (Nat.le_refl _) (Nat.le_refl _) (by simp)
  simp only [execOp, hx, Instr.sliceAt, Sem.run_bind, T.runU, Result.andThen_ok, Instr.slice, hb, E.runSize, Sem.run_pure]
  simp
theorem op_cap0 {e : TypeId} {a : Option Addr} {l c : Nat} (hu : P.underlying t = some (.slice e)) (hx : ev ρ x = .slice a l c) (h : V (.int .i64 (c : Nat)) w) : Run1 P r ρ w ⟨d, .call ⟨.builtin .cap, #[x], #[t]⟩, ty, pos, aft, g⟩ V := by
  refine run1_value (by simp) ?_ h
  simp [execOp, resolve, invoke, builtin, hx, Builtin.cap_, run_underlying hu, goInt]
end
end Go.Fx


/- Maps with integer keys and scalar elements: models (sorted lists of pairs), what stands in memory, one lemma an operation. No program in sight. -/
set_option linter.unusedSimpArgs false
set_option linter.unusedVariables false
namespace Go.Fx
open Go Go.RowKit

/-! models -/
section model
variable {V : Type}
def mget : List (Int × V) → Int → Option V
  | [], _ => none
  | (k, v) :: t, n => if k = n then some v else mget t n
def mput : List (Int × V) → Int → V → List (Int × V)
  | [], n, x => [(n, x)]
  | (k, v) :: t, n, x => if n < k then (n, x) :: (k, v) :: t else if n = k then (n, x) :: t else (k, v) :: mput t n x
def mdel (l : List (Int × V)) (n : Int) : List (Int × V) := l.filter fun p => !decide (p.1 = n)
/-- keys rise -/
def Ris (l : List (Int × V)) : Prop := l.Pairwise fun p q => p.1 < q.1
theorem mget_put (l : List (Int × V)) (n m : Int) (x : V) : mget (mput l n x) m = if n = m then some x else mget l m := by
  induction l with
  | nil => simp [mput, mget]
  | cons p t ih =>
    obtain ⟨k, v⟩ := p
    unfold mput
    by_cases h1 : n < k
    · simp only [h1, if_true, mget]
    · by_cases h2 : n = k
      · subst h2; simp only [Int.lt_irrefl, if_false, if_true, mget]; split <;> rfl
      · simp only [h1, h2, if_false, mget, ih]
        by_cases h3 : k = m
        · have : ¬ n = m := fun e => h2 (e.trans h3.symm)
          simp [h3, this]
        · simp [h3]
theorem mget_none {l : List (Int × V)} {n : Int} (h : mget l n = none) : ∀ p ∈ l, p.1 ≠ n := by
  induction l with
  | nil => intro p hp; cases hp
  | cons q t ih =>
    obtain ⟨k, v⟩ := q
    unfold mget at h
    split at h
    · cases h
    · rename_i hk
      intro p hp
      rcases List.mem_cons.1 hp with e | hp
      · subst e; exact hk
      · exact ih h p hp
theorem mget_some {l : List (Int × V)} {n : Int} {x : V} (h : mget l n = some x) : (n, x) ∈ l := by
  induction l with
  | nil => cases h
  | cons q t ih =>
    obtain ⟨k, v⟩ := q
    unfold mget at h
    split at h
    · rename_i hk; subst hk; cases h; simp
    · exact List.mem_cons_of_mem _ (ih h)
theorem mget_of {l : List (Int × V)} (hr : Ris l) {n : Int} {x : V} (h : (n, x) ∈ l) : mget l n = some x := by
  induction l with
  | nil => cases h
  | cons q t ih =>
    obtain ⟨k, v⟩ := q
    have hr' := List.pairwise_cons.1 hr
    unfold mget
    rcases List.mem_cons.1 h with e | h
    · cases e; simp
    · have := hr'.1 _ h
      simp only at this
      rw [if_neg (by omega)]; exact ih hr'.2 h
theorem mput_mem {l : List (Int × V)} (hr : Ris l) (n : Int) (x : V) (p : Int × V) : p ∈ mput l n x ↔ p = (n, x) ∨ (p ∈ l ∧ p.1 ≠ n) := by
  induction l with
  | nil => simp [mput]
  | cons q t ih =>
    obtain ⟨k, v⟩ := q
    have hr' := List.pairwise_cons.1 hr
    unfold mput
    by_cases h1 : n < k
    · simp only [h1, if_true, List.mem_cons]
      constructor
      · rintro (h | h | h)
        · exact .inl h
        · subst h; exact .inr ⟨.inl rfl, by simp only; omega⟩
        · exact .inr ⟨.inr h, by have := hr'.1 p h; simp only at this; omega⟩
      · rintro (h | ⟨h | h, _⟩)
        · exact .inl h
        · exact .inr (.inl h)
        · exact .inr (.inr h)
    · by_cases h2 : n = k
      · subst h2
        simp only [Int.lt_irrefl, if_false, if_true, List.mem_cons]
        constructor
        · rintro (h | h)
          · exact .inl h
          · exact .inr ⟨.inr h, by have := hr'.1 p h; simp only at this; omega⟩
        · rintro (h | ⟨h | h, h'⟩)
          · exact .inl h
          · subst h; exact absurd rfl h'
          · exact .inr h
      · simp only [h1, h2, if_false, List.mem_cons, ih hr'.2]
        constructor
        · rintro (h | h | ⟨h, h'⟩)
          · subst h; exact .inr ⟨.inl rfl, by simp only; omega⟩
          · exact .inl h
          · exact .inr ⟨.inr h, h'⟩
        · rintro (h | ⟨h | h, h'⟩)
          · exact .inr (.inl h)
          · exact .inl h
          · exact .inr (.inr ⟨h, h'⟩)
theorem mput_ris {l : List (Int × V)} (hr : Ris l) (n : Int) (x : V) : Ris (mput l n x) := by
  induction l with
  | nil => simp [mput, Ris]
  | cons q t ih =>
    obtain ⟨k, v⟩ := q
    have hr' := List.pairwise_cons.1 hr
    unfold mput
    by_cases h1 : n < k
    · simp only [h1, if_true]
      refine List.pairwise_cons.2 ⟨fun p hp => ?_, hr⟩
      rcases List.mem_cons.1 hp with e | hp
      · subst e; exact h1
      · have := hr'.1 p hp; simp only at this ⊢; omega
    · by_cases h2 : n = k
      · subst h2
        simp only [Int.lt_irrefl, if_false, if_true]
        exact List.pairwise_cons.2 ⟨fun p hp => hr'.1 p hp, hr'.2⟩
      · simp only [h1, h2, if_false]
        refine List.pairwise_cons.2 ⟨fun p hp => ?_, ih hr'.2⟩
        rcases (mput_mem hr'.2 n x p).1 hp with e | ⟨hp, _⟩
        · subst e; simp only; omega
        · exact hr'.1 p hp
theorem ris_nodup {l : List (Int × V)} (hr : Ris l) : l.Nodup := List.Pairwise.imp (fun {a b} h e => by subst e; omega) hr
theorem mdel_ris {l : List (Int × V)} (hr : Ris l) (n : Int) : Ris (mdel l n) := List.Pairwise.filter _ hr
theorem mget_del {l : List (Int × V)} (n m : Int) : mget (mdel l n) m = if n = m then none else mget l m := by
  induction l with
  | nil => simp [mdel, mget]
  | cons q t ih =>
    obtain ⟨k, v⟩ := q
    unfold mdel at ih ⊢
    by_cases h : k = n
    · subst h
      rw [List.filter_cons_of_neg (by simp), ih, mget]
      by_cases h2 : k = m <;> simp [h2]
    · rw [List.filter_cons_of_pos (by simp [h]), mget, ih, mget]
      by_cases h2 : k = m
      · have : ¬ n = m := fun e => h (h2.trans e.symm)
        simp [h2, this]
      · simp [h2]
/-- two maps are one if they answer alike -/
theorem mget_ext {l m : List (Int × V)} (hl : Ris l) (hm : Ris m) (h : ∀ n, mget l n = mget m n) : l = m := by
  refine List.Perm.eq_of_pairwise (le := fun p q => p.1 < q.1) ?_ (show l.Pairwise (fun p q => p.1 < q.1) from hl) (show m.Pairwise (fun p q => p.1 < q.1) from hm) ((List.perm_ext_iff_of_nodup (ris_nodup hl) (ris_nodup hm)).2 fun p => ?_)
  · intro a b _ _ h1 h2; omega
  · constructor
    · intro hp; exact mget_some ((h p.1).symm.trans (mget_of hl hp))
    · intro hp; exact mget_some ((h p.1).trans (mget_of hm hp))
end model

/-! what stands in memory -/
/-- elements: how they stand as values, what is known of them -/
structure Mv (V : Type) where
  enc : V → Value
  ok : V → Prop
def mvI (q : IntKind) : Mv Int := ⟨Value.int q, InK q⟩
def mvB : Mv Bool := ⟨Value.bool, fun _ => True⟩
/-- the entries of a map with keys of kind q, as they stand: key, element, birth -/
structure MapIs {V : Type} (q : IntKind) (m : Mv V) (es : Array MapEntry) (clock : Nat) (l : List (Int × V × Nat)) : Prop where
  eq : es.toList = l.map fun e => (⟨.int q e.1, m.enc e.2.1, e.2.2⟩ : MapEntry)
  born : l.Pairwise fun e f => e.2.2 < f.2.2
  lt : ∀ e ∈ l, e.2.2 < clock
  ok : ∀ e ∈ l, InK q e.1 ∧ m.ok e.2.1
/-- object o holds the map xs -/
def Mo {V : Type} (q : IntKind) (m : Mv V) (o : Obj) (xs : List (Int × V)) : Prop :=
  ∃ es clock l, o = .map es clock ∧ MapIs q m es clock l ∧ (l.Pairwise fun e f => e.1 ≠ f.1) ∧ (∀ n x, (∃ b, (n, x, b) ∈ l) ↔ (n, x) ∈ xs) ∧ Ris xs
section mem
variable {V : Type} {q : IntKind} {m : Mv V} {o : Obj} {xs : List (Int × V)}
theorem Mo.nil_ : Mo q m (.map #[] 0) ([] : List (Int × V)) := ⟨#[], 0, [], rfl, ⟨rfl, List.Pairwise.nil, by simp, by simp⟩, List.Pairwise.nil, by simp, List.Pairwise.nil⟩
theorem Mo.ris (h : Mo q m o xs) : Ris xs := by obtain ⟨_, _, _, _, _, _, _, h⟩ := h; exact h
theorem Mo.okOf (h : Mo q m o xs) {n : Int} {x : V} (hx : mget xs n = some x) : InK q n ∧ m.ok x := by
  obtain ⟨es, clock, l, _, hM, _, hp, hr⟩ := h
  obtain ⟨b, hb⟩ := (hp n x).2 (mget_some hx)
  exact hM.ok _ hb
theorem Mo.ok (h : Mo q m o xs) {n : Int} {z : V} (hz : m.ok z) : m.ok ((mget xs n).getD z) := by
  cases hg : mget xs n with
  | none => exact hz
  | some x => exact (h.okOf hg).2
theorem findNow_none (l : List (Int × V × Nat)) {n : Int} (h : ∀ e ∈ l, e.1 ≠ n) : ∀ i, Instr.findNow (.int q) (.int q n) (l.map fun e => (⟨.int q e.1, m.enc e.2.1, e.2.2⟩ : MapEntry)) i = some none := by
  induction l with
  | nil => intro i; rfl
  | cons e t ih =>
    intro i
    have : ¬ n = e.1 := fun h' => h e (by simp) h'.symm
    simp only [List.map_cons, Instr.findNow, Instr.sameNow, if_true]
    rw [show (n == e.1) = false from by simpa using this]
    exact ih (fun f hf => h f (by simp [hf])) (i + 1)
theorem findNow_some (l1 l2 : List (Int × V × Nat)) {n : Int} {x : V} {b : Nat} (h : ∀ e ∈ l1, e.1 ≠ n) : ∀ i, Instr.findNow (.int q) (.int q n) ((l1 ++ (n, x, b) :: l2).map fun e => (⟨.int q e.1, m.enc e.2.1, e.2.2⟩ : MapEntry)) i = some (some (i + l1.length, m.enc x)) := by
  induction l1 with
  | nil => intro i; simp [Instr.findNow, Instr.sameNow]
  | cons e t ih =>
    intro i
    have : ¬ n = e.1 := fun h' => h e (by simp) h'.symm
    simp only [List.cons_append, List.map_cons, Instr.findNow, Instr.sameNow, if_true]
    rw [show (n == e.1) = false from by simpa using this]
    simp only
    rw [ih (fun f hf => h f (by simp [hf])) (i + 1)]
    simp; omega
theorem split_key {l : List (Int × V × Nat)} (hd : l.Pairwise fun e f => e.1 ≠ f.1) {n : Int} {x : V} {b : Nat} (h : (n, x, b) ∈ l) : ∃ l1 l2, l = l1 ++ (n, x, b) :: l2 ∧ (∀ e ∈ l1, e.1 ≠ n) ∧ ∀ e ∈ l2, e.1 ≠ n := by
  obtain ⟨l1, l2, rfl⟩ := List.append_of_mem h
  rw [List.pairwise_append] at hd
  refine ⟨l1, l2, rfl, fun e he => hd.2.2 e he (n, x, b) (by simp), fun e he => ?_⟩
  exact fun h' => (List.pairwise_cons.1 hd.2.1).1 e he h'.symm
variable {P : Program} {w : World}
theorem run_goM {r : Nat} {es : Array MapEntry} {clock : Nat} (h : w.heap[r]? = some (.map es clock)) : (getObj r).run P w = .ok (.map es clock) w := by simp [getObj, Sem.run, h]
theorem run_soM {r : Nat} {es : Array MapEntry} {clock : Nat} (o : Obj) (h : w.heap[r]? = some (.map es clock)) : (setObj r o).run P w = .ok () (w.putObj r o) := by simp [setObj, Sem.run, h, World.putObj]
theorem run_checkKey_int {kt : TypeId} (hk : P.underlying kt = some (.int q)) (e : Bool) (n : Int) : (Instr.checkKey e 10000 kt (.int q n)).run P w = .ok () w := by
  have : ∀ d, (Instr.checkKey e (d + 1) kt (.int q n)).run P w = .ok () w := fun d => by simp [Instr.checkKey, run_underlying hk]
  exact this 9999
theorem run_findKey {kt : TypeId} (hk : P.underlying kt = some (.int q)) {n : Int} {es : List MapEntry} {r : Option (Nat × Value)} (h : Instr.findNow (.int q) (.int q n) es 0 = some r) : (Instr.findKey kt (.int q n) es).run P w = .ok r w := by
  simp [Instr.findKey, run_underlying hk, h]
theorem modify_mid {α : Type} (f : α → α) (a : α) (l2 : List α) : ∀ l1 : List α, (l1 ++ a :: l2).modify l1.length f = l1 ++ f a :: l2
  | [] => rfl
  | x :: l1 => by simp [modify_mid f a l2 l1]
theorem run_stays {n : Int} : (Instr.keyThatStays (.int q n) (.int q n)).run P w = .ok (.int q n) w := by
  have : Instr.sameBits 10000 (.int q n) (.int q n) = true := by
    have : ∀ d, Instr.sameBits (d + 1) (.int q n) (.int q n) = true := fun d => by simp [Instr.sameBits]
    exact this 9999
  simp [Instr.keyThatStays, this]
/-- an entry takes an element -/
theorem Mo.turn {es : Array MapEntry} {clock : Nat} {l1 l2 : List (Int × V × Nat)} {n : Int} {x v : V} {b : Nat} (hM : MapIs q m es clock (l1 ++ (n, x, b) :: l2)) (hd : (l1 ++ (n, x, b) :: l2).Pairwise fun e f => e.1 ≠ f.1)
    (hp : ∀ k y, (∃ b', (k, y, b') ∈ l1 ++ (n, x, b) :: l2) ↔ (k, y) ∈ xs) (hr : Ris xs) (hv : m.ok v) {es' : Array MapEntry} (he : es'.toList = (l1 ++ (n, v, b) :: l2).map fun e => (⟨.int q e.1, m.enc e.2.1, e.2.2⟩ : MapEntry)) : Mo q m (.map es' clock) (mput xs n v) := by
  have h1 := hM.born
  have h2 := hM.lt
  have h3 := hM.ok
  have hd' := hd
  rw [List.pairwise_append] at h1 hd
  refine ⟨es', clock, l1 ++ (n, v, b) :: l2, rfl, ⟨he, ?_, ?_, ?_⟩, ?_, ?_, mput_ris hr n v⟩
  · rw [List.pairwise_append]
    refine ⟨h1.1, ?_, fun e he f hf => ?_⟩
    · have := List.pairwise_cons.1 h1.2.1
      exact List.pairwise_cons.2 ⟨fun f hf => this.1 f hf, this.2⟩
    · rcases List.mem_cons.1 hf with e1 | hf
      · subst e1; exact h1.2.2 e he (n, x, b) (by simp)
      · exact h1.2.2 e he f (by simp [hf])
  · intro e he
    rcases List.mem_append.1 he with h | h
    · exact h2 e (by simp [h])
    · rcases List.mem_cons.1 h with e1 | h
      · subst e1; exact h2 (n, x, b) (by simp)
      · exact h2 e (by simp [h])
  · intro e he
    rcases List.mem_append.1 he with h | h
    · exact h3 e (by simp [h])
    · rcases List.mem_cons.1 h with e1 | h
      · subst e1; exact ⟨(h3 (n, x, b) (by simp)).1, hv⟩
      · exact h3 e (by simp [h])
  · rw [List.pairwise_append]
    refine ⟨hd.1, ?_, fun e he f hf => ?_⟩
    · have := List.pairwise_cons.1 hd.2.1
      exact List.pairwise_cons.2 ⟨fun f hf => this.1 f hf, this.2⟩
    · rcases List.mem_cons.1 hf with e1 | hf
      · subst e1; exact hd.2.2 e he (n, x, b) (by simp)
      · exact hd.2.2 e he f (by simp [hf])
  · intro k y
    rw [mput_mem hr]
    have hn1 : ∀ e ∈ l1, e.1 ≠ n := fun e he => hd.2.2 e he (n, x, b) (by simp)
    have hn2 : ∀ e ∈ l2, e.1 ≠ n := fun e he h' => (List.pairwise_cons.1 hd.2.1).1 e he h'.symm
    constructor
    · rintro ⟨b', hb'⟩
      rcases List.mem_append.1 hb' with h | h
      · exact .inr ⟨(hp k y).1 ⟨b', by simp [h]⟩, hn1 _ h⟩
      · rcases List.mem_cons.1 h with e1 | h
        · cases e1; exact .inl rfl
        · exact .inr ⟨(hp k y).1 ⟨b', by simp [h]⟩, hn2 _ h⟩
    · rintro (e1 | ⟨h, hk⟩)
      · cases e1; exact ⟨b, by simp⟩
      · obtain ⟨b', hb'⟩ := (hp k y).2 h
        rcases List.mem_append.1 hb' with h | h
        · exact ⟨b', by simp [h]⟩
        · rcases List.mem_cons.1 h with e1 | h
          · cases e1; exact absurd rfl hk
          · exact ⟨b', by simp [h]⟩
/-- a new entry -/
theorem Mo.push {es : Array MapEntry} {clock : Nat} {l : List (Int × V × Nat)} {n : Int} {v : V} (hM : MapIs q m es clock l) (hd : l.Pairwise fun e f => e.1 ≠ f.1)
    (hp : ∀ k y, (∃ b', (k, y, b') ∈ l) ↔ (k, y) ∈ xs) (hr : Ris xs) (hg : mget xs n = none) (hn : InK q n) (hv : m.ok v) : Mo q m (.map (es.push ⟨.int q n, m.enc v, clock⟩) (clock + 1)) (mput xs n v) := by
  have hno : ∀ e ∈ l, e.1 ≠ n := fun e he => mget_none hg (e.1, e.2.1) ((hp e.1 e.2.1).1 ⟨e.2.2, he⟩)
  refine ⟨_, _, l ++ [(n, v, clock)], rfl, ⟨by simp [hM.eq], ?_, ?_, ?_⟩, ?_, ?_, mput_ris hr n v⟩
  · rw [List.pairwise_append]; exact ⟨hM.born, by simp, fun e he f hf => by simp at hf; subst hf; exact hM.lt e he⟩
  · intro e he; simp at he; rcases he with h | h
    · have := hM.lt e h; omega
    · subst h; simp
  · intro e he; simp at he; rcases he with h | h
    · exact hM.ok e h
    · subst h; exact ⟨hn, hv⟩
  · rw [List.pairwise_append]; exact ⟨hd, by simp, fun e he f hf => by simp at hf; subst hf; exact hno e he⟩
  · intro k y
    rw [mput_mem hr]
    constructor
    · rintro ⟨b', hb'⟩
      simp at hb'
      rcases hb' with h | ⟨h1, h2, _⟩
      · exact .inr ⟨(hp k y).1 ⟨b', h⟩, hno _ h⟩
      · exact .inl (by rw [h1, h2])
    · rintro (e1 | ⟨h, hk⟩)
      · cases e1; exact ⟨clock, by simp⟩
      · obtain ⟨b', hb'⟩ := (hp k y).2 h; exact ⟨b', by simp [hb']⟩
variable {t kt e : TypeId}
theorem run_lookup {r : Nat} {n : Int} {z : V} (hu : P.underlying t = some (.map kt e)) (hk : P.underlying kt = some (.int q)) (hz : ∀ w, (zeroValue e).run P w = .ok (m.enc z) w) (hr : w.heap[r]? = some o) (h : Mo q m o xs) (c : Bool) :
    (Instr.lookup t (.map (some r)) (.int q n) c).run P w = .ok (if c then .tuple #[m.enc ((mget xs n).getD z), .bool (mget xs n).isSome] else m.enc ((mget xs n).getD z)) w := by
  obtain ⟨es, clock, l, rfl, hM, hd, hp, hris⟩ := h
  have hfk : (Instr.findKey kt (.int q n) es.toList).run P w = .ok ((mget xs n).map fun x => ((l.findIdx? fun e => e.1 == n).getD 0, m.enc x)) w := by
    cases hg : mget xs n with
    | none =>
      refine run_findKey hk ?_
      rw [hM.eq]
      exact findNow_none l (fun e he => mget_none hg (e.1, e.2.1) ((hp e.1 e.2.1).1 ⟨e.2.2, he⟩)) 0
    | some x =>
      obtain ⟨b, hb⟩ := (hp n x).2 (mget_some hg)
      obtain ⟨l1, l2, rfl, h1, h2⟩ := split_key hd hb
      refine run_findKey hk ?_
      rw [hM.eq, findNow_some l1 l2 h1 0]
      have : (l1 ++ (n, x, b) :: l2).findIdx? (fun e => e.1 == n) = some l1.length := by
        rw [List.findIdx?_append, List.findIdx?_eq_none_iff.2 (fun e he => by simpa using h1 e he)]
        simp [List.findIdx?_cons]
      rw [this]; simp
  simp only [Instr.lookup, Sem.run_bind, run_underlying hu, Result.andThen_ok, run_goM hr, run_checkKey_int hk, hfk]
  cases hg : mget xs n with
  | none => rw [hg] at hfk; cases c <;> simp [hz, hfk]
  | some x => rw [hg] at hfk; cases c <;> simp [hfk]
theorem run_mapUpdate {r : Nat} {n : Int} {v : V} (hu : P.underlying t = some (.map kt e)) (hk : P.underlying kt = some (.int q)) (hr : w.heap[r]? = some o) (h : Mo q m o xs) (hn : InK q n) (hv : m.ok v) :
    ∃ o', (Instr.mapUpdate t (.map (some r)) (.int q n) (m.enc v)).run P w = .ok () (w.putObj r o') ∧ Mo q m o' (mput xs n v) := by
  obtain ⟨es, clock, l, rfl, hM, hd, hp, hris⟩ := h
  cases hg : mget xs n with
  | none =>
    have hf := run_findKey (P := P) (w := w) hk (n := n) (es := es.toList) (r := none) (by rw [hM.eq]; exact findNow_none l (fun e he => mget_none hg (e.1, e.2.1) ((hp e.1 e.2.1).1 ⟨e.2.2, he⟩)) 0)
    refine ⟨_, ?_, Mo.push hM hd hp hris hg hn hv⟩
    simp only [Instr.mapUpdate, Sem.run_bind, run_underlying hu, Result.andThen_ok, run_goM hr, run_checkKey_int hk, hf]
    rw [run_soM _ hr]
  | some x =>
    obtain ⟨b, hb⟩ := (hp n x).2 (mget_some hg)
    obtain ⟨l1, l2, rfl, h1, h2⟩ := split_key hd hb
    have hf := run_findKey (P := P) (w := w) hk (n := n) (es := es.toList) (r := some (l1.length, m.enc x)) (by rw [hM.eq, findNow_some l1 l2 h1 0]; simp)
    have hl : l1.length < es.size := by
      have := congrArg List.length hM.eq; simp at this; omega
    have hge : es[l1.length]? = some ⟨.int q n, m.enc x, b⟩ := by
      have : es.toList[l1.length]? = some ⟨.int q n, m.enc x, b⟩ := by rw [hM.eq]; simp
      simpa using this
    refine ⟨.map (es.modify l1.length fun e => { e with key := .int q n, val := m.enc v }) clock, ?_, Mo.turn hM hd hp hris hv ?_⟩
    · simp only [Instr.mapUpdate, Sem.run_bind, run_underlying hu, Result.andThen_ok, run_goM hr, run_checkKey_int hk, hf, hge, Option.map_some, Option.getD_some, run_stays]
      rw [run_soM _ hr]
    · rw [Array.toList_modify, hM.eq]
      simp only [List.map_append, List.map_cons]
      have := modify_mid (fun e : MapEntry => { e with key := .int q n, val := m.enc v }) (⟨.int q n, m.enc x, b⟩ : MapEntry) (l2.map fun e => (⟨.int q e.1, m.enc e.2.1, e.2.2⟩ : MapEntry)) (l1.map fun e => (⟨.int q e.1, m.enc e.2.1, e.2.2⟩ : MapEntry))
      rw [List.length_map] at this
      exact this
/-- a place for an element that is about to be turned: its stamp -/
def Stm (o : Obj) (q : IntKind) (n : Int) (b : Int) : Prop := ∃ es clock i, o = .map es clock ∧ es.toList.findIdx? (fun e => (e.born : Int) == b) = some i ∧ ∃ v bb, es[i]? = some ⟨.int q n, v, bb⟩
theorem run_mapEntry {r : Nat} {n : Int} {z : V} (hu : P.underlying t = some (.map kt e)) (hk : P.underlying kt = some (.int q)) (hz : ∀ w, (zeroValue e).run P w = .ok (m.enc z) w) (hzo : m.ok z) (hr : w.heap[r]? = some o) (h : Mo q m o xs) (hn : InK q n) :
    ∃ o' b, (Instr.mapEntry t (.map (some r)) (.int q n)).run P w = .ok (.tuple #[m.enc ((mget xs n).getD z), .int .i64 b]) (w.putObj r o') ∧ Mo q m o' (mput xs n ((mget xs n).getD z)) ∧ Stm o' q n b := by
  obtain ⟨es, clock, l, rfl, hM, hd, hp, hris⟩ := h
  have hbx : ∀ (l1 l2 : List (Int × V × Nat)) (y : V) (b : Nat), (l1 ++ (n, y, b) :: l2).Pairwise (fun e f => e.2.2 < f.2.2) →
      ((l1 ++ (n, y, b) :: l2).map fun e => (⟨.int q e.1, m.enc e.2.1, e.2.2⟩ : MapEntry)).findIdx? (fun e => (e.born : Int) == (b : Int)) = some l1.length := by
    intro l1 l2 y b hb
    rw [List.pairwise_append] at hb
    rw [List.map_append, List.findIdx?_append, List.findIdx?_eq_none_iff.2]
    · simp [List.findIdx?_cons]
    · intro e he
      simp only [List.mem_map] at he
      obtain ⟨e', he', rfl⟩ := he
      have : e'.2.2 < b := hb.2.2 e' he' (n, y, b) (by simp)
      simp; omega
  cases hg : mget xs n with
  | none =>
    have hf := run_findKey (P := P) (w := w) hk (n := n) (es := es.toList) (r := none) (by rw [hM.eq]; exact findNow_none l (fun e he => mget_none hg (e.1, e.2.1) ((hp e.1 e.2.1).1 ⟨e.2.2, he⟩)) 0)
    refine ⟨_, clock, ?_, Mo.push hM hd hp hris hg hn hzo, _, _, es.size, rfl, ?_, ?_⟩
    · simp [Instr.mapEntry, run_underlying hu, run_goM hr, run_checkKey_int hk, hf, hz, run_soM _ hr, goInt]
    · have hb := hbx l [] z clock (by rw [List.pairwise_append]; exact ⟨hM.born, by simp, fun e he f hf => by simp at hf; subst hf; exact hM.lt e he⟩)
      have hl : es.size = l.length := by have := congrArg List.length hM.eq; simpa using this
      rw [hl]; simpa [hM.eq] using hb
    · exact ⟨_, _, by simp; exact ⟨rfl, rfl⟩⟩
  | some x =>
    obtain ⟨b, hb⟩ := (hp n x).2 (mget_some hg)
    obtain ⟨l1, l2, rfl, h1, h2⟩ := split_key hd hb
    have hf := run_findKey (P := P) (w := w) hk (n := n) (es := es.toList) (r := some (l1.length, m.enc x)) (by rw [hM.eq, findNow_some l1 l2 h1 0]; simp)
    have hge : es[l1.length]? = some ⟨.int q n, m.enc x, b⟩ := by
      have : es.toList[l1.length]? = some ⟨.int q n, m.enc x, b⟩ := by rw [hM.eq]; simp
      simpa using this
    have hes : (es.modify l1.length fun e => { e with key := .int q n }).toList = (l1 ++ (n, x, b) :: l2).map fun e => (⟨.int q e.1, m.enc e.2.1, e.2.2⟩ : MapEntry) := by
      rw [Array.toList_modify, hM.eq]
      simp only [List.map_append, List.map_cons]
      have := modify_mid (fun e : MapEntry => { e with key := .int q n }) (⟨.int q n, m.enc x, b⟩ : MapEntry) (l2.map fun e => (⟨.int q e.1, m.enc e.2.1, e.2.2⟩ : MapEntry)) (l1.map fun e => (⟨.int q e.1, m.enc e.2.1, e.2.2⟩ : MapEntry))
      rw [List.length_map] at this
      exact this
    refine ⟨.map (es.modify l1.length fun e => { e with key := .int q n }) clock, b, ?_, Mo.turn hM hd hp hris (hM.ok (n, x, b) (by simp)).2 hes, _, _, l1.length, rfl, ?_, ?_⟩
    · simp [Instr.mapEntry, run_underlying hu, run_goM hr, run_checkKey_int hk, hf, hge, run_stays, run_soM _ hr, goInt]
    · rw [hes]; exact hbx l1 l2 x b hM.born
    · refine ⟨m.enc x, b, ?_⟩
      have : (es.modify l1.length fun e => { e with key := .int q n }).toList[l1.length]? = some ⟨.int q n, m.enc x, b⟩ := by rw [hes]; simp
      rw [← Array.getElem?_toList]; exact this
theorem run_entryStore {r : Nat} {n b : Int} {v : V} (hr : w.heap[r]? = some o) (h : Mo q m o xs) (hs : Stm o q n b) (hv : m.ok v) :
    ∃ o', (Instr.entryStore t (.map (some r)) (.int .i64 b) (m.enc v)).run P w = .ok () (w.putObj r o') ∧ Mo q m o' (mput xs n v) := by
  obtain ⟨es, clock, l, rfl, hM, hd, hp, hris⟩ := h
  obtain ⟨es', clock', i, heq, hi, y, bb, hy⟩ := hs
  cases heq
  have hil : i < l.length := by
    have h1 : i < es.size := (Array.getElem?_eq_some_iff.1 hy).1
    have := congrArg List.length hM.eq; simp at this; omega
  obtain ⟨l1, e, l2, hl, hl1⟩ : ∃ l1 e l2, l = l1 ++ e :: l2 ∧ l1.length = i := ⟨l.take i, l[i], l.drop (i + 1), by rw [← List.drop_eq_getElem_cons hil, List.take_append_drop], by simp; omega⟩
  obtain ⟨n', x, b'⟩ := e
  subst hl; subst hl1
  have hge : es[l1.length]? = some ⟨.int q n', m.enc x, b'⟩ := by
    have : es.toList[l1.length]? = some ⟨.int q n', m.enc x, b'⟩ := by rw [hM.eq]; simp
    simpa using this
  rw [hge] at hy
  have hy' := Option.some.inj hy
  have hnn : n' = n := by injection hy' with h1 _ _; injection h1
  subst hnn
  have hfi : es.findIdx? (fun e => (e.born : Int) == b) = some l1.length := by rw [← hi]; cases es; simp
  refine ⟨.map (es.modify l1.length fun e => { e with val := m.enc v }) clock, ?_, Mo.turn hM hd hp hris hv ?_⟩
  · simp only [Instr.entryStore, Sem.run_bind, Result.andThen_ok, run_goM hr, asInt, asIntOf, Sem.run_pure, hfi]
    rw [run_soM _ hr]
  · rw [Array.toList_modify, hM.eq]
    simp only [List.map_append, List.map_cons]
    have := modify_mid (fun e : MapEntry => { e with val := m.enc v }) (⟨.int q n', m.enc x, b'⟩ : MapEntry) (l2.map fun e => (⟨.int q e.1, m.enc e.2.1, e.2.2⟩ : MapEntry)) (l1.map fun e => (⟨.int q e.1, m.enc e.2.1, e.2.2⟩ : MapEntry))
    rw [List.length_map] at this
    exact this
end mem
section own
variable {V : Type} {q : IntKind} {m : Mv V} {o : Obj} {xs : List (Int × V)} {P : Program} {r : Option Nat} {ρ : Env} {w w' : World} {d : Option Nat} {ty : TypeId} {pos : String} {aft : Array Edge} {g : Option (Nat × Bool)} {Vv : Value → World → Prop}
variable {z0 : Zx} {O0 O O' : List Nat} {bs : Ents} {x y u : Operand} {t kt e : TypeId}
theorem St.putObj (hs : St z0 O0 w bs) {i b : Nat} (hi : bs[i]? = some (some b, o)) (o' : Obj) : St z0 O0 (w.putObj b o') (bs.set i (some b, o')) ∧ Step (ks bs O0) w (ks (bs.set i (some b, o')) O0) (w.putObj b o') := by
  have hb := (hs.own _ (List.mem_of_getElem? hi) b rfl).1
  have hlt : b < w.heap.size := hs.lt (List.mem_of_getElem? hi) rfl
  have hsz : (w.putObj b o').heap.size = w.heap.size := by simp
  have ho : ∀ j, j < w.heap.size → some b ≠ some j → (w.putObj b o').heap[j]? = w.heap[j]? := fun j _ hj => World.putObj_heap_other (fun e => hj (by rw [e]))
  have hl : Loc [b] w (w.putObj b o') := ⟨rfl, rfl, rfl, by rw [hsz]; exact Nat.le_refl _, fun k hk hn => ho k hk (by simp at hn; intro e; cases e; exact hn rfl), Nat.le_refl _⟩
  refine ⟨hs.put hi (hs.below.trans' hl (by rintro k hk; simp at hk; subst hk; exact hb)) (by rw [hsz]; exact Nat.le_refl _) (fun j hj => ?_) ho, Step.put hi (by rw [hsz]; exact Nat.le_refl _) (fun j hj => .inl hj) ho⟩
  cases hj; exact ⟨.inl rfl, World.putObj_heap_same hlt⟩
/-- make(map[K]V) -/
theorem op_makeMap (hs : St z0 O0 w bs) (k : ∀ bl w', Step (ks bs O0) w (ks ((some bl, .map #[] 0) :: bs) O0) w' → St z0 O0 w' ((some bl, .map #[] 0) :: bs) → Vv (.map (some bl)) w') :
    Run1 P r ρ w ⟨d, .makeMap t none, ty, pos, aft, g⟩ Vv := by
  refine run1_value (v := .map (some w.heap.size)) (w' := w.alloc (.map #[] 0)) (by simp) ?_ (k _ _ (Step.alloc w O0 bs _) (hs.alloc _))
  simp [execOp, Instr.makeMap]
/-- what is only read -/
def MpR (q : IntKind) (m : Mv V) (w : World) (O : List Nat) (v : Value) (xs : List (Int × V)) : Prop := ∃ b o, v = .map (some b) ∧ Sh w O b ∧ w.heap[b]? = some o ∧ Mo q m o xs
theorem MpR.step {v : Value} (h : MpR q m w O v xs) (s : Step O w O' w') : MpR q m w' O' v xs := by
  obtain ⟨b, o, h1, h2, h3, h4⟩ := h
  exact ⟨b, o, h1, h2.step s, by rw [(s.keep b h2.lt h2.no).2]; exact h3, h4⟩
def rMp (q : IntKind) (m : Mv V) : Rp (List (Int × V)) where
  n := 1
  rd w O cs x := ∃ v, cs = [v] ∧ MpR q m w O v x
  len := fun ⟨_, h, _⟩ => by rw [h]; rfl
  one := fun ⟨v, h, b, o, h2, _⟩ => by subst h; subst h2; simp [Value.oneCell']
  step := fun s ⟨v, h, h2⟩ => ⟨v, h, h2.step s⟩
theorem mk_mp {v : Value} (h : MpR q m w O v xs) : (rMp q m).rd w O [v] xs := ⟨v, rfl, h⟩
theorem un_mp {v : Value} (h : (rMp q m).rd w O [v] xs) : MpR q m w O v xs := by obtain ⟨v', h1, h2⟩ := h; cases h1; exact h2
theorem St.publishM (hs : St z0 O0 w bs) {i b : Nat} (hi : bs[i]? = some (some b, o)) (h : Mo q m o xs) :
    St z0 O0 w (bs.eraseIdx i) ∧ Step (ks bs O0) w (ks (bs.eraseIdx i) O0) w ∧ MpR q m w (ks (bs.eraseIdx i) O0) (.map (some b)) xs :=
  ⟨hs.drop i, Step.drop w O0 bs i, b, o, rfl, ⟨hs.lt (List.mem_of_getElem? hi) rfl, not_ks_erase hs hi⟩, hs.get hi, h⟩
/-- m[k] -/
theorem op_lookup {b : Nat} {n : Int} {z : V} (hu : P.underlying t = some (.map kt e)) (hk : P.underlying kt = some (.int q)) (hz : ∀ w, (zeroValue e).run P w = .ok (m.enc z) w) (hb : w.heap[b]? = some o) (h : Mo q m o xs) (hx : ev ρ x = .map (some b)) (hy : ev ρ y = .int q n)
    (k : Vv (m.enc ((mget xs n).getD z)) w) : Run1 P r ρ w ⟨d, .lookup t x y false, ty, pos, aft, g⟩ Vv := by
  refine run1_value (by simp) ?_ k
  simp [execOp, hx, hy, run_lookup hu hk hz hb h false]
/-- v, ok := m[k] -/
theorem op_lookup2 {b : Nat} {n : Int} {z : V} (hu : P.underlying t = some (.map kt e)) (hk : P.underlying kt = some (.int q)) (hz : ∀ w, (zeroValue e).run P w = .ok (m.enc z) w) (hb : w.heap[b]? = some o) (h : Mo q m o xs) (hx : ev ρ x = .map (some b)) (hy : ev ρ y = .int q n)
    (k : Vv (.tuple [m.enc ((mget xs n).getD z), .bool (mget xs n).isSome].toArray) w) : Run1 P r ρ w ⟨d, .lookup t x y true, ty, pos, aft, g⟩ Vv := by
  refine run1_value (by simp) ?_ k
  simp [execOp, hx, hy, run_lookup hu hk hz hb h true]
theorem op_lookupR {v : Value} {n : Int} {z : V} (hu : P.underlying t = some (.map kt e)) (hk : P.underlying kt = some (.int q)) (hz : ∀ w, (zeroValue e).run P w = .ok (m.enc z) w) (h : MpR q m w O v xs) (hx : ev ρ x = v) (hy : ev ρ y = .int q n)
    (k : Vv (m.enc ((mget xs n).getD z)) w) : Run1 P r ρ w ⟨d, .lookup t x y false, ty, pos, aft, g⟩ Vv := by
  obtain ⟨b, o, rfl, _, hb, hM⟩ := h
  exact op_lookup hu hk hz hb hM hx hy k
theorem op_lookupR2 {v : Value} {n : Int} {z : V} (hu : P.underlying t = some (.map kt e)) (hk : P.underlying kt = some (.int q)) (hz : ∀ w, (zeroValue e).run P w = .ok (m.enc z) w) (h : MpR q m w O v xs) (hx : ev ρ x = v) (hy : ev ρ y = .int q n)
    (k : Vv (.tuple [m.enc ((mget xs n).getD z), .bool (mget xs n).isSome].toArray) w) : Run1 P r ρ w ⟨d, .lookup t x y true, ty, pos, aft, g⟩ Vv := by
  obtain ⟨b, o, rfl, _, hb, hM⟩ := h
  exact op_lookup2 hu hk hz hb hM hx hy k
theorem MpR.ok {v : Value} (h : MpR q m w O v xs) {n : Int} {z : V} (hz : m.ok z) : m.ok ((mget xs n).getD z) := by obtain ⟨_, _, _, _, _, hM⟩ := h; exact hM.ok hz
/-- m[k] = v -/
theorem op_mapUpdate {b i : Nat} {n : Int} {v : V} {vv : Value} (hu : P.underlying t = some (.map kt e)) (hk : P.underlying kt = some (.int q)) (hs : St z0 O0 w bs) (hi : bs[i]? = some (some b, o)) (h : Mo q m o xs) (hx : ev ρ x = .map (some b)) (hy : ev ρ y = .int q n) (hv : ev ρ u = vv) (hvv : vv = m.enc v) (hn : InK q n) (hvo : m.ok v)
    (k : ∀ o' w', Step (ks bs O0) w (ks (bs.set i (some b, o')) O0) w' → St z0 O0 w' (bs.set i (some b, o')) → Mo q m o' (mput xs n v) → Vv undef w') : Run1 P r ρ w ⟨d, .mapUpdate t x y u, ty, pos, aft, g⟩ Vv := by
  obtain ⟨o', h1, h2⟩ := run_mapUpdate (P := P) hu hk (hs.get hi) h hn hvo
  obtain ⟨h3, h4⟩ := hs.putObj hi o'
  subst hvv
  refine run1_skip (by simp) ?_ (k o' _ h4 h3 h2)
  simp [execOp, hx, hy, hv, h1]
theorem op_insert {b i : Nat} {n : Int} {v : V} {vv : Value} (hu : P.underlying t = some (.map kt e)) (hk : P.underlying kt = some (.int q)) (hs : St z0 O0 w bs) (hi : bs[i]? = some (some b, o)) (h : Mo q m o xs) (hx : ev ρ x = .map (some b)) (hy : ev ρ y = .int q n) (hv : ev ρ u = vv) (hvv : vv = m.enc v) (hn : InK q n) (hvo : m.ok v)
    (k : ∀ o' w', Step (ks bs O0) w (ks (bs.set i (some b, o')) O0) w' → St z0 O0 w' (bs.set i (some b, o')) → Mo q m o' (mput xs n v) → Vv undef w') : Run1 P r ρ w ⟨d, .insert t x y u, ty, pos, aft, g⟩ Vv := by
  obtain ⟨o', h1, h2⟩ := run_mapUpdate (P := P) hu hk (hs.get hi) h hn hvo
  obtain ⟨h3, h4⟩ := hs.putObj hi o'
  subst hvv
  refine run1_skip (by simp) ?_ (k o' _ h4 h3 h2)
  simp [execOp, hx, hy, hv, h1]
/-- m[k] op= v -/
theorem op_mapEntry {b i : Nat} {n : Int} {z : V} (hu : P.underlying t = some (.map kt e)) (hk : P.underlying kt = some (.int q)) (hz : ∀ w, (zeroValue e).run P w = .ok (m.enc z) w) (hzo : m.ok z) (hs : St z0 O0 w bs) (hi : bs[i]? = some (some b, o)) (h : Mo q m o xs) (hx : ev ρ x = .map (some b)) (hy : ev ρ y = .int q n) (hn : InK q n)
    (k : ∀ o' s w', Step (ks bs O0) w (ks (bs.set i (some b, o')) O0) w' → St z0 O0 w' (bs.set i (some b, o')) → Mo q m o' (mput xs n ((mget xs n).getD z)) → Stm o' q n s → Vv (.tuple [m.enc ((mget xs n).getD z), .int .i64 s].toArray) w') : Run1 P r ρ w ⟨d, .mapEntry t x y, ty, pos, aft, g⟩ Vv := by
  obtain ⟨o', s, h1, h2, h5⟩ := run_mapEntry (P := P) hu hk hz hzo (hs.get hi) h hn
  obtain ⟨h3, h4⟩ := hs.putObj hi o'
  refine run1_value (by simp) ?_ (k o' s _ h4 h3 h2 h5)
  simp [execOp, hx, hy, h1]
theorem op_entryStore {b i : Nat} {n s : Int} {v : V} {vv : Value} (hs : St z0 O0 w bs) (hi : bs[i]? = some (some b, o)) (h : Mo q m o xs) (hS : Stm o q n s) (hx : ev ρ x = .map (some b)) (hy : ev ρ y = .int .i64 s) (hv : ev ρ u = vv) (hvv : vv = m.enc v) (hvo : m.ok v)
    (k : ∀ o' w', Step (ks bs O0) w (ks (bs.set i (some b, o')) O0) w' → St z0 O0 w' (bs.set i (some b, o')) → Mo q m o' (mput xs n v) → Vv undef w') : Run1 P r ρ w ⟨d, .entryStore t x y u, ty, pos, aft, g⟩ Vv := by
  obtain ⟨o', h1, h2⟩ := run_entryStore (P := P) (t := t) (hs.get hi) h hS hvo
  obtain ⟨h3, h4⟩ := hs.putObj hi o'
  subst hvv
  refine run1_skip (by simp) ?_ (k o' _ h4 h3 h2)
  simp [execOp, hx, hy, hv, h1]
theorem Mo.size (h : Mo q m o xs) : ∃ es clock, o = .map es clock ∧ es.size = xs.length := by
  obtain ⟨es, clock, l, rfl, hM, hd, hp, hris⟩ := h
  refine ⟨es, clock, rfl, ?_⟩
  have hl : es.size = l.length := by have := congrArg List.length hM.eq; simpa using this
  rw [hl]
  have : (l.map fun e => (e.1, e.2.1)).Perm xs := by
    refine (List.perm_ext_iff_of_nodup ?_ (ris_nodup hris)).2 fun p => ?_
    · rw [List.nodup_iff_pairwise_ne, List.pairwise_map]; exact hd.imp fun h e => h (Prod.mk.inj e).1
    · rw [← hp p.1 p.2]; simp only [List.mem_map]
      constructor
      · rintro ⟨e, he, rfl⟩; exact ⟨e.2.2, he⟩
      · rintro ⟨b, hb⟩; exact ⟨(p.1, p.2, b), hb, rfl⟩
  simpa using this.length_eq
end own
end Go.Fx


/- Functions that hand out a list by way of the yield of the iterator that they are within, and that may call themselves. No program in sight. -/
set_option linter.unusedSimpArgs false
set_option linter.unusedVariables false
namespace Go.Fx
open Go Go.RowKit

/-- a cell that holds just this value -/
def rVal (v : Value) (h : v.oneCell' = true) : Rp Unit where
  n := 1
  rd _ _ cs _ := cs = [v]
  len := fun h => by rw [h]; rfl
  one := fun e u hu => by rw [e] at hu; simp at hu; subst hu; exact h
  step := fun _ h => h
theorem un_val {v u : Value} {h1 : v.oneCell' = true} {w : World} {O : List Nat} {x : Unit} (h : (rVal v h1).rd w O [u] x) : u = v := by
  have : [u] = [v] := h
  simpa using this
/-- a function value of one argument that hands out what f says, and says whether it goes on -/
def SubIt1 {α γ : Type} (P : Program) (enc : γ → World → List Nat → List Value → Prop) (l : Nat) (w : World) (O : List Nat) (fv : Value) (A : Vr α) (f : α → Option (List γ)) : Prop :=
  (∃ k caps, fv = .func k #[] caps) ∧ ∀ w1 O1, Step O w O1 w1 → (∀ k ∈ O1, k < w1.heap.size) → ∀ (J Jx : JP γ), Abides J → Abides Jx → ∀ v x Lx, A.vd w1 O1 v x → f x = some Lx → YieldsTo P enc Lx l J Jx → J [] w1 O1 [] →
    FvTo P fv [v] w1 fun u w2 => ∃ O2, (u = .bool true ∧ J Lx w2 O2 []) ∨ (u = .bool false ∧ ∃ pre, Jx pre w2 O2 [])
theorem SubIt1.step {α γ : Type} {P : Program} {enc : γ → World → List Nat → List Value → Prop} {l : Nat} {w w' : World} {O O' : List Nat} {fv : Value} {A : Vr α} {f : α → Option (List γ)} (h : SubIt1 P enc l w O fv A f) (s : Step O w O' w') : SubIt1 P enc l w' O' fv A f :=
  ⟨h.1, fun w1 O1 s1 => h.2 w1 O1 (s.trans s1)⟩
/-- in a cell -/
def rSb {α γ : Type} (P : Program) (enc : γ → World → List Nat → List Value → Prop) (l : Nat) (A : Vr α) : Rp (α → Option (List γ)) where
  n := 1
  rd w O cs f := ∃ v, cs = [v] ∧ SubIt1 P enc l w O v A f
  len := fun ⟨_, h, _⟩ => by rw [h]; rfl
  one := fun ⟨v, h, ⟨k, caps, h2⟩, _⟩ => by subst h; subst h2; simp [Value.oneCell']
  step := fun s ⟨v, h, h2⟩ => ⟨v, h, h2.step s⟩
def vSb {α γ : Type} (P : Program) (enc : γ → World → List Nat → List Value → Prop) (l : Nat) (A : Vr α) : Vr (α → Option (List γ)) := ⟨fun w O v f => SubIt1 P enc l w O v A f, fun s h => h.step s⟩
theorem un_sb {α γ : Type} {P : Program} {enc : γ → World → List Nat → List Value → Prop} {l : Nat} {w : World} {O : List Nat} {A : Vr α} {f : α → Option (List γ)} {v : Value} (h : (rSb P enc l A).rd w O [v] f) : SubIt1 P enc l w O v A f := by
  obtain ⟨v', h1, h2⟩ := h; cases h1; exact h2
theorem PtR.sb {α γ : Type} {P : Program} {enc : γ → World → List Nat → List Value → Prop} {l : Nat} {w : World} {O : List Nat} {A : Vr α} {f : α → Option (List γ)} {v : Value} {h1 : v.oneCell' = true} {p : Addr} (h : PtR (rVal v h1) w O p ()) (hf : SubIt1 P enc l w O v A f) : PtR (rSb P enc l A) w O p f := by
  refine ⟨h.spot, h.sh, ?_⟩
  obtain ⟨cs, e, fz, k1, k2, k3⟩ := h.cells
  exact ⟨cs, e, fz, k1, k2, v, k3, hf⟩
/-- functions that call themselves -/
def fixO {α β : Type} (Φ : (α → Option β) → α → Option β) : Nat → α → Option β
  | 0 => fun _ => none
  | n + 1 => Φ (fixO Φ n)
theorem SubIt1.fix {α γ : Type} {P : Program} {enc : γ → World → List Nat → List Value → Prop} {l : Nat} {w : World} {O : List Nat} {A : Vr α} {k : Go.Fn} {caps : Array Value} {Φ : (α → Option (List γ)) → α → Option (List γ)}
    (h : ∀ f, SubIt1 P enc l w O (.func k #[] caps) A f → SubIt1 P enc l w O (.func k #[] caps) A (Φ f)) : ∀ n, SubIt1 P enc l w O (.func k #[] caps) A (fixO Φ n)
  | 0 => ⟨⟨k, caps, rfl⟩, fun _ _ _ _ _ _ _ _ _ _ _ _ hf => by cases hf⟩
  | n + 1 => h _ (SubIt1.fix h n)
/-- what is handed out by a call, and what comes behind -/
def apl {γ : Type} (a : Option (List γ)) (m : Option (List γ)) : Option (List γ) := a.bind fun A => m.map (A ++ ·)
theorem apl_elim {γ : Type} {a m : Option (List γ)} {L : List γ} (h : apl a m = some L) : ∃ A B, a = some A ∧ m = some B ∧ L = A ++ B := by
  cases a with
  | none => cases h
  | some A => cases m with
    | none => cases h
    | some B => exact ⟨A, B, rfl, rfl, (Option.some.inj h).symm⟩
section call
variable {P : Program} {ρ : Env} {w : World} {z : Zx} {O : List Nat} {bs : Ents} {α γ : Type} {J Jx : JP γ} {L pre Lx : List γ} {l : Nat} {enc : γ → World → List Nat → List Value → Prop}
/-- what a call within sees of the loop: the caller's own blocks are others' -/
def Jin (J : JP γ) (pre : List γ) (w : World) (O : List Nat) (bs : Ents) : JP γ := fun pre' w' O' K' =>
  ∃ Oc, O' = ks bs Oc ∧ J (pre ++ pre') w' Oc (K' ++ bs.filterMap Prod.fst) ∧ (∀ p ∈ bs, ∀ b, p.1 = some b → w'.heap[b]? = some p.2) ∧ (∀ k ∈ Oc, k ∉ bs.filterMap Prod.fst ∧ k < w'.heap.size) ∧ Step (ks bs O) w O' w' ∧ ∀ k ∈ K', w.heap.size ≤ k
theorem Jin.lt {pre' : List γ} {w' : World} {O' K' : List Nat} (hs : St z O w bs) (h : Jin J pre w O bs pre' w' O' K') : ∀ k ∈ bs.filterMap Prod.fst, k < w'.heap.size := fun k hk => by
  obtain ⟨Oc, _, _, _, _, h5, _⟩ := h
  obtain ⟨p, hp, e⟩ := mem_keys.1 hk
  exact Nat.lt_of_lt_of_le (hs.lt hp e) h5.size
theorem Jin.abides (hJ : Abides J) (hs : St z O w bs) : Abides (Jin J pre w O bs) := by
  refine ⟨fun {pre' w1 w2 O' K' K''} h hd hl hg => ?_⟩
  have hlt := h.lt hs
  obtain ⟨Oc, rfl, h2, h3, h4, h5, h6⟩ := h
  have hkO : ∀ k ∈ K', k ∉ bs.filterMap Prod.fst ∧ k ∉ Oc := fun k hk => ⟨fun hm => hd k hk (mem_ks.2 (.inl hm)), fun hm => hd k hk (mem_ks.2 (.inr hm))⟩
  refine ⟨Oc, rfl, hJ.loc h2 ?_ ?_ ?_, fun p hp b hb => ?_, fun k hk => ⟨(h4 k hk).1, Nat.lt_of_lt_of_le (h4 k hk).2 hl.size⟩, ⟨Nat.le_trans h5.size hl.size, fun k hk hn => ?_⟩, fun k hk => ?_⟩
  · intro k hk
    rcases List.mem_append.1 hk with hk | hk
    · exact (hkO k hk).2
    · exact fun hm => (h4 k hm).1 hk
  · exact hl.sub fun k hk => .inl (List.mem_append_left _ hk)
  · refine ⟨fun k hk => ?_, fun k hk => ?_⟩
    · rcases List.mem_append.1 hk with hk | hk
      · exact (hg.new k hk).imp (List.mem_append_left _) id
      · exact .inl (List.mem_append_right _ hk)
    · rcases List.mem_append.1 hk with hk | hk
      · exact hg.lt k hk
      · exact Nat.lt_of_lt_of_le (hlt k hk) hl.size
  · rw [hl.block b (hlt b (mem_keys.2 ⟨p, hp, hb⟩)) fun hm => (hkO b hm).1 (mem_keys.2 ⟨p, hp, hb⟩)]; exact h3 p hp b hb
  · obtain ⟨k1, k2⟩ := h5.keep k hk hn
    exact ⟨k1, by rw [hl.block k (Nat.lt_of_lt_of_le hk h5.size) fun hm => by have := h6 k hm; omega]; exact k2⟩
  · rcases hg.new k hk with h | h
    · exact h6 k h
    · exact Nat.le_trans h5.size h
theorem Jin.yields (hs : St z O w bs) (hL : pre ++ Lx <+: L) (hY : YieldsTo P enc L l J Jx) : YieldsTo P enc Lx l (Jin J pre w O bs) (Jin Jx pre w O bs) := by
  intro pre' a w' O' K' vs hp h hK hO hen
  have hlt := h.lt hs
  obtain ⟨Oc, rfl, h2, h3, h4, h5, h6⟩ := h
  have hkO : ∀ k ∈ K', k ∉ bs.filterMap Prod.fst ∧ k ∉ Oc := fun k hk => ⟨fun hm => (hK k hk).2 (mem_ks.2 (.inl hm)), fun hm => (hK k hk).2 (mem_ks.2 (.inr hm))⟩
  have hp' : pre ++ pre' ++ [a] <+: L := by
    rw [List.append_assoc]
    exact List.IsPrefix.trans ((List.prefix_append_right_inj pre).2 hp) hL
  obtain ⟨fn, tmps, assign, body, hy, hR⟩ := hY (pre ++ pre') a w' Oc (K' ++ bs.filterMap Prod.fst) vs hp' h2 (fun k hk => by
    rcases List.mem_append.1 hk with hk | hk
    · exact ⟨(hK k hk).1, (hkO k hk).2⟩
    · exact ⟨hlt k hk, fun hm => (h4 k hm).1 hk⟩) (fun k hk => (h4 k hk).2) (by rw [List.append_assoc]; exact hen)
  refine ⟨fn, tmps, assign, body, hy, hR.mono ?_⟩
  · rintro e w'' ⟨O'', hl, hg, hor⟩
    have hkeep : ∀ b ∈ bs.filterMap Prod.fst, w''.heap[b]? = w'.heap[b]? := fun b hb => hl.block b (hlt b hb) fun hm => (h4 b hm).1 hb
    have hnew : ∀ k ∈ O'', k ∉ bs.filterMap Prod.fst ∧ k < w''.heap.size := fun k hk => ⟨fun hm => by
      rcases hg.new k hk with h | h
      · exact (h4 k h).1 hm
      · have := hlt k hm; omega, hg.lt k hk⟩
    have hst : Step (ks bs Oc) w' (ks bs O'') w'' := Step.of_loc hl (fun k hk => mem_ks.2 (.inr hk)) fun k hk => by
      rcases mem_ks.1 hk with hk | hk
      · exact .inl (mem_ks.2 (.inl hk))
      · exact (hg.new k hk).imp (fun h => mem_ks.2 (.inr h)) id
    have mk : ∀ J' : JP γ, J' (pre ++ pre' ++ [a]) w'' O'' (K' ++ bs.filterMap Prod.fst) → Jin J' pre w O bs (pre' ++ [a]) w'' (ks bs O'') K' := fun J' hj =>
      ⟨O'', rfl, by rw [← List.append_assoc]; exact hj, fun p hp b hb => by rw [hkeep b (mem_keys.2 ⟨p, hp, hb⟩)]; exact h3 p hp b hb, hnew, h5.trans hst, h6⟩
    refine ⟨ks bs O'', hl.sub fun k hk => .inl (mem_ks.2 (.inr hk)), ⟨fun k hk => ?_, fun k hk => ?_⟩, ?_⟩
    · rcases mem_ks.1 hk with hk | hk
      · exact .inl (mem_ks.2 (.inl hk))
      · exact (hg.new k hk).imp (fun h => mem_ks.2 (.inr h)) id
    · rcases mem_ks.1 hk with hk | hk
      · exact Nat.lt_of_lt_of_le (hlt k hk) hl.size
      · exact hg.lt k hk
    · rcases hor with ⟨he, h⟩ | ⟨he, h⟩
      · exact .inl ⟨he, mk J h⟩
      · exact .inr ⟨he, mk Jx h⟩
/-- a call of such a function within the iterator -/
theorem op_subcall {r : Option Nat} {d : Option Nat} {ty : TypeId} {pos : String} {aft : Array Edge} {g : Option (Nat × Bool)} {V : Value → World → Prop} {x : Operand} {args : Array Operand} {us : Array TypeId} {fv v : Value} {A : Vr α} {f : α → Option (List γ)} {a : α}
    (hx : ev ρ x = fv) (hf : SubIt1 P enc l w (ks bs O) fv A f) (ha : args.toList.map (ev ρ) = [v]) (hv : A.vd w (ks bs O) v a) (hfa : f a = some Lx) (hY : YieldsTo P enc L l J Jx) (hJ : Abides J) (hJx : Abides Jx) (hI : Itr J pre z O) (hs : St z O w bs) (hL : pre ++ Lx <+: L)
    (kt : ∀ w' O', St ⟨w', bs.filterMap Prod.fst, []⟩ O' w' bs → Step (ks bs O) w (ks bs O') w' → Itr J (pre ++ Lx) ⟨w', bs.filterMap Prod.fst, []⟩ O' → V (.bool true) w')
    (kf : ∀ w' O' pre', St ⟨w', bs.filterMap Prod.fst, []⟩ O' w' bs → Itr Jx pre' ⟨w', bs.filterMap Prod.fst, []⟩ O' → V (.bool false) w') :
    Run1 P r ρ w ⟨d, .call ⟨.value x, args, us⟩, ty, pos, aft, g⟩ V := by
  have h0 : Jin J pre w O bs [] w (ks bs O) [] := ⟨O, rfl, by simpa using hI.now hJ hs, fun p hp b hb => (hs.own p hp b hb).2, fun k hk => ⟨(hs.dj k hk).2, (hs.dj k hk).1⟩, Step.refl _ _, by simp⟩
  have hc := hf.2 w (ks bs O) (Step.refl _ _) hs.ltw (Jin J pre w O bs) (Jin Jx pre w O bs) (Jin.abides hJ hs) (Jin.abides hJx hs) v a Lx hv hfa (Jin.yields hs hL hY) h0
  refine op_callF hx hc ha ?_
  rintro u w2 ⟨O2, h⟩
  have done : ∀ (J' : JP γ) (pre' : List γ), Jin J' pre w O bs pre' w2 O2 [] → ∃ Oc, O2 = ks bs Oc ∧ St ⟨w2, bs.filterMap Prod.fst, []⟩ Oc w2 bs ∧ Step (ks bs O) w (ks bs Oc) w2 ∧ Itr J' (pre ++ pre') ⟨w2, bs.filterMap Prod.fst, []⟩ Oc := by
    rintro J' pre' ⟨Oc, rfl, h2, h3, h4, h5, _⟩
    refine ⟨Oc, rfl, ⟨Loc.refl _ _, fun p hp b hb => ⟨.inl (mem_keys.2 ⟨p, hp, hb⟩), h3 p hp b hb⟩, hs.nd, fun k hk => ⟨(h4 k hk).2, (h4 k hk).1⟩, List.nodup_nil, fun _ h => by cases h⟩, h5, ⟨by simpa using h2, fun k hk hm => (h4 k hm).1 hk⟩⟩
  rcases h with ⟨rfl, h⟩ | ⟨rfl, pre', h⟩
  · obtain ⟨Oc, _, k1, k2, k3⟩ := done J Lx h
    exact kt w2 Oc k1 k2 k3
  · obtain ⟨Oc, _, k1, _, k3⟩ := done Jx pre' h
    exact kf w2 Oc _ k1 k3
end call
end Go.Fx


set_option linter.unusedVariables false
set_option linter.unusedSimpArgs false
set_option maxRecDepth 100000
set_option maxHeartbeats 0
namespace Go.Fx
open Go Go.RowKit Go.Proofs
structure XRound where
  slots : Int
  owners : List Int
  costs : List (List Int)
  deriving Inhabited, DecidableEq
def rXRound : Rp XRound := rVia (fun d => (d.slots, d.owners, d.costs)) (rPair (rInt .i64) (rPair (rSl (rInt .i64)) (rSl (rSl (rInt .i64)))))
theorem ty56 : Ty Try.prog 56 (.func #[3, 3] #[4] false) 1 8 [.nilFunc] false :=
  ⟨Try.underlying56, ⟨Try.t56, info_of Try.type56, rfl, rfl, _, rfl, rfl⟩, Try.isAgg56, rfl⟩
theorem ty22 : Ty Try.prog 22 (.slice 3) 1 24 [(.slice none 0 0)] false :=
  ⟨Try.underlying22, ⟨Try.t22, info_of Try.type22, rfl, rfl, _, rfl, rfl⟩, Try.isAgg22, rfl⟩
theorem ty3 : Ty Try.prog 3 (.int .i64) 1 8 [(.int .i64 0)] false :=
  ⟨Try.underlying3, ⟨Try.t3, info_of Try.type3, rfl, rfl, _, rfl, rfl⟩, Try.isAgg3, rfl⟩
theorem ty25 : Ty Try.prog 25 (.struct #[{ name := "Slots", type := 3, offset := 0, embedded := false, tag := "", pkgPath := "", byteOffset := 0 }, { name := "Owners", type := 22, offset := 1, embedded := false, tag := "", pkgPath := "", byteOffset := 8 }, { name := "Costs", type := 23, offset := 2, embedded := false, tag := "", pkgPath := "", byteOffset := 32 }]) 3 56 [(.int .i64 0), (.slice none 0 0), (.slice none 0 0)] true :=
  ⟨Try.underlying25, ⟨Try.t25, info_of Try.type25, rfl, rfl, _, rfl, rfl⟩, Try.isAgg25, rfl⟩
theorem ty23 : Ty Try.prog 23 (.slice 22) 1 24 [(.slice none 0 0)] false :=
  ⟨Try.underlying23, ⟨Try.t23, info_of Try.type23, rfl, rfl, _, rfl, rfl⟩, Try.isAgg23, rfl⟩
theorem ty75 : Ty Try.prog 75 (.func #[22] #[4] false) 1 8 [.nilFunc] false :=
  ⟨Try.underlying75, ⟨Try.t75, info_of Try.type75, rfl, rfl, _, rfl, rfl⟩, Try.isAgg75, rfl⟩
theorem ty4 : Ty Try.prog 4 .bool 1 1 [(.bool false)] false :=
  ⟨Try.underlying4, ⟨Try.t4, info_of Try.type4, rfl, rfl, _, rfl, rfl⟩, Try.isAgg4, rfl⟩
theorem pl25 : Places Try.prog #[{ name := "Slots", type := 3, offset := 0, embedded := false, tag := "", pkgPath := "", byteOffset := 0 }, { name := "Owners", type := 22, offset := 1, embedded := false, tag := "", pkgPath := "", byteOffset := 8 }, { name := "Costs", type := 23, offset := 2, embedded := false, tag := "", pkgPath := "", byteOffset := 32 }] [(0, 1), (1, 1), (2, 1)] := fun w => by simp [ty3.runSize, ty22.runSize, ty23.runSize]

end Go.Fx


/- What the arguments read as. -/
namespace Go.Fx
open Go Go.Proofs Go.ChangeShapes Go.WideShapes Go.ChangeAt Go.RowKit Go.Fx
open Go.ChangeMaps (open_string shut_string)
set_option linter.unusedVariables false
set_option maxRecDepth 100000
theorem rd3 {H : Type} {enc : TypeId × Value → H} {w : World} {base : Nat} {spare : Nat → Bool} {held : Bool} : Rd enc Try.prog w base spare held 3 (rInt .i64) (InK .i64) := Rd_int Try.underlying3 (by kernel_rfl)
theorem rd22 {H : Type} {enc : TypeId × Value → H} {w : World} {base : Nat} {spare : Nat → Bool} {held : Bool} : Rd enc Try.prog w base spare held 22 (rSl (rInt .i64)) (SmL (InK .i64)) := Rd_slice Try.underlying22 (by kernel_rfl) (by decide) (of_decide_eq_true (by kernel_rfl)) rd3
theorem rd23 {H : Type} {enc : TypeId × Value → H} {w : World} {base : Nat} {spare : Nat → Bool} {held : Bool} : Rd enc Try.prog w base spare held 23 (rSl (rSl (rInt .i64))) (SmL (SmL (InK .i64))) := Rd_slice Try.underlying23 (by kernel_rfl) (by decide) (of_decide_eq_true (by kernel_rfl)) rd22
def smXRound (d : XRound) : Prop := (InK .i64) d.slots ∧ (SmL (InK .i64)) d.owners ∧ (SmL (SmL (InK .i64))) d.costs
theorem rd25 {H : Type} {enc : TypeId × Value → H} {w : World} {base : Nat} {spare : Nat → Bool} {held : Bool} : Rd enc Try.prog w base spare held 25 rXRound smXRound := by
  refine ⟨by kernel_rfl, fun fuel cs y h => ?_⟩
  obtain ⟨xs, n, _, hy, hl, hlen, hf⟩ := DataW.trod_struct Try.underlying25 h
  obtain ⟨x0, h0, s0⟩ := fld Try.underlying25 hf hlen hy (i := 0) rfl rd3
  obtain ⟨x1, h1, s1⟩ := fld Try.underlying25 hf hlen hy (i := 1) rfl rd22
  obtain ⟨x2, h2, s2⟩ := fld Try.underlying25 hf hlen hy (i := 2) rfl rd23
  have hc : Try.prog.cellsOf 25 = 3 := by kernel_rfl
  refine ⟨⟨x0, x1, x2⟩, ?_, fun hw => ⟨s0 hw, s1 hw, s2 hw⟩⟩
  exact rd_all (q := (rPair (rInt .i64) (rPair (rSl (rInt .i64)) (rSl (rSl (rInt .i64)))))) (rd_pair h0 (rd_pair h1 h2)) (hl.trans hc)
end Go.Fx


set_option linter.unusedVariables false
set_option linter.unusedSimpArgs false
set_option maxRecDepth 100000
set_option maxHeartbeats 0
namespace Go.Fx
open Go Go.RowKit Go.Proofs
def m44_coalition_Check_1 (n : Int) (most : Int) : Option Bool :=
  bif (decide (n < 0)) then
    some true
  else
    some (decide (most < n))

theorem c44_coalition_Check_1 {w : World} {O : List Nat} {n : Int} {most : Int} (hO : ∀ k ∈ O, k < w.heap.size) (r_n : InK .i64 n) (r_most : InK .i64 most) {x : Bool} (hm : m44_coalition_Check_1 n most = some x) :
    Ok Try.prog 44 [(Value.int .i64 n), (Value.int .i64 most)] w O vB x := by
  unfold m44_coalition_Check_1 at hm
  refine Fn_of_Wp (n := 12) (xs := [.tmp 4]) Try.func44 rfl Try.ntmps44 Try.results44 rfl ?_
  have hs := St.start hO
  refine Wp_seq ?_
  refine Wp_region ?_  -- 0 coalition.go:16
  refine Rg_op rfl (op_assign (v := (Value.bool false)) rfl ?_)
  refine Rg_nil ?_
  refine Wp_seq ?_
  refine Wp_region ?_  -- 1 coalition.go:16
  refine Rg_op rfl (op_move (v := (Value.int .i64 n)) rfl ?_)
  refine Rg_op rfl (op_lss rfl rfl ?_)
  refine Rg_op rfl (op_move (v := (Value.bool (decide (n < 0)))) rfl ?_)
  refine Rg_case (fun hg1 => ?_) (fun hg1 => ?_)
  ·
    replace hm := bif_t hm hg1
    refine Rg_opx rfl (asB_ne rfl rfl) rfl ?_
    refine Rg_opx rfl (asB_ne rfl rfl) rfl ?_
    refine Rg_opx rfl (asB_ne rfl rfl) rfl ?_
    refine Rg_op rfl (op_pick_t (v := (Value.bool true)) rfl rfl ?_)
    refine Rg_op rfl (op_assign (v := (Value.bool true)) rfl ?_)
    refine Rg_nil ?_
    refine Wp_ret ?_
    have hz := step_all hs
    refine ⟨_, (show Closes [] _ _ from rfl), [(Value.bool true)], ⟨rfl, trivial⟩, hs.ext, ?_⟩
    exact Vr.eq (a := vB) (x := true) rfl (Option.some.inj hm)
  ·
    replace hm := bif_f hm hg1
    refine Rg_opg rfl rfl rfl (op_move (v := (Value.int .i64 n)) rfl ?_)
    refine Rg_opg rfl rfl rfl (op_move (v := (Value.int .i64 most)) rfl ?_)
    refine Rg_opg rfl rfl rfl (op_gtr rfl rfl ?_)
    refine Rg_op rfl (op_pick_f (v := (Value.bool (decide (most < n)))) rfl rfl ?_)
    refine Rg_op rfl (op_assign (v := (Value.bool (decide (most < n)))) rfl ?_)
    refine Rg_nil ?_
    refine Wp_ret ?_
    have hz := step_all hs
    refine ⟨_, (show Closes [] _ _ from rfl), [(Value.bool (decide (most < n)))], ⟨rfl, trivial⟩, hs.ext, ?_⟩
    exact Vr.eq (a := vB) (x := (decide (most < n))) rfl (Option.some.inj hm)

end Go.Fx


set_option linter.unusedVariables false
set_option linter.unusedSimpArgs false
set_option maxRecDepth 100000
set_option maxHeartbeats 0
namespace Go.Fx
open Go Go.RowKit Go.Proofs
def m65_slices_IndexFuncint_int__B0 (s : List Int) (f : Int → Option Bool) (sf3 : Int → Option Int) (v_1 : Int) : Option Int :=
  bif (decide (v_1 < (s.length : Int))) then
    ck ((0 : Int) ≤ v_1 ∧ v_1 < (s.length : Int)) <|
    (f (s.getD v_1.toNat default)).bind fun r_1 =>
    bif r_1 then
      some v_1
    else
      sf3 (IntKind.wrap .i64 (v_1 + 1))
  else
    some (-1)

def m65_slices_IndexFuncint_int_ (s : List Int) (f : Int → Option Bool) : Option Int :=
  loop1 (m65_slices_IndexFuncint_int__B0 s f) (((s.length : Int) - 0).toNat + 1) 0

theorem c65_slices_IndexFuncint_int_ {w : World} {O : List Nat} {s : List Int} {f : Int → Option Bool} {a_s : Option Addr} {c_s : Nat} {v_f : Value} (hO : ∀ k ∈ O, k < w.heap.size) (f_s : SlR (rInt .i64) w O a_s c_s s) (F_f : CallsTo1 Try.prog w O v_f (vI .i64) vB f) {x : Int} (hm : m65_slices_IndexFuncint_int_ s f = some x) :
    Ok Try.prog 65 [(Value.slice a_s s.length c_s), v_f] w O (vI .i64) x := by
  unfold m65_slices_IndexFuncint_int_ at hm
  refine Fn_of_Wp (n := 19) (xs := [.tmp 4]) Try.func65 rfl Try.ntmps65 Try.results65 rfl ?_
  have hs := St.start hO
  refine Wp_seq ?_
  refine Wp_region ?_  -- 0 slices.go:107
  refine Rg_op rfl (op_assign (v := (Value.int .i64 0)) rfl ?_)
  refine Rg_nil ?_
  refine Wp_seq ?_
  refine Wp_seq ?_
  refine Wp_region ?_  -- 1 slices.go:108
  refine Rg_op rfl (op_move (v := (Value.slice a_s s.length c_s)) rfl ?_)
  refine Rg_op rfl (op_len Try.underlying22 rfl ?_)
  refine Rg_op rfl (op_move (v := (Value.int .i64 0)) rfl ?_)
  refine Rg_nil ?_
  refine Wp_block ?_
  refine Wp_reset [] [(0, (Value.slice a_s s.length c_s)), (1, v_f), (7, (Value.int .i64 (s.length : Int))), (8, (Value.int .i64 0))] rfl ⟨rfl, rfl, rfl, rfl, trivial⟩ fun ξ2 => ?_
  refine Wp_loopM [4, 5, 8, 9, 10, 11, 12, 13, 14, 15, 16, 17, 18] (fun m fr w' => ∃ (v_1 : Int) (Ebs : Ents), Ebs = [] ∧ fr [] [(8, (Value.int .i64 v_1))] ∧ Step (ks [] O) w (ks Ebs O) w' ∧ St ⟨w, [], []⟩ O w' Ebs ∧ InK .i64 v_1 ∧ loop1 (m65_slices_IndexFuncint_int__B0 s f) m v_1 = some x) (((s.length : Int) - 0).toNat + 1) ⟨0, _, rfl, ⟨Out.refl _ _, rfl, rfl, trivial⟩, Step.refl _ _, hs, (show InK .i64 0 from by decide), hm⟩ ?_ ?_
  · rintro _ _ ⟨_, _, _, _, _, _, _, hm⟩; exact loop1_z hm
  · rintro m6 K5 hK5 ρ11 w7 ⟨v_1, Ebs, hEbs, hfr10, hst9, hs8, r_y1, hm⟩
    obtain ⟨sf3, hsf4, hm⟩ := loop1_s hm; unfold m65_slices_IndexFuncint_int__B0 at hm
    subst hEbs; rw [hfr10.eq]; clear hfr10
    replace f_s := f_s.step hst9
    replace F_f := F_f.step hst9
    have ch12 := hst9
    refine Wp_seq ?_
    refine Wp_region ?_  -- 2 slices.go:108
    refine Rg_op rfl (op_lss rfl rfl ?_)
    refine Rg_nil ?_
    refine Wp_seq ?_
    refine Wp_cond rfl (fun hc13 => ?_) (fun hc13 => ?_)
    ·
      replace hm := bif_t hm hc13
      refine Wp_skip ?_
      refine Wp_seq ?_
      refine Wp_block ?_
      refine Wp_seq ?_
      refine Wp_region ?_  -- 3 slices.go:108
      refine Rg_op rfl (op_move (v := (Value.int .i64 v_1)) rfl ?_)
      refine Rg_op rfl (op_assign (v := (Value.int .i64 v_1)) rfl ?_)
      refine Rg_nil ?_
      refine Wp_seq ?_
      refine Wp_region ?_  -- 4 slices.go:109
      refine Rg_op rfl (op_move (v := v_f) rfl ?_)
      refine Rg_op rfl (op_move (v := (Value.slice a_s s.length c_s)) rfl ?_)
      refine Rg_op rfl (op_move (v := (Value.int .i64 v_1)) rfl ?_)
      replace hm := ck_some hm; obtain ⟨hc14, hm⟩ := hm
      refine Rg_op rfl (op_indexAddr (q := (rInt .i64)) ty22 ty3 rfl rfl f_s rfl hc14.1 hc14.2 ?_)
      intro p15 f16
      refine Rg_op rfl (op_loadP ty3 rfl f16 rfl ?_)
      intro v17 h18
      obtain ⟨rfl, r_y19⟩ := un_int h18
      replace hm := bd hm; obtain ⟨r_1, hv20, hm⟩ := hm
      refine Rg_op rfl (op_callF rfl (F_f.call hs8.ltw ⟨rfl, r_y19⟩ hv20) rfl ?_)
      rintro v21 w22 ⟨hx23, h24⟩
      have hs25 := hs8.call hx23
      have p26 := Step.ext (O := ks [] O) hx23
      clear hx23
      replace f_s := f_s.step p26
      replace F_f := F_f.step p26
      replace f16 := f16.step p26
      replace ch12 := ch12.trans p26
      clear p26 hs8
      obtain rfl := h24
      refine Rg_nil ?_
      refine Wp_cond rfl (fun hc28 => ?_) (fun hc28 => ?_)
      ·
        replace hm := bif_t hm hc28
        refine Wp_seq ?_
        clear f_s F_f f16
        refine Wp_region ?_  -- 5 slices.go:110
        refine Rg_op rfl (op_move (v := (Value.int .i64 v_1)) rfl ?_)
        refine Rg_op rfl (op_assign (v := (Value.int .i64 v_1)) rfl ?_)
        refine Rg_nil ?_
        refine Wp_ret ?_
        have hz := step_all hs25
        refine ⟨_, (show Closes [] _ _ from rfl), [(Value.int .i64 v_1)], ⟨rfl, trivial⟩, hs25.ext, ?_⟩
        exact Vr.eq (a := (vI .i64)) (x := v_1) ⟨rfl, r_y1⟩ (Option.some.inj hm)
      ·
        replace hm := bif_f hm hc28
        refine Wp_skip ?_
        clear f16
        refine Wp_region ?_  -- 6 slices.go:108
        refine Rg_op rfl (op_addw rfl rfl ?_)
        refine Rg_op rfl (op_move (v := (Value.int .i64 (IntKind.wrap .i64 (v_1 + 1)))) rfl ?_)
        refine Rg_nil ?_
        exact hK5 _ _ ⟨(IntKind.wrap .i64 (v_1 + 1)), _, rfl, ⟨(by repeat (first | with_reducible exact Out.refl _ _ | refine Out.upd ?_ rfl | refine Out.updL ?_ rfl | refine Out.mix' ?_ rfl | exact Out.refl _ _)), rfl, rfl, trivial⟩, ch12, hs25, (inK_wrap .i64 _), jnE1 hsf4 hm⟩
    ·
      replace hm := bif_f hm hc13
      refine Wp_exit ?_
      refine Wp_seq ?_
      clear f_s F_f
      refine Wp_region ?_  -- 7 slices.go:113
      refine Rg_op rfl (op_assign (v := (Value.int .i64 (-1))) rfl ?_)
      refine Rg_nil ?_
      refine Wp_ret ?_
      have hz := step_all hs8
      refine ⟨_, (show Closes [] _ _ from rfl), [(Value.int .i64 (-1))], ⟨rfl, trivial⟩, hs8.ext, ?_⟩
      exact Vr.eq (a := (vI .i64)) (x := (-1)) ⟨rfl, (show InK .i64 (-1) from by decide)⟩ (Option.some.inj hm)

end Go.Fx


set_option linter.unusedVariables false
set_option linter.unusedSimpArgs false
set_option maxRecDepth 100000
set_option maxHeartbeats 0
namespace Go.Fx
open Go Go.RowKit Go.Proofs
def m45_slices_ContainsFuncint_int_ (s : List Int) (f : Int → Option Bool) : Option Bool :=
  (m65_slices_IndexFuncint_int_ s f).bind fun indexfunc_1 =>
  some (decide (0 ≤ indexfunc_1))

theorem c45_slices_ContainsFuncint_int_ {w : World} {O : List Nat} {s : List Int} {f : Int → Option Bool} {a_s : Option Addr} {c_s : Nat} {v_f : Value} (hO : ∀ k ∈ O, k < w.heap.size) (f_s : SlR (rInt .i64) w O a_s c_s s) (F_f : CallsTo1 Try.prog w O v_f (vI .i64) vB f) {x : Bool} (hm : m45_slices_ContainsFuncint_int_ s f = some x) :
    Ok Try.prog 45 [(Value.slice a_s s.length c_s), v_f] w O vB x := by
  unfold m45_slices_ContainsFuncint_int_ at hm
  refine Fn_of_Wp (n := 9) (xs := [.tmp 4]) Try.func45 rfl Try.ntmps45 Try.results45 rfl ?_
  have hs := St.start hO
  refine Wp_seq ?_
  refine Wp_region ?_  -- 0 slices.go:124
  refine Rg_op rfl (op_assign (v := (Value.bool false)) rfl ?_)
  refine Rg_nil ?_
  refine Wp_seq ?_
  refine Wp_region ?_  -- 1 slices.go:125
  refine Rg_op rfl (op_move (v := (Value.slice a_s s.length c_s)) rfl ?_)
  refine Rg_op rfl (op_move (v := v_f) rfl ?_)
  replace hm := bd hm; obtain ⟨indexfunc_1, hv1, hm⟩ := hm
  refine Rg_op rfl (op_call Try.call65 (c65_slices_IndexFuncint_int_ (s := s) (f := f) hs.ltw f_s F_f hv1) rfl ?_)
  rintro v2 w3 ⟨hx4, h5⟩
  have hs6 := hs.call hx4
  have p7 := Step.ext (O := ks [] O) hx4
  clear hx4
  replace f_s := f_s.step p7
  replace F_f := F_f.step p7
  clear p7
  obtain ⟨rfl, r_y8⟩ := h5
  refine Rg_op rfl (op_geq rfl rfl ?_)
  refine Rg_op rfl (op_assign (v := (Value.bool (decide (0 ≤ indexfunc_1)))) rfl ?_)
  refine Rg_nil ?_
  refine Wp_ret ?_
  have hz := step_all hs6
  replace f_s := f_s.step hz
  replace F_f := F_f.step hz
  refine ⟨_, (show Closes [] _ _ from rfl), [(Value.bool (decide (0 ≤ indexfunc_1)))], ⟨rfl, trivial⟩, hs6.ext, ?_⟩
  exact Vr.eq (a := vB) (x := (decide (0 ≤ indexfunc_1))) rfl (Option.some.inj hm)

end Go.Fx


set_option linter.unusedVariables false
set_option linter.unusedSimpArgs false
set_option maxRecDepth 100000
set_option maxHeartbeats 0
namespace Go.Fx
open Go Go.RowKit Go.Proofs
def m46_coalition_Check_2 (c : Int) (fv0_ : Int → Int → Option Bool) : Option Bool :=
  (fv0_ (IntKind.wrap .i64 (c + 1)) 1048577).bind fun r_1 =>
  some r_1

theorem c46_coalition_Check_2 {w : World} {O : List Nat} {c : Int} {fv0_ : Int → Int → Option Bool} {p_fv0_ : Addr} (hO : ∀ k ∈ O, k < w.heap.size) (r_c : InK .i64 c) (f_fv0_ : PtR (rFv2 Try.prog (vI .i64) (vI .i64) vB) w O p_fv0_ fv0_) {x : Bool} (hm : m46_coalition_Check_2 c fv0_ = some x) :
    Ok Try.prog 46 [(Value.int .i64 c), (Value.pointer (some p_fv0_))] w O vB x := by
  unfold m46_coalition_Check_2 at hm
  refine Fn_of_Wp (n := 8) (xs := [.tmp 3]) Try.func46 rfl Try.ntmps46 Try.results46 rfl ?_
  have hs := St.start hO
  refine Wp_seq ?_
  refine Wp_region ?_  -- 0 coalition.go:18
  refine Rg_op rfl (op_assign (v := (Value.bool false)) rfl ?_)
  refine Rg_nil ?_
  refine Wp_seq ?_
  refine Wp_region ?_  -- 1 coalition.go:18
  refine Rg_op rfl (op_loadP ty56 rfl f_fv0_ rfl ?_)
  intro v1 h2
  have F3 := (un_fv2 h2).2; clear h2
  refine Rg_op rfl (op_move (v := (Value.int .i64 c)) rfl ?_)
  refine Rg_op rfl (op_addw rfl rfl ?_)
  replace hm := bd hm; obtain ⟨r_1, hv4, hm⟩ := hm
  refine Rg_op rfl (op_callF rfl (F3.call hs.ltw ⟨rfl, (inK_wrap .i64 _)⟩ ⟨rfl, (show InK .i64 1048577 from by decide)⟩ hv4) rfl ?_)
  rintro v5 w6 ⟨hx7, h8⟩
  have hs9 := hs.call hx7
  have p10 := Step.ext (O := ks [] O) hx7
  clear hx7
  replace f_fv0_ := f_fv0_.step p10
  replace F3 := F3.step p10
  clear p10
  obtain rfl := h8
  refine Rg_op rfl (op_assign (v := (Value.bool r_1)) rfl ?_)
  refine Rg_nil ?_
  refine Wp_ret ?_
  have hz := step_all hs9
  replace f_fv0_ := f_fv0_.step hz
  replace F3 := F3.step hz
  refine ⟨_, (show Closes [] _ _ from rfl), [(Value.bool r_1)], ⟨rfl, trivial⟩, hs9.ext, ?_⟩
  exact Vr.eq (a := vB) (x := r_1) rfl (Option.some.inj hm)

end Go.Fx


set_option linter.unusedVariables false
set_option linter.unusedSimpArgs false
set_option maxRecDepth 100000
set_option maxHeartbeats 0
namespace Go.Fx
open Go Go.RowKit Go.Proofs
def m22_coalition_Check_B0 (r_ : XRound) (sf47 : Int → Option Int) (v_2 : Int) : Option Int :=
  bif (decide (v_2 < (r_.costs.length : Int))) then
    ck ((0 : Int) ≤ v_2 ∧ v_2 < (r_.costs.length : Int)) <|
    jn (fun (v_3 : Bool) =>
      bif v_3 then
        some 370
      else
        sf47 (IntKind.wrap .i64 (v_2 + 1)))
    (fun k66 =>
      ck ((0 : Int) ≤ v_2 ∧ v_2 < (r_.owners.length : Int)) <|
      ((fun x24 x25 => m44_coalition_Check_1 x24 x25) (r_.owners.getD v_2.toNat default) 7).bind fun r_1 =>
      bif r_1 then
        k66 true
      else
        bif (decide (((r_.costs.getD v_2.toNat default).length : Int) ≠ r_.slots)) then
          k66 true
        else
          ck ((0 : Int) ≤ v_2 ∧ v_2 < ((r_.costs.getD v_2.toNat default).length : Int)) <|
          bif (decide (((r_.costs.getD v_2.toNat default).getD v_2.toNat default) < 0)) then
            k66 true
          else
            (m45_slices_ContainsFuncint_int_ (r_.costs.getD v_2.toNat default) (fun x286 => m46_coalition_Check_2 x286 (fun x24 x25 => m44_coalition_Check_1 x24 x25))).bind fun containsfunc_1 =>
            k66 containsfunc_1)
  else
    some 0

def m22_coalition_Check (r_ : XRound) : Option Int :=
  jn (fun (v_1 : Bool) =>
    bif v_1 then
      some 370
    else
      loop1 (m22_coalition_Check_B0 r_) (((r_.costs.length : Int) - 0).toNat + 1) 0)
  (fun k8 =>
    bif (decide (r_.slots < 1)) then
      k8 true
    else
      bif (decide (8 < r_.slots)) then
        k8 true
      else
        bif (decide (r_.slots < (r_.owners.length : Int))) then
          k8 true
        else
          k8 (decide ((r_.costs.length : Int) ≠ (r_.owners.length : Int))))

theorem c22_coalition_Check {w : World} {O : List Nat} {r_ : XRound} {a_r__owners : Option Addr} {c_r__owners : Nat} {a_r__costs : Option Addr} {c_r__costs : Nat} (hO : ∀ k ∈ O, k < w.heap.size) (r_r__slots : InK .i64 r_.slots) (f_r__owners : SlR (rInt .i64) w O a_r__owners c_r__owners r_.owners) (f_r__costs : SlR (rSl (rInt .i64)) w O a_r__costs c_r__costs r_.costs) {x : Int} (hm : m22_coalition_Check r_ = some x) :
    Ok Try.prog 22 [(Value.agg [(Value.int .i64 r_.slots), (Value.slice a_r__owners r_.owners.length c_r__owners), (Value.slice a_r__costs r_.costs.length c_r__costs)].toArray)] w O (vI .i64) x := by
  unfold m22_coalition_Check at hm
  refine Fn_of_Wp (n := 66) (xs := [.tmp 2]) Try.func22 rfl Try.ntmps22 Try.results22 rfl ?_
  have hs := St.start hO
  refine Wp_seq ?_
  refine Wp_region ?_  -- 0 coalition.go:12
  refine Rg_op rfl (op_box (cs := [(Value.int .i64 r_.slots), (Value.slice a_r__owners r_.owners.length c_r__owners), (Value.slice a_r__costs r_.costs.length c_r__costs)]) hs rfl rfl ?_)
  intro b1 w2 _ p3 hs4
  replace f_r__owners := f_r__owners.step p3
  replace f_r__costs := f_r__costs.step p3
  clear p3
  refine Rg_op rfl (op_assign (v := (Value.int .i64 0)) rfl ?_)
  refine Rg_nil ?_
  refine Wp_seq ?_
  refine Wp_reset [] [(1, (Value.pointer (some ⟨b1, 0, none⟩)))] rfl ⟨rfl, trivial⟩ fun ξ6 => ?_
  replace hm := jn_elim hm; obtain ⟨k8, hk9, hm⟩ := hm
  refine Wp_seqJ [6, 7, 8, 9, 10, 11, 12, 13, 14, 15, 16, 17, 18, 19, 20, 21, 22, 23, 24, 25, 26, 27, 28, 29, 30] (fun fr w' => ∃ (v_1 : Bool) (Ebs : Ents), Ebs = [(some b1, Obj.cells [(Value.int .i64 r_.slots), (Value.slice a_r__owners r_.owners.length c_r__owners), (Value.slice a_r__costs r_.costs.length c_r__costs)].toArray 25)] ∧ fr [] [(30, (Value.bool v_1))] ∧ Step (ks [(some b1, Obj.cells [(Value.int .i64 r_.slots), (Value.slice a_r__owners r_.owners.length c_r__owners), (Value.slice a_r__costs r_.costs.length c_r__costs)].toArray 25)] O) w2 (ks Ebs O) w' ∧ St ⟨w, [], []⟩ O w' Ebs ∧ k8 v_1 = some x) ?_ ?_
  ·
    rintro ρ15 w11 ⟨v_1, Ebs, hEbs, hfr14, hst13, hs12, hm⟩
    replace hm := jnE1 hk9 hm
    subst hEbs; rw [hfr14.eq]; clear hfr14
    replace f_r__owners := f_r__owners.step hst13
    replace f_r__costs := f_r__costs.step hst13
    clear hst13 hs4
    refine Wp_cond rfl (fun hc16 => ?_) (fun hc16 => ?_)
    ·
      replace hm := bif_t hm hc16
      refine Wp_seq ?_
      obtain ⟨hs17, p18⟩ := hs12.sub (bs' := []) (.cons _ List.Sublist.slnil)
      clear f_r__owners f_r__costs
      clear p18 hs12
      refine Wp_region ?_  -- 2 coalition.go:14
      refine Rg_op rfl (op_assign (v := (Value.int .i64 370)) rfl ?_)
      refine Rg_nil ?_
      refine Wp_ret ?_
      have hz := step_all hs17
      refine ⟨_, (show Closes [] _ _ from rfl), [(Value.int .i64 370)], ⟨rfl, trivial⟩, hs17.ext, ?_⟩
      exact Vr.eq (a := (vI .i64)) (x := 370) ⟨rfl, (show InK .i64 370 from by decide)⟩ (Option.some.inj hm)
    ·
      replace hm := bif_f hm hc16
      refine Wp_skip ?_
      refine Wp_seq ?_
      refine Wp_region ?_  -- 3 coalition.go:16
      refine Rg_op rfl (op_alloc ty56 hs12 ?_)
      intro b19 w20 _ p21 hs22
      replace f_r__owners := f_r__owners.step p21
      replace f_r__costs := f_r__costs.step p21
      clear p21 hs12
      have F26 : CallsTo2 Try.prog w20 (ks [(some b19, Obj.cells [Value.nilFunc].toArray 56), (some b1, Obj.cells [(Value.int .i64 r_.slots), (Value.slice a_r__owners r_.owners.length c_r__owners), (Value.slice a_r__costs r_.costs.length c_r__costs)].toArray 25)] O) (Value.func (.func 44) #[] #[]) (vI .i64) (vI .i64) vB (fun x24 x25 => m44_coalition_Check_1 x24 x25) := by
        intro w27 O28 st29 hO30 v33 v34 x24 x25 y31 h35 h36 hy32
        obtain ⟨rfl, r_y37⟩ := h35
        obtain ⟨rfl, r_y38⟩ := h36
        exact ⟨44, #[], #[], rfl, Try.call44, c44_coalition_Check_1 (n := x24) (most := x25) hO30 r_y37 r_y38 hy32⟩
      refine Rg_op_ (op_store (cs := [Value.nilFunc]) (vs := [(Value.func (.func 44) #[] #[])]) (cs' := [(Value.func (.func 44) #[] #[])]) (bs' := [(some b19, Obj.cells [(Value.func (.func 44) #[] #[])].toArray 56), (some b1, Obj.cells [(Value.int .i64 r_.slots), (Value.slice a_r__owners r_.owners.length c_r__owners), (Value.slice a_r__costs r_.costs.length c_r__costs)].toArray 25)]) (i := 0) ty56 hs22 rfl rfl rfl rfl rfl (le_lit rfl) rfl rfl rfl ?_)
      intro w39 p40 hs41
      replace f_r__owners := f_r__owners.step p40
      replace f_r__costs := f_r__costs.step p40
      replace F26 := F26.step p40
      clear p40 hs22
      obtain ⟨hs43, p44, f42⟩ := St.publishP (p := (rFv2 Try.prog (vI .i64) (vI .i64) vB)) (i := 0) (x := (fun x24 x25 => m44_coalition_Check_1 x24 x25)) hs41 rfl (mk_fv2 F26)
      replace f_r__owners := f_r__owners.step p44
      replace f_r__costs := f_r__costs.step p44
      replace F26 := F26.step p44
      clear p44 hs41
      refine Rg_nil ?_
      refine Wp_seq ?_
      refine Wp_seq ?_
      clear F26
      refine Wp_region ?_  -- 4 coalition.go:17
      refine Rg_op rfl (op_fieldAddr ty25 rfl ty23 (by decide) rfl (rfl : _ = (⟨_, 2, none⟩ : Addr)) ?_)
      refine Rg_op rfl (op_load (cs := [(Value.int .i64 r_.slots), (Value.slice a_r__owners r_.owners.length c_r__owners), (Value.slice a_r__costs r_.costs.length c_r__costs)]) (i := 0) ty23 hs43 rfl rfl rfl ?_)
      refine Rg_op rfl (op_len Try.underlying23 rfl ?_)
      refine Rg_op rfl (op_move (v := (Value.int .i64 0)) rfl ?_)
      refine Rg_nil ?_
      refine Wp_block ?_
      refine Wp_reset [] [(1, (Value.pointer (some ⟨b1, 0, none⟩))), (3, (Value.pointer (some (⟨b19, 0, none⟩ : Addr)))), (32, (Value.slice a_r__costs r_.costs.length c_r__costs)), (33, (Value.int .i64 (r_.costs.length : Int))), (34, (Value.int .i64 0))] rfl ⟨rfl, rfl, rfl, rfl, rfl, trivial⟩ fun ξ46 => ?_
      refine Wp_loopM [2, 4, 5, 34, 35, 36, 37, 38, 39, 40, 41, 42, 43, 44, 45, 46, 47, 48, 49, 50, 51, 52, 53, 54, 55, 56, 57, 58, 59, 60, 61, 62, 63, 64, 65] (fun m fr w' => ∃ (v_2 : Int) (Ebs : Ents), Ebs = [(some b1, Obj.cells [(Value.int .i64 r_.slots), (Value.slice a_r__owners r_.owners.length c_r__owners), (Value.slice a_r__costs r_.costs.length c_r__costs)].toArray 25)] ∧ fr [] [(34, (Value.int .i64 v_2))] ∧ Step (ks [(some b1, Obj.cells [(Value.int .i64 r_.slots), (Value.slice a_r__owners r_.owners.length c_r__owners), (Value.slice a_r__costs r_.costs.length c_r__costs)].toArray 25)] O) w39 (ks Ebs O) w' ∧ St ⟨w, [], []⟩ O w' Ebs ∧ InK .i64 v_2 ∧ loop1 (m22_coalition_Check_B0 r_) m v_2 = some x) (((r_.costs.length : Int) - 0).toNat + 1) ⟨0, _, rfl, ⟨Out.refl _ _, rfl, rfl, trivial⟩, Step.refl _ _, hs43, (show InK .i64 0 from by decide), hm⟩ ?_ ?_
      · rintro _ _ ⟨_, _, _, _, _, _, _, hm⟩; exact loop1_z hm
      · rintro m50 K49 hK49 ρ55 w51 ⟨v_2, Ebs, hEbs, hfr54, hst53, hs52, r_y45, hm⟩
        obtain ⟨sf47, hsf48, hm⟩ := loop1_s hm; unfold m22_coalition_Check_B0 at hm
        subst hEbs; rw [hfr54.eq]; clear hfr54
        replace f_r__owners := f_r__owners.step hst53
        replace f_r__costs := f_r__costs.step hst53
        replace f42 := f42.step hst53
        have ch56 := hst53
        refine Wp_seq ?_
        refine Wp_region ?_  -- 5 coalition.go:17
        refine Rg_op rfl (op_lss rfl rfl ?_)
        refine Rg_nil ?_
        refine Wp_seq ?_
        refine Wp_cond rfl (fun hc57 => ?_) (fun hc57 => ?_)
        ·
          replace hm := bif_t hm hc57
          refine Wp_skip ?_
          refine Wp_seq ?_
          refine Wp_block ?_
          refine Wp_seq ?_
          refine Wp_region ?_  -- 6 coalition.go:17
          refine Rg_op rfl (op_move (v := (Value.int .i64 v_2)) rfl ?_)
          replace hm := ck_some hm; obtain ⟨hc58, hm⟩ := hm
          refine Rg_op rfl (op_indexAddr (q := (rSl (rInt .i64))) ty23 ty22 rfl rfl f_r__costs rfl hc58.1 hc58.2 ?_)
          intro p59 f60
          refine Rg_op rfl (op_loadP ty22 rfl f60 rfl ?_)
          intro v61 h62
          obtain ⟨a_y63, c_y63, rfl, f_y63⟩ := un_sl h62
          refine Rg_op rfl (op_assign (v := (Value.int .i64 v_2)) rfl ?_)
          refine Rg_op rfl (op_assign (v := (Value.slice a_y63 (r_.costs.getD v_2.toNat default).length c_y63)) rfl ?_)
          refine Rg_nil ?_
          refine Wp_reset2 [2, 4, 5, 34, 35, 36, 37, 38, 39, 40, 41, 42, 43, 44, 45, 46, 47, 48, 49, 50, 51, 52, 53, 54, 55, 56, 57, 58, 59, 60, 61, 62, 63, 64, 65] [] (updL ⟨ξ46, []⟩ [(1, (Value.pointer (some ⟨b1, 0, none⟩))), (3, (Value.pointer (some (⟨b19, 0, none⟩ : Addr)))), (32, (Value.slice a_r__costs r_.costs.length c_r__costs)), (33, (Value.int .i64 (r_.costs.length : Int))), (34, (Value.int .i64 0))]) [(4, (Value.int .i64 v_2)), (5, (Value.slice a_y63 (r_.costs.getD v_2.toNat default).length c_y63)), (34, (Value.int .i64 v_2))] (by repeat (first | with_reducible exact Out.refl _ _ | refine Out.upd ?_ rfl | refine Out.updL ?_ rfl | refine Out.mix' ?_ rfl | exact Out.refl _ _)) rfl ⟨rfl, rfl, rfl, trivial⟩ fun ξ64 => ?_
          replace hm := jn_elim hm; obtain ⟨k66, hk67, hm⟩ := hm
          refine Wp_seqJ [39, 40, 41, 42, 43, 44, 45, 46, 47, 48, 49, 50, 51, 52, 53, 54, 55, 56, 57, 58, 59, 60, 61, 62, 63, 64] (fun fr w' => ∃ (v_3 : Bool) (Ebs : Ents), Ebs = [(some b1, Obj.cells [(Value.int .i64 r_.slots), (Value.slice a_r__owners r_.owners.length c_r__owners), (Value.slice a_r__costs r_.costs.length c_r__costs)].toArray 25)] ∧ fr [] [(64, (Value.bool v_3))] ∧ Step (ks [(some b1, Obj.cells [(Value.int .i64 r_.slots), (Value.slice a_r__owners r_.owners.length c_r__owners), (Value.slice a_r__costs r_.costs.length c_r__costs)].toArray 25)] O) w51 (ks Ebs O) w' ∧ St ⟨w, [], []⟩ O w' Ebs ∧ k66 v_3 = some x) ?_ ?_
          ·
            rintro ρ73 w69 ⟨v_3, Ebs, hEbs, hfr72, hst71, hs70, hm⟩
            replace hm := jnE1 hk67 hm
            subst hEbs; rw [hfr72.eq]; clear hfr72
            replace f_r__owners := f_r__owners.step hst71
            replace f_r__costs := f_r__costs.step hst71
            replace f42 := f42.step hst71
            replace f60 := f60.step hst71
            replace f_y63 := f_y63.step hst71
            replace ch56 := ch56.trans hst71
            clear hst71 hs52
            refine Wp_cond rfl (fun hc74 => ?_) (fun hc74 => ?_)
            ·
              replace hm := bif_t hm hc74
              refine Wp_seq ?_
              clear f42 f60 f_y63
              refine Wp_region ?_  -- 8 coalition.go:19
              refine Rg_op rfl (op_assign (v := (Value.int .i64 370)) rfl ?_)
              refine Rg_nil ?_
              refine Wp_ret ?_
              have hz := step_all hs70
              replace f_r__owners := f_r__owners.step hz
              replace f_r__costs := f_r__costs.step hz
              refine ⟨_, (show Closes [] _ _ from rfl), [(Value.int .i64 370)], ⟨rfl, trivial⟩, hs70.ext, ?_⟩
              exact Vr.eq (a := (vI .i64)) (x := 370) ⟨rfl, (show InK .i64 370 from by decide)⟩ (Option.some.inj hm)
            ·
              replace hm := bif_f hm hc74
              refine Wp_skip ?_
              clear f60 f_y63
              refine Wp_region ?_  -- 9 coalition.go:17
              refine Rg_op rfl (op_addw rfl rfl ?_)
              refine Rg_op rfl (op_move (v := (Value.int .i64 (IntKind.wrap .i64 (v_2 + 1)))) rfl ?_)
              refine Rg_nil ?_
              exact hK49 _ _ ⟨(IntKind.wrap .i64 (v_2 + 1)), _, rfl, ⟨(by repeat (first | with_reducible exact Out.refl _ _ | refine Out.upd ?_ rfl | refine Out.updL ?_ rfl | refine Out.mix' ?_ rfl | exact Out.refl _ _)), rfl, rfl, trivial⟩, ch56, hs70, (inK_wrap .i64 _), jnE1 hsf48 hm⟩
          ·
            intro K68 hK68
            have ch75 := Step.refl (ks [(some b1, Obj.cells [(Value.int .i64 r_.slots), (Value.slice a_r__owners r_.owners.length c_r__owners), (Value.slice a_r__costs r_.costs.length c_r__costs)].toArray 25)] O) w51
            clear f60
            refine Wp_drawR (g0 := []) (m := 24) (fl := []) (TS_inv hs52) (.inl rfl) rfl (by decide +kernel) ?_  -- 7
            refine Dw_op (VD O [(some b1, Obj.cells [(Value.int .i64 r_.slots), (Value.slice a_r__owners r_.owners.length c_r__owners), (Value.slice a_r__costs r_.costs.length c_r__costs)].toArray 25)] (vFv2 Try.prog (vI .i64) (vI .i64) vB) (fun x24 x25 => m44_coalition_Check_1 x24 x25)) (VD.stab _ _) (fun ρ76 w77 g hle hi ht => ?_) ?_
            ·
              obtain ⟨-, hst, -⟩ := hle
              replace f42 := f42.step hst
              refine StepOp_plain (op_loadP ty56 (ht 3 rfl) f42 rfl ?_)
              intro v79 h80
              have F81 := (un_fv2 h80).2; clear h80
              exact Goes.same hi (show Vr.vd (vFv2 Try.prog (vI .i64) (vI .i64) vB) _ _ _ _ from F81)
            refine Dw_eq (Value.pointer (some ⟨b1, 1, none⟩)) (fun ρ82 w83 g hle hi ht => ?_) ?_
            ·
              obtain ⟨-, hst, -⟩ := hle
              refine StepOp_plain (op_fieldAddr ty25 rfl ty22 (by decide) (ht 1 rfl) (rfl : _ = (⟨_, 1, none⟩ : Addr)) ?_)
              exact Goes.same hi rfl
            refine Dw_eq (Value.slice a_r__owners r_.owners.length c_r__owners) (fun ρ85 w86 g hle hi ht => ?_) ?_
            ·
              obtain ⟨-, hst, -⟩ := hle
              have hsn := (Step.nx hi).1
              refine StepOp_plain (op_load (cs := [(Value.int .i64 r_.slots), (Value.slice a_r__owners r_.owners.length c_r__owners), (Value.slice a_r__costs r_.costs.length c_r__costs)]) (i := 0) ty22 hsn (ht 40 rfl) rfl rfl ?_)
              exact Goes.same hi rfl
            refine Dw_eq (Value.int .i64 v_2) (fun ρ88 w89 g hle hi ht => ?_) ?_
            ·
              obtain ⟨-, hst, -⟩ := hle
              refine StepOp_plain (op_move (v := (Value.int .i64 v_2)) (ht 4 rfl) ?_)
              exact Goes.same hi rfl
            replace hm := ck_some hm; obtain ⟨hc94, hm⟩ := hm
            refine Dw_op (VP O [(some b1, Obj.cells [(Value.int .i64 r_.slots), (Value.slice a_r__owners r_.owners.length c_r__owners), (Value.slice a_r__costs r_.costs.length c_r__costs)].toArray 25)] (rInt .i64) (r_.owners.getD v_2.toNat default)) (VP.stab _ _) (fun ρ91 w92 g hle hi ht => ?_) ?_
            ·
              obtain ⟨-, hst, -⟩ := hle
              replace f_r__owners := f_r__owners.step hst
              refine StepOp_plain (op_indexAddr (q := (rInt .i64)) ty22 ty3 (ht 41 rfl) (ht 42 rfl) f_r__owners rfl hc94.1 hc94.2 ?_)
              intro p95 f96
              exact Goes.same hi ⟨_, rfl, f96⟩
            refine Dw_op (VD O [(some b1, Obj.cells [(Value.int .i64 r_.slots), (Value.slice a_r__owners r_.owners.length c_r__owners), (Value.slice a_r__costs r_.costs.length c_r__costs)].toArray 25)] (vI .i64) (r_.owners.getD v_2.toNat default)) (VD.stab _ _) (fun ρ97 w98 g hle hi ht => ?_) ?_
            ·
              obtain ⟨-, hst, -⟩ := hle
              obtain ⟨p100, q101, f102⟩ := ht 43 rfl
              refine StepOp_plain (op_loadP ty3 q101 f102 rfl ?_)
              intro v103 h104
              obtain ⟨rfl, r_y105⟩ := un_int h104
              exact Goes.same hi (show Vr.vd (vI .i64) _ _ _ _ from ⟨rfl, r_y105⟩)
            replace hm := bd hm; obtain ⟨r_1, hv116, hm⟩ := hm
            refine Dw_op (VD O [(some b1, Obj.cells [(Value.int .i64 r_.slots), (Value.slice a_r__owners r_.owners.length c_r__owners), (Value.slice a_r__costs r_.costs.length c_r__costs)].toArray 25)] vB r_1) (VD.stab _ _) (fun ρ106 w107 g hle hi ht => ?_) ?_
            ·
              obtain ⟨-, hst, -⟩ := hle
              have h109 : Vr.vd (vFv2 Try.prog (vI .i64) (vI .i64) vB) _ _ _ _ := ht 39 rfl
              obtain ⟨v112, q110, F_y111⟩ : ∃ v, _ = v ∧ Vr.vd (vFv2 Try.prog (vI .i64) (vI .i64) vB) _ _ v (fun x24 x25 => m44_coalition_Check_1 x24 x25) := ⟨_, rfl, h109⟩
              replace F_y111 : CallsTo2 Try.prog _ _ v112 (vI .i64) (vI .i64) vB (fun x24 x25 => m44_coalition_Check_1 x24 x25) := F_y111
              have h113 : Vr.vd (vI .i64) _ _ _ _ := ht 44 rfl
              obtain ⟨q114, r_y115⟩ := h113
              refine StepOp_plain (op_callF q110 (F_y111.call hi.ltw ⟨rfl, r_y115⟩ ⟨rfl, (show InK .i64 7 from by decide)⟩ hv116) (by simp only [List.map, Array.toList, (show ev _ (.tmp 44) = _ from q114), (show ev _ (.const (.int .i64 7)) = .int .i64 7 from rfl)] <;> rfl) ?_)
              rintro v117 w118 ⟨hx119, h120⟩
              exact Goes.call hi hx119 h120
            refine Dw_opB r_1 (fun ρ122 w123 g hle hi ht => ?_) (fun hg128 => ?_) (fun hg128 => ?_)
            ·
              obtain ⟨-, hst, -⟩ := hle
              have h125 : Vr.vd vB _ _ _ _ := ht 45 rfl
              have q126 : _ = (Value.bool r_1) := h125
              refine StepOp_plain (op_move (v := (Value.bool r_1)) q126 ?_)
              exact Goes.same hi rfl
            ·
              replace hm := bif_t hm hg128
              refine Dw_skip (fun _ _ _ ht => wanted_x rfl (ht 46 rfl) rfl) ?_
              refine Dw_skip (fun _ _ _ ht => wanted_x rfl (ht 46 rfl) rfl) ?_
              refine Dw_skip (fun _ _ _ ht => wanted_x rfl (ht 46 rfl) rfl) ?_
              refine Dw_skip (fun _ _ _ ht => wanted_x rfl (ht 46 rfl) rfl) ?_
              refine Dw_skip (fun _ _ _ ht => wanted_x rfl (ht 46 rfl) rfl) ?_
              refine Dw_eq (Value.bool true) (fun ρ129 w130 g hle hi ht => ?_) ?_
              ·
                obtain ⟨-, hst, -⟩ := hle
                refine StepOp_plain (op_pick_t (v := (Value.bool true)) (ht 46 rfl) rfl ?_)
                exact Goes.same hi rfl
              refine Dw_eq (Value.bool true) (fun ρ132 w133 g hle hi ht => ?_) ?_
              ·
                obtain ⟨-, hst, -⟩ := hle
                refine StepOp_plain (op_move (v := (Value.bool true)) (ht 52 rfl) ?_)
                exact Goes.same hi rfl
              refine Dw_skip (fun _ _ _ ht => wanted_x rfl (ht 53 rfl) rfl) ?_
              refine Dw_skip (fun _ _ _ ht => wanted_x rfl (ht 53 rfl) rfl) ?_
              refine Dw_skip (fun _ _ _ ht => wanted_x rfl (ht 53 rfl) rfl) ?_
              refine Dw_skip (fun _ _ _ ht => wanted_x rfl (ht 53 rfl) rfl) ?_
              refine Dw_skip (fun _ _ _ ht => wanted_x rfl (ht 53 rfl) rfl) ?_
              refine Dw_eq (Value.bool true) (fun ρ135 w136 g hle hi ht => ?_) ?_
              ·
                obtain ⟨-, hst, -⟩ := hle
                refine StepOp_plain (op_pick_t (v := (Value.bool true)) (ht 53 rfl) rfl ?_)
                exact Goes.same hi rfl
              refine Dw_eq (Value.bool true) (fun ρ138 w139 g hle hi ht => ?_) ?_
              ·
                obtain ⟨-, hst, -⟩ := hle
                refine StepOp_plain (op_move (v := (Value.bool true)) (ht 59 rfl) ?_)
                exact Goes.same hi rfl
              refine Dw_skip (fun _ _ _ ht => wanted_x rfl (ht 60 rfl) rfl) ?_
              refine Dw_skip (fun _ _ _ ht => wanted_x rfl (ht 60 rfl) rfl) ?_
              refine Dw_nil fun w145 g146 hl147 hi148 => ?_
              obtain ⟨-, hst149, -⟩ := hl147
              obtain ⟨hs151, p150⟩ := Step.nx hi148
              rintro _ rfl
              rintro _ rfl
              rintro _ rfl
              rintro _ rfl
              rintro _ rfl
              rintro _ rfl
              rintro _ rfl
              rintro _ rfl
              rintro _ rfl
              rintro _ rfl
              rintro _ rfl
              rintro _ rfl
              rintro _ rfl
              rintro _ rfl
              rintro _ rfl
              rintro _ rfl
              rintro _ rfl
              rintro v152 h153
              replace h153 : Vr.vd vB _ _ _ _ := h153
              obtain rfl := h153
              rintro v155 h156
              replace h156 : Vr.vd (vI .i64) _ _ _ _ := h156
              obtain ⟨rfl, r_y157⟩ := h156
              rintro _ ⟨p158, rfl, f159⟩
              rintro _ rfl
              rintro _ rfl
              rintro _ rfl
              rintro v160 h161
              replace h161 : Vr.vd (vFv2 Try.prog (vI .i64) (vI .i64) vB) _ _ _ _ := h161
              have F_y162 := h161
              replace F_y162 : CallsTo2 Try.prog _ _ v160 (vI .i64) (vI .i64) vB (fun x24 x25 => m44_coalition_Check_1 x24 x25) := F_y162
              have p164 : Step (ks [(some b1, Obj.cells [(Value.int .i64 r_.slots), (Value.slice a_r__owners r_.owners.length c_r__owners), (Value.slice a_r__costs r_.costs.length c_r__costs)].toArray 25)] O) w51 (ks [(some b1, Obj.cells [(Value.int .i64 r_.slots), (Value.slice a_r__owners r_.owners.length c_r__owners), (Value.slice a_r__costs r_.costs.length c_r__costs)].toArray 25)] O) w145 := hst149.trans p150
              replace f159 := f159.step p150
              replace F_y162 := F_y162.step p150
              replace f_r__owners := f_r__owners.step p164
              replace f_r__costs := f_r__costs.step p164
              replace f42 := f42.step p164
              replace f_y63 := f_y63.step p164
              replace ch56 := ch56.trans p164
              replace ch75 := ch75.trans p164
              clear p164 hs52
              refine Rg_opx rfl (asB_ne rfl rfl) rfl ?_
              refine Rg_op rfl (op_pick_t (v := (Value.bool true)) rfl rfl ?_)
              refine Rg_nil ?_
              exact hK68 _ _ ⟨true, _, rfl, ⟨(by repeat (first | with_reducible exact Out.refl _ _ | refine Out.upd ?_ rfl | refine Out.updL ?_ rfl | refine Out.mix' ?_ rfl | exact Out.refl _ _)), rfl, rfl, trivial⟩, ch75, hs151, hm⟩
            ·
              replace hm := bif_f hm hg128
              refine Dw_eq (Value.slice a_y63 (r_.costs.getD v_2.toNat default).length c_y63) (fun ρ165 w166 g hle hi ht => ?_) ?_
              ·
                obtain ⟨-, hst, -⟩ := hle
                refine StepOp_g rfl (ht 46 rfl) (op_move (v := (Value.slice a_y63 (r_.costs.getD v_2.toNat default).length c_y63)) (ht 5 rfl) ?_)
                exact Goes.same hi rfl
              refine Dw_eq (Value.int .i64 ((r_.costs.getD v_2.toNat default).length : Int)) (fun ρ168 w169 g hle hi ht => ?_) ?_
              ·
                obtain ⟨-, hst, -⟩ := hle
                refine StepOp_g rfl (ht 46 rfl) (op_len Try.underlying22 (ht 47 rfl) ?_)
                exact Goes.same hi rfl
              refine Dw_eq (Value.pointer (some ⟨b1, 0, none⟩)) (fun ρ171 w172 g hle hi ht => ?_) ?_
              ·
                obtain ⟨-, hst, -⟩ := hle
                refine StepOp_g rfl (ht 46 rfl) (op_fieldAddr ty25 rfl ty3 (by decide) (ht 1 rfl) (rfl : _ = (⟨_, 0, none⟩ : Addr)) ?_)
                exact Goes.same hi rfl
              refine Dw_eq (Value.int .i64 r_.slots) (fun ρ174 w175 g hle hi ht => ?_) ?_
              ·
                obtain ⟨-, hst, -⟩ := hle
                have hsn := (Step.nx hi).1
                refine StepOp_g rfl (ht 46 rfl) (op_load (cs := [(Value.int .i64 r_.slots), (Value.slice a_r__owners r_.owners.length c_r__owners), (Value.slice a_r__costs r_.costs.length c_r__costs)]) (i := 0) ty3 hsn (ht 49 rfl) rfl rfl ?_)
                exact Goes.same hi rfl
              refine Dw_eq (Value.bool (decide (((r_.costs.getD v_2.toNat default).length : Int) ≠ r_.slots))) (fun ρ177 w178 g hle hi ht => ?_) ?_
              ·
                obtain ⟨-, hst, -⟩ := hle
                refine StepOp_g rfl (ht 46 rfl) (op_neq (ht 48 rfl) (ht 50 rfl) ?_)
                exact Goes.same hi rfl
              refine Dw_eq (Value.bool (decide (((r_.costs.getD v_2.toNat default).length : Int) ≠ r_.slots))) (fun ρ180 w181 g hle hi ht => ?_) ?_
              ·
                obtain ⟨-, hst, -⟩ := hle
                refine StepOp_plain (op_pick_f (v := (Value.bool (decide (((r_.costs.getD v_2.toNat default).length : Int) ≠ r_.slots)))) (ht 46 rfl) (ht 51 rfl) ?_)
                exact Goes.same hi rfl
              refine Dw_opB (decide (((r_.costs.getD v_2.toNat default).length : Int) ≠ r_.slots)) (fun ρ183 w184 g hle hi ht => ?_) (fun hg186 => ?_) (fun hg186 => ?_)
              ·
                obtain ⟨-, hst, -⟩ := hle
                refine StepOp_plain (op_move (v := (Value.bool (decide (((r_.costs.getD v_2.toNat default).length : Int) ≠ r_.slots)))) (ht 52 rfl) ?_)
                exact Goes.same hi rfl
              ·
                replace hm := bif_t hm hg186
                refine Dw_skip (fun _ _ _ ht => wanted_x rfl (ht 53 rfl) rfl) ?_
                refine Dw_skip (fun _ _ _ ht => wanted_x rfl (ht 53 rfl) rfl) ?_
                refine Dw_skip (fun _ _ _ ht => wanted_x rfl (ht 53 rfl) rfl) ?_
                refine Dw_skip (fun _ _ _ ht => wanted_x rfl (ht 53 rfl) rfl) ?_
                refine Dw_skip (fun _ _ _ ht => wanted_x rfl (ht 53 rfl) rfl) ?_
                refine Dw_eq (Value.bool true) (fun ρ187 w188 g hle hi ht => ?_) ?_
                ·
                  obtain ⟨-, hst, -⟩ := hle
                  refine StepOp_plain (op_pick_t (v := (Value.bool true)) (ht 53 rfl) rfl ?_)
                  exact Goes.same hi rfl
                refine Dw_eq (Value.bool true) (fun ρ190 w191 g hle hi ht => ?_) ?_
                ·
                  obtain ⟨-, hst, -⟩ := hle
                  refine StepOp_plain (op_move (v := (Value.bool true)) (ht 59 rfl) ?_)
                  exact Goes.same hi rfl
                refine Dw_skip (fun _ _ _ ht => wanted_x rfl (ht 60 rfl) rfl) ?_
                refine Dw_skip (fun _ _ _ ht => wanted_x rfl (ht 60 rfl) rfl) ?_
                refine Dw_nil fun w197 g198 hl199 hi200 => ?_
                obtain ⟨-, hst201, -⟩ := hl199
                obtain ⟨hs203, p202⟩ := Step.nx hi200
                rintro _ rfl
                rintro _ rfl
                rintro _ rfl
                rintro _ rfl
                rintro _ rfl
                rintro _ rfl
                rintro _ rfl
                rintro _ rfl
                rintro _ rfl
                rintro _ rfl
                rintro _ rfl
                rintro _ rfl
                rintro _ rfl
                rintro _ rfl
                rintro _ rfl
                rintro _ rfl
                rintro _ rfl
                rintro v204 h205
                replace h205 : Vr.vd vB _ _ _ _ := h205
                obtain rfl := h205
                rintro v207 h208
                replace h208 : Vr.vd (vI .i64) _ _ _ _ := h208
                obtain ⟨rfl, r_y209⟩ := h208
                rintro _ ⟨p210, rfl, f211⟩
                rintro _ rfl
                rintro _ rfl
                rintro _ rfl
                rintro v212 h213
                replace h213 : Vr.vd (vFv2 Try.prog (vI .i64) (vI .i64) vB) _ _ _ _ := h213
                have F_y214 := h213
                replace F_y214 : CallsTo2 Try.prog _ _ v212 (vI .i64) (vI .i64) vB (fun x24 x25 => m44_coalition_Check_1 x24 x25) := F_y214
                have p216 : Step (ks [(some b1, Obj.cells [(Value.int .i64 r_.slots), (Value.slice a_r__owners r_.owners.length c_r__owners), (Value.slice a_r__costs r_.costs.length c_r__costs)].toArray 25)] O) w51 (ks [(some b1, Obj.cells [(Value.int .i64 r_.slots), (Value.slice a_r__owners r_.owners.length c_r__owners), (Value.slice a_r__costs r_.costs.length c_r__costs)].toArray 25)] O) w197 := hst201.trans p202
                replace f211 := f211.step p202
                replace F_y214 := F_y214.step p202
                replace f_r__owners := f_r__owners.step p216
                replace f_r__costs := f_r__costs.step p216
                replace f42 := f42.step p216
                replace f_y63 := f_y63.step p216
                replace ch56 := ch56.trans p216
                replace ch75 := ch75.trans p216
                clear p216 hs52
                refine Rg_opx rfl (asB_ne rfl rfl) rfl ?_
                refine Rg_op rfl (op_pick_t (v := (Value.bool true)) rfl rfl ?_)
                refine Rg_nil ?_
                exact hK68 _ _ ⟨true, _, rfl, ⟨(by repeat (first | with_reducible exact Out.refl _ _ | refine Out.upd ?_ rfl | refine Out.updL ?_ rfl | refine Out.mix' ?_ rfl | exact Out.refl _ _)), rfl, rfl, trivial⟩, ch75, hs203, hm⟩
              ·
                replace hm := bif_f hm hg186
                refine Dw_eq (Value.slice a_y63 (r_.costs.getD v_2.toNat default).length c_y63) (fun ρ217 w218 g hle hi ht => ?_) ?_
                ·
                  obtain ⟨-, hst, -⟩ := hle
                  refine StepOp_g rfl (ht 53 rfl) (op_move (v := (Value.slice a_y63 (r_.costs.getD v_2.toNat default).length c_y63)) (ht 5 rfl) ?_)
                  exact Goes.same hi rfl
                refine Dw_eq (Value.int .i64 v_2) (fun ρ220 w221 g hle hi ht => ?_) ?_
                ·
                  obtain ⟨-, hst, -⟩ := hle
                  refine StepOp_g rfl (ht 53 rfl) (op_move (v := (Value.int .i64 v_2)) (ht 4 rfl) ?_)
                  exact Goes.same hi rfl
                replace hm := ck_some hm; obtain ⟨hc226, hm⟩ := hm
                refine Dw_op (VP O [(some b1, Obj.cells [(Value.int .i64 r_.slots), (Value.slice a_r__owners r_.owners.length c_r__owners), (Value.slice a_r__costs r_.costs.length c_r__costs)].toArray 25)] (rInt .i64) ((r_.costs.getD v_2.toNat default).getD v_2.toNat default)) (VP.stab _ _) (fun ρ223 w224 g hle hi ht => ?_) ?_
                ·
                  obtain ⟨-, hst, -⟩ := hle
                  replace f_y63 := f_y63.step hst
                  refine StepOp_g rfl (ht 53 rfl) (op_indexAddr (q := (rInt .i64)) ty22 ty3 (ht 54 rfl) (ht 55 rfl) f_y63 rfl hc226.1 hc226.2 ?_)
                  intro p227 f228
                  exact Goes.same hi ⟨_, rfl, f228⟩
                refine Dw_op (VD O [(some b1, Obj.cells [(Value.int .i64 r_.slots), (Value.slice a_r__owners r_.owners.length c_r__owners), (Value.slice a_r__costs r_.costs.length c_r__costs)].toArray 25)] (vI .i64) ((r_.costs.getD v_2.toNat default).getD v_2.toNat default)) (VD.stab _ _) (fun ρ229 w230 g hle hi ht => ?_) ?_
                ·
                  obtain ⟨-, hst, -⟩ := hle
                  obtain ⟨p232, q233, f234⟩ := ht 56 rfl
                  refine StepOp_g rfl (ht 53 rfl) (op_loadP ty3 q233 f234 rfl ?_)
                  intro v235 h236
                  obtain ⟨rfl, r_y237⟩ := un_int h236
                  exact Goes.same hi (show Vr.vd (vI .i64) _ _ _ _ from ⟨rfl, r_y237⟩)
                refine Dw_eq (Value.bool (decide (((r_.costs.getD v_2.toNat default).getD v_2.toNat default) < 0))) (fun ρ238 w239 g hle hi ht => ?_) ?_
                ·
                  obtain ⟨-, hst, -⟩ := hle
                  have h241 : Vr.vd (vI .i64) _ _ _ _ := ht 57 rfl
                  obtain ⟨q242, r_y243⟩ := h241
                  refine StepOp_g rfl (ht 53 rfl) (op_lss q242 rfl ?_)
                  exact Goes.same hi rfl
                refine Dw_eq (Value.bool (decide (((r_.costs.getD v_2.toNat default).getD v_2.toNat default) < 0))) (fun ρ244 w245 g hle hi ht => ?_) ?_
                ·
                  obtain ⟨-, hst, -⟩ := hle
                  refine StepOp_plain (op_pick_f (v := (Value.bool (decide (((r_.costs.getD v_2.toNat default).getD v_2.toNat default) < 0)))) (ht 53 rfl) (ht 58 rfl) ?_)
                  exact Goes.same hi rfl
                refine Dw_opB (decide (((r_.costs.getD v_2.toNat default).getD v_2.toNat default) < 0)) (fun ρ247 w248 g hle hi ht => ?_) (fun hg250 => ?_) (fun hg250 => ?_)
                ·
                  obtain ⟨-, hst, -⟩ := hle
                  refine StepOp_plain (op_move (v := (Value.bool (decide (((r_.costs.getD v_2.toNat default).getD v_2.toNat default) < 0)))) (ht 59 rfl) ?_)
                  exact Goes.same hi rfl
                ·
                  replace hm := bif_t hm hg250
                  refine Dw_skip (fun _ _ _ ht => wanted_x rfl (ht 60 rfl) rfl) ?_
                  refine Dw_skip (fun _ _ _ ht => wanted_x rfl (ht 60 rfl) rfl) ?_
                  refine Dw_nil fun w255 g256 hl257 hi258 => ?_
                  obtain ⟨-, hst259, -⟩ := hl257
                  obtain ⟨hs261, p260⟩ := Step.nx hi258
                  rintro _ rfl
                  rintro _ rfl
                  rintro _ rfl
                  rintro _ rfl
                  rintro _ rfl
                  rintro v262 h263
                  replace h263 : Vr.vd (vI .i64) _ _ _ _ := h263
                  obtain ⟨rfl, r_y264⟩ := h263
                  rintro _ ⟨p265, rfl, f266⟩
                  rintro _ rfl
                  rintro _ rfl
                  rintro _ rfl
                  rintro _ rfl
                  rintro _ rfl
                  rintro _ rfl
                  rintro _ rfl
                  rintro _ rfl
                  rintro _ rfl
                  rintro _ rfl
                  rintro v267 h268
                  replace h268 : Vr.vd vB _ _ _ _ := h268
                  obtain rfl := h268
                  rintro v270 h271
                  replace h271 : Vr.vd (vI .i64) _ _ _ _ := h271
                  obtain ⟨rfl, r_y272⟩ := h271
                  rintro _ ⟨p273, rfl, f274⟩
                  rintro _ rfl
                  rintro _ rfl
                  rintro _ rfl
                  rintro v275 h276
                  replace h276 : Vr.vd (vFv2 Try.prog (vI .i64) (vI .i64) vB) _ _ _ _ := h276
                  have F_y277 := h276
                  replace F_y277 : CallsTo2 Try.prog _ _ v275 (vI .i64) (vI .i64) vB (fun x24 x25 => m44_coalition_Check_1 x24 x25) := F_y277
                  have p279 : Step (ks [(some b1, Obj.cells [(Value.int .i64 r_.slots), (Value.slice a_r__owners r_.owners.length c_r__owners), (Value.slice a_r__costs r_.costs.length c_r__costs)].toArray 25)] O) w51 (ks [(some b1, Obj.cells [(Value.int .i64 r_.slots), (Value.slice a_r__owners r_.owners.length c_r__owners), (Value.slice a_r__costs r_.costs.length c_r__costs)].toArray 25)] O) w255 := hst259.trans p260
                  replace f266 := f266.step p260
                  replace f274 := f274.step p260
                  replace F_y277 := F_y277.step p260
                  replace f_r__owners := f_r__owners.step p279
                  replace f_r__costs := f_r__costs.step p279
                  replace f42 := f42.step p279
                  replace f_y63 := f_y63.step p279
                  replace ch56 := ch56.trans p279
                  replace ch75 := ch75.trans p279
                  clear p279 hs52
                  refine Rg_opx rfl (asB_ne rfl rfl) rfl ?_
                  refine Rg_op rfl (op_pick_t (v := (Value.bool true)) rfl rfl ?_)
                  refine Rg_nil ?_
                  exact hK68 _ _ ⟨true, _, rfl, ⟨(by repeat (first | with_reducible exact Out.refl _ _ | refine Out.upd ?_ rfl | refine Out.updL ?_ rfl | refine Out.mix' ?_ rfl | exact Out.refl _ _)), rfl, rfl, trivial⟩, ch75, hs261, hm⟩
                ·
                  replace hm := bif_f hm hg250
                  refine Dw_eq (Value.slice a_y63 (r_.costs.getD v_2.toNat default).length c_y63) (fun ρ280 w281 g hle hi ht => ?_) ?_
                  ·
                    obtain ⟨-, hst, -⟩ := hle
                    refine StepOp_g rfl (ht 60 rfl) (op_move (v := (Value.slice a_y63 (r_.costs.getD v_2.toNat default).length c_y63)) (ht 5 rfl) ?_)
                    exact Goes.same hi rfl
                  have F287 : CallsTo1 Try.prog w51 (ks [(some b1, Obj.cells [(Value.int .i64 r_.slots), (Value.slice a_r__owners r_.owners.length c_r__owners), (Value.slice a_r__costs r_.costs.length c_r__costs)].toArray 25)] O) (Value.func (.func 46) #[] #[(Value.pointer (some (⟨b19, 0, none⟩ : Addr)))]) (vI .i64) vB (fun x286 => m46_coalition_Check_2 x286 (fun x24 x25 => m44_coalition_Check_1 x24 x25)) := by
                    intro w288 O289 st290 hO291 v294 x286 y292 h295 hy293
                    obtain ⟨rfl, r_y296⟩ := h295
                    exact ⟨46, #[], #[(Value.pointer (some (⟨b19, 0, none⟩ : Addr)))], rfl, Try.call46, c46_coalition_Check_2 (c := x286) hO291 r_y296 (f42.step st290) hy293⟩
                  refine Dw_eq (Value.func (.func 46) #[] #[(Value.pointer (some (⟨b19, 0, none⟩ : Addr)))]) (fun ρ283 w284 g hle hi ht => ?_) ?_
                  ·
                    obtain ⟨-, hst, -⟩ := hle
                    refine StepOp_g rfl (ht 60 rfl) (op_makeFunc' (a' := []) (c' := [(Value.pointer (some (⟨b19, 0, none⟩ : Addr)))]) rfl (by simp only [List.map, Array.toList, (show ev _ (.tmp 3) = _ from (ht 3 rfl))] <;> rfl) ?_)
                    exact Goes.same hi rfl
                  refine Dw_nil fun w301 g302 hl303 hi304 => ?_
                  obtain ⟨-, hst305, -⟩ := hl303
                  obtain ⟨hs307, p306⟩ := Step.nx hi304
                  rintro _ rfl
                  rintro _ rfl
                  rintro _ rfl
                  rintro _ rfl
                  rintro _ rfl
                  rintro v308 h309
                  replace h309 : Vr.vd (vI .i64) _ _ _ _ := h309
                  obtain ⟨rfl, r_y310⟩ := h309
                  rintro _ ⟨p311, rfl, f312⟩
                  rintro _ rfl
                  rintro _ rfl
                  rintro _ rfl
                  rintro _ rfl
                  rintro _ rfl
                  rintro _ rfl
                  rintro _ rfl
                  rintro _ rfl
                  rintro _ rfl
                  rintro _ rfl
                  rintro v313 h314
                  replace h314 : Vr.vd vB _ _ _ _ := h314
                  obtain rfl := h314
                  rintro v316 h317
                  replace h317 : Vr.vd (vI .i64) _ _ _ _ := h317
                  obtain ⟨rfl, r_y318⟩ := h317
                  rintro _ ⟨p319, rfl, f320⟩
                  rintro _ rfl
                  rintro _ rfl
                  rintro _ rfl
                  rintro v321 h322
                  replace h322 : Vr.vd (vFv2 Try.prog (vI .i64) (vI .i64) vB) _ _ _ _ := h322
                  have F_y323 := h322
                  replace F_y323 : CallsTo2 Try.prog _ _ v321 (vI .i64) (vI .i64) vB (fun x24 x25 => m44_coalition_Check_1 x24 x25) := F_y323
                  have p325 : Step (ks [(some b1, Obj.cells [(Value.int .i64 r_.slots), (Value.slice a_r__owners r_.owners.length c_r__owners), (Value.slice a_r__costs r_.costs.length c_r__costs)].toArray 25)] O) w51 (ks [(some b1, Obj.cells [(Value.int .i64 r_.slots), (Value.slice a_r__owners r_.owners.length c_r__owners), (Value.slice a_r__costs r_.costs.length c_r__costs)].toArray 25)] O) w301 := hst305.trans p306
                  replace f312 := f312.step p306
                  replace f320 := f320.step p306
                  replace F_y323 := F_y323.step p306
                  replace f_r__owners := f_r__owners.step p325
                  replace f_r__costs := f_r__costs.step p325
                  replace f42 := f42.step p325
                  replace f_y63 := f_y63.step p325
                  replace F287 := F287.step p325
                  replace ch56 := ch56.trans p325
                  replace ch75 := ch75.trans p325
                  clear p325 hs52
                  replace hm := bd hm; obtain ⟨containsfunc_1, hv326, hm⟩ := hm
                  refine Rg_opg rfl rfl rfl (op_call Try.call45 (c45_slices_ContainsFuncint_int_ (s := (r_.costs.getD v_2.toNat default)) (f := (fun x286 => m46_coalition_Check_2 x286 (fun x24 x25 => m44_coalition_Check_1 x24 x25))) hs307.ltw f_y63 F287 hv326) rfl ?_)
                  rintro v327 w328 ⟨hx329, h330⟩
                  have hs331 := hs307.call hx329
                  have p332 := Step.ext (O := ks [(some b1, Obj.cells [(Value.int .i64 r_.slots), (Value.slice a_r__owners r_.owners.length c_r__owners), (Value.slice a_r__costs r_.costs.length c_r__costs)].toArray 25)] O) hx329
                  clear hx329
                  replace f_r__owners := f_r__owners.step p332
                  replace f_r__costs := f_r__costs.step p332
                  replace f42 := f42.step p332
                  replace f_y63 := f_y63.step p332
                  replace F287 := F287.step p332
                  replace f312 := f312.step p332
                  replace f320 := f320.step p332
                  replace F_y323 := F_y323.step p332
                  replace ch56 := ch56.trans p332
                  replace ch75 := ch75.trans p332
                  clear p332 hs307
                  obtain rfl := h330
                  refine Rg_op rfl (op_pick_f (v := (Value.bool containsfunc_1)) rfl rfl ?_)
                  refine Rg_nil ?_
                  exact hK68 _ _ ⟨containsfunc_1, _, rfl, ⟨(by repeat (first | with_reducible exact Out.refl _ _ | refine Out.upd ?_ rfl | refine Out.updL ?_ rfl | refine Out.mix' ?_ rfl | exact Out.refl _ _)), rfl, rfl, trivial⟩, ch75, hs331, hm⟩
        ·
          replace hm := bif_f hm hc57
          refine Wp_exit ?_
          refine Wp_seq ?_
          obtain ⟨hs334, p335⟩ := hs52.sub (bs' := []) (.cons _ List.Sublist.slnil)
          clear f_r__owners f_r__costs f42
          replace ch56 := ch56.trans p335
          clear p335 hs52
          refine Wp_region ?_  -- 10 coalition.go:22
          refine Rg_op rfl (op_assign (v := (Value.int .i64 0)) rfl ?_)
          refine Rg_nil ?_
          refine Wp_ret ?_
          have hz := step_all hs334
          refine ⟨_, (show Closes [] _ _ from rfl), [(Value.int .i64 0)], ⟨rfl, trivial⟩, hs334.ext, ?_⟩
          exact Vr.eq (a := (vI .i64)) (x := 0) ⟨rfl, (show InK .i64 0 from by decide)⟩ (Option.some.inj hm)
  ·
    intro K10 hK10
    have ch336 := Step.refl (ks [(some b1, Obj.cells [(Value.int .i64 r_.slots), (Value.slice a_r__owners r_.owners.length c_r__owners), (Value.slice a_r__costs r_.costs.length c_r__costs)].toArray 25)] O) w2
    refine Wp_region ?_  -- 1 coalition.go:13
    refine Rg_op rfl (op_fieldAddr ty25 rfl ty3 (by decide) rfl (rfl : _ = (⟨_, 0, none⟩ : Addr)) ?_)
    refine Rg_op rfl (op_load (cs := [(Value.int .i64 r_.slots), (Value.slice a_r__owners r_.owners.length c_r__owners), (Value.slice a_r__costs r_.costs.length c_r__costs)]) (i := 0) ty3 hs4 rfl rfl rfl ?_)
    refine Rg_op rfl (op_lss rfl rfl ?_)
    refine Rg_op rfl (op_move (v := (Value.bool (decide (r_.slots < 1)))) rfl ?_)
    refine Rg_case (fun hg337 => ?_) (fun hg337 => ?_)
    ·
      replace hm := bif_t hm hg337
      refine Rg_opx rfl (asB_ne rfl rfl) rfl ?_
      refine Rg_opx rfl (asB_ne rfl rfl) rfl ?_
      refine Rg_opx rfl (asB_ne rfl rfl) rfl ?_
      refine Rg_op rfl (op_pick_t (v := (Value.bool true)) rfl rfl ?_)
      refine Rg_op rfl (op_move (v := (Value.bool true)) rfl ?_)
      refine Rg_opx rfl (asB_ne rfl rfl) rfl ?_
      refine Rg_opx rfl (asB_ne rfl rfl) rfl ?_
      refine Rg_opx rfl (asB_ne rfl rfl) rfl ?_
      refine Rg_opx rfl (asB_ne rfl rfl) rfl ?_
      refine Rg_opx rfl (asB_ne rfl rfl) rfl ?_
      refine Rg_opx rfl (asB_ne rfl rfl) rfl ?_
      refine Rg_op rfl (op_pick_t (v := (Value.bool true)) rfl rfl ?_)
      refine Rg_op rfl (op_move (v := (Value.bool true)) rfl ?_)
      refine Rg_opx rfl (asB_ne rfl rfl) rfl ?_
      refine Rg_opx rfl (asB_ne rfl rfl) rfl ?_
      refine Rg_opx rfl (asB_ne rfl rfl) rfl ?_
      refine Rg_opx rfl (asB_ne rfl rfl) rfl ?_
      refine Rg_opx rfl (asB_ne rfl rfl) rfl ?_
      refine Rg_opx rfl (asB_ne rfl rfl) rfl ?_
      refine Rg_opx rfl (asB_ne rfl rfl) rfl ?_
      refine Rg_op rfl (op_pick_t (v := (Value.bool true)) rfl rfl ?_)
      refine Rg_nil ?_
      exact hK10 _ _ ⟨true, _, rfl, ⟨(by repeat (first | with_reducible exact Out.refl _ _ | refine Out.upd ?_ rfl | refine Out.updL ?_ rfl | refine Out.mix' ?_ rfl | exact Out.refl _ _)), rfl, rfl, trivial⟩, ch336, hs4, hm⟩
    ·
      replace hm := bif_f hm hg337
      refine Rg_opg rfl rfl rfl (op_fieldAddr ty25 rfl ty3 (by decide) rfl (rfl : _ = (⟨_, 0, none⟩ : Addr)) ?_)
      refine Rg_opg rfl rfl rfl (op_load (cs := [(Value.int .i64 r_.slots), (Value.slice a_r__owners r_.owners.length c_r__owners), (Value.slice a_r__costs r_.costs.length c_r__costs)]) (i := 0) ty3 hs4 rfl rfl rfl ?_)
      refine Rg_opg rfl rfl rfl (op_gtr rfl rfl ?_)
      refine Rg_op rfl (op_pick_f (v := (Value.bool (decide (8 < r_.slots)))) rfl rfl ?_)
      refine Rg_op rfl (op_move (v := (Value.bool (decide (8 < r_.slots)))) rfl ?_)
      refine Rg_case (fun hg338 => ?_) (fun hg338 => ?_)
      ·
        replace hm := bif_t hm hg338
        refine Rg_opx rfl (asB_ne rfl rfl) rfl ?_
        refine Rg_opx rfl (asB_ne rfl rfl) rfl ?_
        refine Rg_opx rfl (asB_ne rfl rfl) rfl ?_
        refine Rg_opx rfl (asB_ne rfl rfl) rfl ?_
        refine Rg_opx rfl (asB_ne rfl rfl) rfl ?_
        refine Rg_opx rfl (asB_ne rfl rfl) rfl ?_
        refine Rg_op rfl (op_pick_t (v := (Value.bool true)) rfl rfl ?_)
        refine Rg_op rfl (op_move (v := (Value.bool true)) rfl ?_)
        refine Rg_opx rfl (asB_ne rfl rfl) rfl ?_
        refine Rg_opx rfl (asB_ne rfl rfl) rfl ?_
        refine Rg_opx rfl (asB_ne rfl rfl) rfl ?_
        refine Rg_opx rfl (asB_ne rfl rfl) rfl ?_
        refine Rg_opx rfl (asB_ne rfl rfl) rfl ?_
        refine Rg_opx rfl (asB_ne rfl rfl) rfl ?_
        refine Rg_opx rfl (asB_ne rfl rfl) rfl ?_
        refine Rg_op rfl (op_pick_t (v := (Value.bool true)) rfl rfl ?_)
        refine Rg_nil ?_
        exact hK10 _ _ ⟨true, _, rfl, ⟨(by repeat (first | with_reducible exact Out.refl _ _ | refine Out.upd ?_ rfl | refine Out.updL ?_ rfl | refine Out.mix' ?_ rfl | exact Out.refl _ _)), rfl, rfl, trivial⟩, ch336, hs4, hm⟩
      ·
        replace hm := bif_f hm hg338
        refine Rg_opg rfl rfl rfl (op_fieldAddr ty25 rfl ty22 (by decide) rfl (rfl : _ = (⟨_, 1, none⟩ : Addr)) ?_)
        refine Rg_opg rfl rfl rfl (op_load (cs := [(Value.int .i64 r_.slots), (Value.slice a_r__owners r_.owners.length c_r__owners), (Value.slice a_r__costs r_.costs.length c_r__costs)]) (i := 0) ty22 hs4 rfl rfl rfl ?_)
        refine Rg_opg rfl rfl rfl (op_len Try.underlying22 rfl ?_)
        refine Rg_opg rfl rfl rfl (op_fieldAddr ty25 rfl ty3 (by decide) rfl (rfl : _ = (⟨_, 0, none⟩ : Addr)) ?_)
        refine Rg_opg rfl rfl rfl (op_load (cs := [(Value.int .i64 r_.slots), (Value.slice a_r__owners r_.owners.length c_r__owners), (Value.slice a_r__costs r_.costs.length c_r__costs)]) (i := 0) ty3 hs4 rfl rfl rfl ?_)
        refine Rg_opg rfl rfl rfl (op_gtr rfl rfl ?_)
        refine Rg_op rfl (op_pick_f (v := (Value.bool (decide (r_.slots < (r_.owners.length : Int))))) rfl rfl ?_)
        refine Rg_op rfl (op_move (v := (Value.bool (decide (r_.slots < (r_.owners.length : Int))))) rfl ?_)
        refine Rg_case (fun hg339 => ?_) (fun hg339 => ?_)
        ·
          replace hm := bif_t hm hg339
          refine Rg_opx rfl (asB_ne rfl rfl) rfl ?_
          refine Rg_opx rfl (asB_ne rfl rfl) rfl ?_
          refine Rg_opx rfl (asB_ne rfl rfl) rfl ?_
          refine Rg_opx rfl (asB_ne rfl rfl) rfl ?_
          refine Rg_opx rfl (asB_ne rfl rfl) rfl ?_
          refine Rg_opx rfl (asB_ne rfl rfl) rfl ?_
          refine Rg_opx rfl (asB_ne rfl rfl) rfl ?_
          refine Rg_op rfl (op_pick_t (v := (Value.bool true)) rfl rfl ?_)
          refine Rg_nil ?_
          exact hK10 _ _ ⟨true, _, rfl, ⟨(by repeat (first | with_reducible exact Out.refl _ _ | refine Out.upd ?_ rfl | refine Out.updL ?_ rfl | refine Out.mix' ?_ rfl | exact Out.refl _ _)), rfl, rfl, trivial⟩, ch336, hs4, hm⟩
        ·
          replace hm := bif_f hm hg339
          refine Rg_opg rfl rfl rfl (op_fieldAddr ty25 rfl ty23 (by decide) rfl (rfl : _ = (⟨_, 2, none⟩ : Addr)) ?_)
          refine Rg_opg rfl rfl rfl (op_load (cs := [(Value.int .i64 r_.slots), (Value.slice a_r__owners r_.owners.length c_r__owners), (Value.slice a_r__costs r_.costs.length c_r__costs)]) (i := 0) ty23 hs4 rfl rfl rfl ?_)
          refine Rg_opg rfl rfl rfl (op_len Try.underlying23 rfl ?_)
          refine Rg_opg rfl rfl rfl (op_fieldAddr ty25 rfl ty22 (by decide) rfl (rfl : _ = (⟨_, 1, none⟩ : Addr)) ?_)
          refine Rg_opg rfl rfl rfl (op_load (cs := [(Value.int .i64 r_.slots), (Value.slice a_r__owners r_.owners.length c_r__owners), (Value.slice a_r__costs r_.costs.length c_r__costs)]) (i := 0) ty22 hs4 rfl rfl rfl ?_)
          refine Rg_opg rfl rfl rfl (op_len Try.underlying22 rfl ?_)
          refine Rg_opg rfl rfl rfl (op_neq rfl rfl ?_)
          refine Rg_op rfl (op_pick_f (v := (Value.bool (decide ((r_.costs.length : Int) ≠ (r_.owners.length : Int))))) rfl rfl ?_)
          refine Rg_nil ?_
          exact hK10 _ _ ⟨(decide ((r_.costs.length : Int) ≠ (r_.owners.length : Int))), _, rfl, ⟨(by repeat (first | with_reducible exact Out.refl _ _ | refine Out.upd ?_ rfl | refine Out.updL ?_ rfl | refine Out.mix' ?_ rfl | exact Out.refl _ _)), rfl, rfl, trivial⟩, ch336, hs4, hm⟩

end Go.Fx


set_option linter.unusedVariables false
set_option linter.unusedSimpArgs false
set_option maxRecDepth 100000
set_option maxHeartbeats 0
namespace Go.Fx
open Go Go.RowKit Go.Proofs
def m64_slices_Indexint_int__B0 (s : List Int) (v : Int) (sf3 : Int → Option Int) (v_1 : Int) : Option Int :=
  bif (decide (v_1 < (s.length : Int))) then
    ck ((0 : Int) ≤ v_1 ∧ v_1 < (s.length : Int)) <|
    bif (decide (v = (s.getD v_1.toNat default))) then
      some v_1
    else
      sf3 (IntKind.wrap .i64 (v_1 + 1))
  else
    some (-1)

def m64_slices_Indexint_int_ (s : List Int) (v : Int) : Option Int :=
  loop1 (m64_slices_Indexint_int__B0 s v) (((s.length : Int) - 0).toNat + 1) 0

theorem c64_slices_Indexint_int_ {w : World} {O : List Nat} {s : List Int} {v : Int} {a_s : Option Addr} {c_s : Nat} (hO : ∀ k ∈ O, k < w.heap.size) (f_s : SlR (rInt .i64) w O a_s c_s s) (r_v : InK .i64 v) {x : Int} (hm : m64_slices_Indexint_int_ s v = some x) :
    Ok Try.prog 64 [(Value.slice a_s s.length c_s), (Value.int .i64 v)] w O (vI .i64) x := by
  unfold m64_slices_Indexint_int_ at hm
  refine Fn_of_Wp (n := 19) (xs := [.tmp 4]) Try.func64 rfl Try.ntmps64 Try.results64 rfl ?_
  have hs := St.start hO
  refine Wp_seq ?_
  refine Wp_region ?_  -- 0 slices.go:96
  refine Rg_op rfl (op_assign (v := (Value.int .i64 0)) rfl ?_)
  refine Rg_nil ?_
  refine Wp_seq ?_
  refine Wp_seq ?_
  refine Wp_region ?_  -- 1 slices.go:97
  refine Rg_op rfl (op_move (v := (Value.slice a_s s.length c_s)) rfl ?_)
  refine Rg_op rfl (op_len Try.underlying22 rfl ?_)
  refine Rg_op rfl (op_move (v := (Value.int .i64 0)) rfl ?_)
  refine Rg_nil ?_
  refine Wp_block ?_
  refine Wp_reset [] [(0, (Value.slice a_s s.length c_s)), (1, (Value.int .i64 v)), (7, (Value.int .i64 (s.length : Int))), (8, (Value.int .i64 0))] rfl ⟨rfl, rfl, rfl, rfl, trivial⟩ fun ξ2 => ?_
  refine Wp_loopM [4, 5, 8, 9, 10, 11, 12, 13, 14, 15, 16, 17, 18] (fun m fr w' => ∃ (v_1 : Int) (Ebs : Ents), Ebs = [] ∧ fr [] [(8, (Value.int .i64 v_1))] ∧ Step (ks [] O) w (ks Ebs O) w' ∧ St ⟨w, [], []⟩ O w' Ebs ∧ InK .i64 v_1 ∧ loop1 (m64_slices_Indexint_int__B0 s v) m v_1 = some x) (((s.length : Int) - 0).toNat + 1) ⟨0, _, rfl, ⟨Out.refl _ _, rfl, rfl, trivial⟩, Step.refl _ _, hs, (show InK .i64 0 from by decide), hm⟩ ?_ ?_
  · rintro _ _ ⟨_, _, _, _, _, _, _, hm⟩; exact loop1_z hm
  · rintro m6 K5 hK5 ρ11 w7 ⟨v_1, Ebs, hEbs, hfr10, hst9, hs8, r_y1, hm⟩
    obtain ⟨sf3, hsf4, hm⟩ := loop1_s hm; unfold m64_slices_Indexint_int__B0 at hm
    subst hEbs; rw [hfr10.eq]; clear hfr10
    replace f_s := f_s.step hst9
    have ch12 := hst9
    refine Wp_seq ?_
    refine Wp_region ?_  -- 2 slices.go:97
    refine Rg_op rfl (op_lss rfl rfl ?_)
    refine Rg_nil ?_
    refine Wp_seq ?_
    refine Wp_cond rfl (fun hc13 => ?_) (fun hc13 => ?_)
    ·
      replace hm := bif_t hm hc13
      refine Wp_skip ?_
      refine Wp_seq ?_
      refine Wp_block ?_
      refine Wp_seq ?_
      refine Wp_region ?_  -- 3 slices.go:97
      refine Rg_op rfl (op_move (v := (Value.int .i64 v_1)) rfl ?_)
      refine Rg_op rfl (op_assign (v := (Value.int .i64 v_1)) rfl ?_)
      refine Rg_nil ?_
      refine Wp_seq ?_
      refine Wp_region ?_  -- 4 slices.go:98
      refine Rg_op rfl (op_move (v := (Value.int .i64 v)) rfl ?_)
      refine Rg_op rfl (op_move (v := (Value.slice a_s s.length c_s)) rfl ?_)
      refine Rg_op rfl (op_move (v := (Value.int .i64 v_1)) rfl ?_)
      replace hm := ck_some hm; obtain ⟨hc14, hm⟩ := hm
      refine Rg_op rfl (op_indexAddr (q := (rInt .i64)) ty22 ty3 rfl rfl f_s rfl hc14.1 hc14.2 ?_)
      intro p15 f16
      refine Rg_op rfl (op_loadP ty3 rfl f16 rfl ?_)
      intro v17 h18
      obtain ⟨rfl, r_y19⟩ := un_int h18
      refine Rg_op rfl (op_eql rfl rfl ?_)
      refine Rg_nil ?_
      refine Wp_cond rfl (fun hc20 => ?_) (fun hc20 => ?_)
      ·
        replace hm := bif_t hm hc20
        refine Wp_seq ?_
        clear f_s f16
        refine Wp_region ?_  -- 5 slices.go:99
        refine Rg_op rfl (op_move (v := (Value.int .i64 v_1)) rfl ?_)
        refine Rg_op rfl (op_assign (v := (Value.int .i64 v_1)) rfl ?_)
        refine Rg_nil ?_
        refine Wp_ret ?_
        have hz := step_all hs8
        refine ⟨_, (show Closes [] _ _ from rfl), [(Value.int .i64 v_1)], ⟨rfl, trivial⟩, hs8.ext, ?_⟩
        exact Vr.eq (a := (vI .i64)) (x := v_1) ⟨rfl, r_y1⟩ (Option.some.inj hm)
      ·
        replace hm := bif_f hm hc20
        refine Wp_skip ?_
        clear f16
        refine Wp_region ?_  -- 6 slices.go:97
        refine Rg_op rfl (op_addw rfl rfl ?_)
        refine Rg_op rfl (op_move (v := (Value.int .i64 (IntKind.wrap .i64 (v_1 + 1)))) rfl ?_)
        refine Rg_nil ?_
        exact hK5 _ _ ⟨(IntKind.wrap .i64 (v_1 + 1)), _, rfl, ⟨(by repeat (first | with_reducible exact Out.refl _ _ | refine Out.upd ?_ rfl | refine Out.updL ?_ rfl | refine Out.mix' ?_ rfl | exact Out.refl _ _)), rfl, rfl, trivial⟩, ch12, hs8, (inK_wrap .i64 _), jnE1 hsf4 hm⟩
    ·
      replace hm := bif_f hm hc13
      refine Wp_exit ?_
      refine Wp_seq ?_
      clear f_s
      refine Wp_region ?_  -- 7 slices.go:102
      refine Rg_op rfl (op_assign (v := (Value.int .i64 (-1))) rfl ?_)
      refine Rg_nil ?_
      refine Wp_ret ?_
      have hz := step_all hs8
      refine ⟨_, (show Closes [] _ _ from rfl), [(Value.int .i64 (-1))], ⟨rfl, trivial⟩, hs8.ext, ?_⟩
      exact Vr.eq (a := (vI .i64)) (x := (-1)) ⟨rfl, (show InK .i64 (-1) from by decide)⟩ (Option.some.inj hm)

end Go.Fx


set_option linter.unusedVariables false
set_option linter.unusedSimpArgs false
set_option maxRecDepth 100000
set_option maxHeartbeats 0
namespace Go.Fx
open Go Go.RowKit Go.Proofs
def m43_slices_Containsint_int_ (s : List Int) (v : Int) : Option Bool :=
  (m64_slices_Indexint_int_ s v).bind fun index_1 =>
  some (decide (0 ≤ index_1))

theorem c43_slices_Containsint_int_ {w : World} {O : List Nat} {s : List Int} {v : Int} {a_s : Option Addr} {c_s : Nat} (hO : ∀ k ∈ O, k < w.heap.size) (f_s : SlR (rInt .i64) w O a_s c_s s) (r_v : InK .i64 v) {x : Bool} (hm : m43_slices_Containsint_int_ s v = some x) :
    Ok Try.prog 43 [(Value.slice a_s s.length c_s), (Value.int .i64 v)] w O vB x := by
  unfold m43_slices_Containsint_int_ at hm
  refine Fn_of_Wp (n := 9) (xs := [.tmp 4]) Try.func43 rfl Try.ntmps43 Try.results43 rfl ?_
  have hs := St.start hO
  refine Wp_seq ?_
  refine Wp_region ?_  -- 0 slices.go:117
  refine Rg_op rfl (op_assign (v := (Value.bool false)) rfl ?_)
  refine Rg_nil ?_
  refine Wp_seq ?_
  refine Wp_region ?_  -- 1 slices.go:118
  refine Rg_op rfl (op_move (v := (Value.slice a_s s.length c_s)) rfl ?_)
  refine Rg_op rfl (op_move (v := (Value.int .i64 v)) rfl ?_)
  replace hm := bd hm; obtain ⟨index_1, hv1, hm⟩ := hm
  refine Rg_op rfl (op_call Try.call64 (c64_slices_Indexint_int_ (s := s) (v := v) hs.ltw f_s r_v hv1) rfl ?_)
  rintro v2 w3 ⟨hx4, h5⟩
  have hs6 := hs.call hx4
  have p7 := Step.ext (O := ks [] O) hx4
  clear hx4
  replace f_s := f_s.step p7
  clear p7
  obtain ⟨rfl, r_y8⟩ := h5
  refine Rg_op rfl (op_geq rfl rfl ?_)
  refine Rg_op rfl (op_assign (v := (Value.bool (decide (0 ≤ index_1)))) rfl ?_)
  refine Rg_nil ?_
  refine Wp_ret ?_
  have hz := step_all hs6
  replace f_s := f_s.step hz
  refine ⟨_, (show Closes [] _ _ from rfl), [(Value.bool (decide (0 ≤ index_1)))], ⟨rfl, trivial⟩, hs6.ext, ?_⟩
  exact Vr.eq (a := vB) (x := (decide (0 ≤ index_1))) rfl (Option.some.inj hm)

end Go.Fx

