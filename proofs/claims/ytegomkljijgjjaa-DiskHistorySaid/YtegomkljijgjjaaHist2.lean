/- Part 2 of the proof: for every list of writes and syncs and every number, the law DiskHistory of chapter 44 returns true. -/
import Derived.Test.YtegomkljijgjjaaHist1
import Derived.Laws.Closers25b
import Derived.Laws.Shifts
import Derived.ProofKit
import Derived.OpenShut
import Derived.ChangeOld
import Derived.Below
import Derived.SizedLaws
import Derived.Test.YtegomkljijgjjaaChecked
import Derived.Test.YtegomkljijgjjaaRows
import Derived.WalkKit
import Derived.ShutString
/- What the models of functions are made of; more operations. No program in sight. -/
set_option linter.unusedSimpArgs false
set_option linter.unusedVariables false
namespace Go.Fx
open Go Go.RowKit

/-! models -/
section model
universe u v
variable {R : Type} {α : Type u} {x : R} {m a b : Option R} {c : Bool}
/-- on only where c holds -/
def ck (c : Prop) [Decidable c] (m : Option R) : Option R := if c then m else none
/-- where ways meet -/
def jn (k : α) (f : α → Option R) : Option R := f k
theorem ck_some {c : Prop} [Decidable c] (h : ck c m = some x) : c ∧ m = some x := by
  unfold ck at h; split at h
  · exact ⟨‹_›, h⟩
  · cases h
theorem ck_pos {c : Prop} [Decidable c] (h : c) : ck c m = m := if_pos h
theorem ck_neg {c : Prop} [Decidable c] (h : ¬ c) : ck c m = none := if_neg h
theorem jn_elim {k : α} {f : α → Option R} (h : jn k f = some x) : ∃ j, j = k ∧ f j = some x := ⟨k, rfl, h⟩
theorem bif_t (h : (bif c then a else b) = some x) (hc : c = true) : a = some x := by rw [hc] at h; exact h
theorem bif_f (h : (bif c then a else b) = some x) (hc : c = false) : b = some x := by rw [hc] at h; exact h
theorem bd {β : Type} {o : Option β} {f : β → Option R} (h : o.bind f = some x) : ∃ v, o = some v ∧ f v = some x := by
  cases o with
  | none => cases h
  | some v => exact ⟨v, rfl, h⟩
theorem jnE0 {j f : Option R}  (e : j = f) (h : j  = some x) : f  = some x := e ▸ h
theorem jnR0 {j f : Option R}  (e : j = f) (h : j  = some x) : f  = some x := e ▸ h
@[irreducible] def loop0 (b : (Option R) → Option R) (n : Nat) : Option R := Nat.rec (none) (fun _ s => b s) n
theorem loop0_zero {b : (Option R) → Option R}  : loop0 b 0  = none := by unfold loop0; rfl
theorem loop0_succ {b : (Option R) → Option R} {n : Nat}  : loop0 b (n + 1)  = b (loop0 b n)  := by unfold loop0; rfl
theorem loop0_z {b : (Option R) → Option R}  (h : loop0 b 0  = some x) : False := by rw [loop0_zero] at h; cases h
theorem loop0_s {b : (Option R) → Option R} {n : Nat}  (h : loop0 b (n + 1)  = some x) : ∃ sf, sf = loop0 b n ∧ b sf  = some x := ⟨_, rfl, loop0_succ.symm.trans h⟩
theorem jnE1 {A0 : Type} {j f : A0 → Option R} {a0 : A0} (e : j = f) (h : j a0 = some x) : f a0 = some x := e ▸ h
theorem jnR1 {A0 : Type} {j f : A0 → Option R} {a0 : A0} (e : j = f) (h : j a0 = some x) : f a0 = some x := e ▸ h
@[irreducible] def loop1 {A0 : Type} (b : (A0 → Option R) → A0 → Option R) (n : Nat) : A0 → Option R := Nat.rec (fun _ => none) (fun _ s => b s) n
theorem loop1_zero {A0 : Type} {b : (A0 → Option R) → A0 → Option R} {a0 : A0} : loop1 b 0 a0 = none := by unfold loop1; rfl
theorem loop1_succ {A0 : Type} {b : (A0 → Option R) → A0 → Option R} {n : Nat} {a0 : A0} : loop1 b (n + 1) a0 = b (loop1 b n) a0 := by unfold loop1; rfl
theorem loop1_z {A0 : Type} {b : (A0 → Option R) → A0 → Option R} {a0 : A0} (h : loop1 b 0 a0 = some x) : False := by rw [loop1_zero] at h; cases h
theorem loop1_s {A0 : Type} {b : (A0 → Option R) → A0 → Option R} {n : Nat} {a0 : A0} (h : loop1 b (n + 1) a0 = some x) : ∃ sf, sf = loop1 b n ∧ b sf a0 = some x := ⟨_, rfl, loop1_succ.symm.trans h⟩
theorem jnE2 {A0 A1 : Type} {j f : A0 → A1 → Option R} {a0 : A0} {a1 : A1} (e : j = f) (h : j a0 a1 = some x) : f a0 a1 = some x := e ▸ h
theorem jnR2 {A0 A1 : Type} {j f : A0 → A1 → Option R} {a0 : A0} {a1 : A1} (e : j = f) (h : j a0 a1 = some x) : f a0 a1 = some x := e ▸ h
@[irreducible] def loop2 {A0 A1 : Type} (b : (A0 → A1 → Option R) → A0 → A1 → Option R) (n : Nat) : A0 → A1 → Option R := Nat.rec (fun _ _ => none) (fun _ s => b s) n
theorem loop2_zero {A0 A1 : Type} {b : (A0 → A1 → Option R) → A0 → A1 → Option R} {a0 : A0} {a1 : A1} : loop2 b 0 a0 a1 = none := by unfold loop2; rfl
theorem loop2_succ {A0 A1 : Type} {b : (A0 → A1 → Option R) → A0 → A1 → Option R} {n : Nat} {a0 : A0} {a1 : A1} : loop2 b (n + 1) a0 a1 = b (loop2 b n) a0 a1 := by unfold loop2; rfl
theorem loop2_z {A0 A1 : Type} {b : (A0 → A1 → Option R) → A0 → A1 → Option R} {a0 : A0} {a1 : A1} (h : loop2 b 0 a0 a1 = some x) : False := by rw [loop2_zero] at h; cases h
theorem loop2_s {A0 A1 : Type} {b : (A0 → A1 → Option R) → A0 → A1 → Option R} {n : Nat} {a0 : A0} {a1 : A1} (h : loop2 b (n + 1) a0 a1 = some x) : ∃ sf, sf = loop2 b n ∧ b sf a0 a1 = some x := ⟨_, rfl, loop2_succ.symm.trans h⟩
theorem jnE3 {A0 A1 A2 : Type} {j f : A0 → A1 → A2 → Option R} {a0 : A0} {a1 : A1} {a2 : A2} (e : j = f) (h : j a0 a1 a2 = some x) : f a0 a1 a2 = some x := e ▸ h
theorem jnR3 {A0 A1 A2 : Type} {j f : A0 → A1 → A2 → Option R} {a0 : A0} {a1 : A1} {a2 : A2} (e : j = f) (h : j a0 a1 a2 = some x) : f a0 a1 a2 = some x := e ▸ h
@[irreducible] def loop3 {A0 A1 A2 : Type} (b : (A0 → A1 → A2 → Option R) → A0 → A1 → A2 → Option R) (n : Nat) : A0 → A1 → A2 → Option R := Nat.rec (fun _ _ _ => none) (fun _ s => b s) n
theorem loop3_zero {A0 A1 A2 : Type} {b : (A0 → A1 → A2 → Option R) → A0 → A1 → A2 → Option R} {a0 : A0} {a1 : A1} {a2 : A2} : loop3 b 0 a0 a1 a2 = none := by unfold loop3; rfl
theorem loop3_succ {A0 A1 A2 : Type} {b : (A0 → A1 → A2 → Option R) → A0 → A1 → A2 → Option R} {n : Nat} {a0 : A0} {a1 : A1} {a2 : A2} : loop3 b (n + 1) a0 a1 a2 = b (loop3 b n) a0 a1 a2 := by unfold loop3; rfl
theorem loop3_z {A0 A1 A2 : Type} {b : (A0 → A1 → A2 → Option R) → A0 → A1 → A2 → Option R} {a0 : A0} {a1 : A1} {a2 : A2} (h : loop3 b 0 a0 a1 a2 = some x) : False := by rw [loop3_zero] at h; cases h
theorem loop3_s {A0 A1 A2 : Type} {b : (A0 → A1 → A2 → Option R) → A0 → A1 → A2 → Option R} {n : Nat} {a0 : A0} {a1 : A1} {a2 : A2} (h : loop3 b (n + 1) a0 a1 a2 = some x) : ∃ sf, sf = loop3 b n ∧ b sf a0 a1 a2 = some x := ⟨_, rfl, loop3_succ.symm.trans h⟩
theorem jnE4 {A0 A1 A2 A3 : Type} {j f : A0 → A1 → A2 → A3 → Option R} {a0 : A0} {a1 : A1} {a2 : A2} {a3 : A3} (e : j = f) (h : j a0 a1 a2 a3 = some x) : f a0 a1 a2 a3 = some x := e ▸ h
theorem jnR4 {A0 A1 A2 A3 : Type} {j f : A0 → A1 → A2 → A3 → Option R} {a0 : A0} {a1 : A1} {a2 : A2} {a3 : A3} (e : j = f) (h : j a0 a1 a2 a3 = some x) : f a0 a1 a2 a3 = some x := e ▸ h
@[irreducible] def loop4 {A0 A1 A2 A3 : Type} (b : (A0 → A1 → A2 → A3 → Option R) → A0 → A1 → A2 → A3 → Option R) (n : Nat) : A0 → A1 → A2 → A3 → Option R := Nat.rec (fun _ _ _ _ => none) (fun _ s => b s) n
theorem loop4_zero {A0 A1 A2 A3 : Type} {b : (A0 → A1 → A2 → A3 → Option R) → A0 → A1 → A2 → A3 → Option R} {a0 : A0} {a1 : A1} {a2 : A2} {a3 : A3} : loop4 b 0 a0 a1 a2 a3 = none := by unfold loop4; rfl
theorem loop4_succ {A0 A1 A2 A3 : Type} {b : (A0 → A1 → A2 → A3 → Option R) → A0 → A1 → A2 → A3 → Option R} {n : Nat} {a0 : A0} {a1 : A1} {a2 : A2} {a3 : A3} : loop4 b (n + 1) a0 a1 a2 a3 = b (loop4 b n) a0 a1 a2 a3 := by unfold loop4; rfl
theorem loop4_z {A0 A1 A2 A3 : Type} {b : (A0 → A1 → A2 → A3 → Option R) → A0 → A1 → A2 → A3 → Option R} {a0 : A0} {a1 : A1} {a2 : A2} {a3 : A3} (h : loop4 b 0 a0 a1 a2 a3 = some x) : False := by rw [loop4_zero] at h; cases h
theorem loop4_s {A0 A1 A2 A3 : Type} {b : (A0 → A1 → A2 → A3 → Option R) → A0 → A1 → A2 → A3 → Option R} {n : Nat} {a0 : A0} {a1 : A1} {a2 : A2} {a3 : A3} (h : loop4 b (n + 1) a0 a1 a2 a3 = some x) : ∃ sf, sf = loop4 b n ∧ b sf a0 a1 a2 a3 = some x := ⟨_, rfl, loop4_succ.symm.trans h⟩
theorem jnE5 {A0 A1 A2 A3 A4 : Type} {j f : A0 → A1 → A2 → A3 → A4 → Option R} {a0 : A0} {a1 : A1} {a2 : A2} {a3 : A3} {a4 : A4} (e : j = f) (h : j a0 a1 a2 a3 a4 = some x) : f a0 a1 a2 a3 a4 = some x := e ▸ h
theorem jnR5 {A0 A1 A2 A3 A4 : Type} {j f : A0 → A1 → A2 → A3 → A4 → Option R} {a0 : A0} {a1 : A1} {a2 : A2} {a3 : A3} {a4 : A4} (e : j = f) (h : j a0 a1 a2 a3 a4 = some x) : f a0 a1 a2 a3 a4 = some x := e ▸ h
@[irreducible] def loop5 {A0 A1 A2 A3 A4 : Type} (b : (A0 → A1 → A2 → A3 → A4 → Option R) → A0 → A1 → A2 → A3 → A4 → Option R) (n : Nat) : A0 → A1 → A2 → A3 → A4 → Option R := Nat.rec (fun _ _ _ _ _ => none) (fun _ s => b s) n
theorem loop5_zero {A0 A1 A2 A3 A4 : Type} {b : (A0 → A1 → A2 → A3 → A4 → Option R) → A0 → A1 → A2 → A3 → A4 → Option R} {a0 : A0} {a1 : A1} {a2 : A2} {a3 : A3} {a4 : A4} : loop5 b 0 a0 a1 a2 a3 a4 = none := by unfold loop5; rfl
theorem loop5_succ {A0 A1 A2 A3 A4 : Type} {b : (A0 → A1 → A2 → A3 → A4 → Option R) → A0 → A1 → A2 → A3 → A4 → Option R} {n : Nat} {a0 : A0} {a1 : A1} {a2 : A2} {a3 : A3} {a4 : A4} : loop5 b (n + 1) a0 a1 a2 a3 a4 = b (loop5 b n) a0 a1 a2 a3 a4 := by unfold loop5; rfl
theorem loop5_z {A0 A1 A2 A3 A4 : Type} {b : (A0 → A1 → A2 → A3 → A4 → Option R) → A0 → A1 → A2 → A3 → A4 → Option R} {a0 : A0} {a1 : A1} {a2 : A2} {a3 : A3} {a4 : A4} (h : loop5 b 0 a0 a1 a2 a3 a4 = some x) : False := by rw [loop5_zero] at h; cases h
theorem loop5_s {A0 A1 A2 A3 A4 : Type} {b : (A0 → A1 → A2 → A3 → A4 → Option R) → A0 → A1 → A2 → A3 → A4 → Option R} {n : Nat} {a0 : A0} {a1 : A1} {a2 : A2} {a3 : A3} {a4 : A4} (h : loop5 b (n + 1) a0 a1 a2 a3 a4 = some x) : ∃ sf, sf = loop5 b n ∧ b sf a0 a1 a2 a3 a4 = some x := ⟨_, rfl, loop5_succ.symm.trans h⟩
theorem jnE6 {A0 A1 A2 A3 A4 A5 : Type} {j f : A0 → A1 → A2 → A3 → A4 → A5 → Option R} {a0 : A0} {a1 : A1} {a2 : A2} {a3 : A3} {a4 : A4} {a5 : A5} (e : j = f) (h : j a0 a1 a2 a3 a4 a5 = some x) : f a0 a1 a2 a3 a4 a5 = some x := e ▸ h
theorem jnR6 {A0 A1 A2 A3 A4 A5 : Type} {j f : A0 → A1 → A2 → A3 → A4 → A5 → Option R} {a0 : A0} {a1 : A1} {a2 : A2} {a3 : A3} {a4 : A4} {a5 : A5} (e : j = f) (h : j a0 a1 a2 a3 a4 a5 = some x) : f a0 a1 a2 a3 a4 a5 = some x := e ▸ h
@[irreducible] def loop6 {A0 A1 A2 A3 A4 A5 : Type} (b : (A0 → A1 → A2 → A3 → A4 → A5 → Option R) → A0 → A1 → A2 → A3 → A4 → A5 → Option R) (n : Nat) : A0 → A1 → A2 → A3 → A4 → A5 → Option R := Nat.rec (fun _ _ _ _ _ _ => none) (fun _ s => b s) n
theorem loop6_zero {A0 A1 A2 A3 A4 A5 : Type} {b : (A0 → A1 → A2 → A3 → A4 → A5 → Option R) → A0 → A1 → A2 → A3 → A4 → A5 → Option R} {a0 : A0} {a1 : A1} {a2 : A2} {a3 : A3} {a4 : A4} {a5 : A5} : loop6 b 0 a0 a1 a2 a3 a4 a5 = none := by unfold loop6; rfl
theorem loop6_succ {A0 A1 A2 A3 A4 A5 : Type} {b : (A0 → A1 → A2 → A3 → A4 → A5 → Option R) → A0 → A1 → A2 → A3 → A4 → A5 → Option R} {n : Nat} {a0 : A0} {a1 : A1} {a2 : A2} {a3 : A3} {a4 : A4} {a5 : A5} : loop6 b (n + 1) a0 a1 a2 a3 a4 a5 = b (loop6 b n) a0 a1 a2 a3 a4 a5 := by unfold loop6; rfl
theorem loop6_z {A0 A1 A2 A3 A4 A5 : Type} {b : (A0 → A1 → A2 → A3 → A4 → A5 → Option R) → A0 → A1 → A2 → A3 → A4 → A5 → Option R} {a0 : A0} {a1 : A1} {a2 : A2} {a3 : A3} {a4 : A4} {a5 : A5} (h : loop6 b 0 a0 a1 a2 a3 a4 a5 = some x) : False := by rw [loop6_zero] at h; cases h
theorem loop6_s {A0 A1 A2 A3 A4 A5 : Type} {b : (A0 → A1 → A2 → A3 → A4 → A5 → Option R) → A0 → A1 → A2 → A3 → A4 → A5 → Option R} {n : Nat} {a0 : A0} {a1 : A1} {a2 : A2} {a3 : A3} {a4 : A4} {a5 : A5} (h : loop6 b (n + 1) a0 a1 a2 a3 a4 a5 = some x) : ∃ sf, sf = loop6 b n ∧ b sf a0 a1 a2 a3 a4 a5 = some x := ⟨_, rfl, loop6_succ.symm.trans h⟩
theorem jnE7 {A0 A1 A2 A3 A4 A5 A6 : Type} {j f : A0 → A1 → A2 → A3 → A4 → A5 → A6 → Option R} {a0 : A0} {a1 : A1} {a2 : A2} {a3 : A3} {a4 : A4} {a5 : A5} {a6 : A6} (e : j = f) (h : j a0 a1 a2 a3 a4 a5 a6 = some x) : f a0 a1 a2 a3 a4 a5 a6 = some x := e ▸ h
theorem jnR7 {A0 A1 A2 A3 A4 A5 A6 : Type} {j f : A0 → A1 → A2 → A3 → A4 → A5 → A6 → Option R} {a0 : A0} {a1 : A1} {a2 : A2} {a3 : A3} {a4 : A4} {a5 : A5} {a6 : A6} (e : j = f) (h : j a0 a1 a2 a3 a4 a5 a6 = some x) : f a0 a1 a2 a3 a4 a5 a6 = some x := e ▸ h
@[irreducible] def loop7 {A0 A1 A2 A3 A4 A5 A6 : Type} (b : (A0 → A1 → A2 → A3 → A4 → A5 → A6 → Option R) → A0 → A1 → A2 → A3 → A4 → A5 → A6 → Option R) (n : Nat) : A0 → A1 → A2 → A3 → A4 → A5 → A6 → Option R := Nat.rec (fun _ _ _ _ _ _ _ => none) (fun _ s => b s) n
theorem loop7_zero {A0 A1 A2 A3 A4 A5 A6 : Type} {b : (A0 → A1 → A2 → A3 → A4 → A5 → A6 → Option R) → A0 → A1 → A2 → A3 → A4 → A5 → A6 → Option R} {a0 : A0} {a1 : A1} {a2 : A2} {a3 : A3} {a4 : A4} {a5 : A5} {a6 : A6} : loop7 b 0 a0 a1 a2 a3 a4 a5 a6 = none := by unfold loop7; rfl
theorem loop7_succ {A0 A1 A2 A3 A4 A5 A6 : Type} {b : (A0 → A1 → A2 → A3 → A4 → A5 → A6 → Option R) → A0 → A1 → A2 → A3 → A4 → A5 → A6 → Option R} {n : Nat} {a0 : A0} {a1 : A1} {a2 : A2} {a3 : A3} {a4 : A4} {a5 : A5} {a6 : A6} : loop7 b (n + 1) a0 a1 a2 a3 a4 a5 a6 = b (loop7 b n) a0 a1 a2 a3 a4 a5 a6 := by unfold loop7; rfl
theorem loop7_z {A0 A1 A2 A3 A4 A5 A6 : Type} {b : (A0 → A1 → A2 → A3 → A4 → A5 → A6 → Option R) → A0 → A1 → A2 → A3 → A4 → A5 → A6 → Option R} {a0 : A0} {a1 : A1} {a2 : A2} {a3 : A3} {a4 : A4} {a5 : A5} {a6 : A6} (h : loop7 b 0 a0 a1 a2 a3 a4 a5 a6 = some x) : False := by rw [loop7_zero] at h; cases h
theorem loop7_s {A0 A1 A2 A3 A4 A5 A6 : Type} {b : (A0 → A1 → A2 → A3 → A4 → A5 → A6 → Option R) → A0 → A1 → A2 → A3 → A4 → A5 → A6 → Option R} {n : Nat} {a0 : A0} {a1 : A1} {a2 : A2} {a3 : A3} {a4 : A4} {a5 : A5} {a6 : A6} (h : loop7 b (n + 1) a0 a1 a2 a3 a4 a5 a6 = some x) : ∃ sf, sf = loop7 b n ∧ b sf a0 a1 a2 a3 a4 a5 a6 = some x := ⟨_, rfl, loop7_succ.symm.trans h⟩
theorem jnE8 {A0 A1 A2 A3 A4 A5 A6 A7 : Type} {j f : A0 → A1 → A2 → A3 → A4 → A5 → A6 → A7 → Option R} {a0 : A0} {a1 : A1} {a2 : A2} {a3 : A3} {a4 : A4} {a5 : A5} {a6 : A6} {a7 : A7} (e : j = f) (h : j a0 a1 a2 a3 a4 a5 a6 a7 = some x) : f a0 a1 a2 a3 a4 a5 a6 a7 = some x := e ▸ h
theorem jnR8 {A0 A1 A2 A3 A4 A5 A6 A7 : Type} {j f : A0 → A1 → A2 → A3 → A4 → A5 → A6 → A7 → Option R} {a0 : A0} {a1 : A1} {a2 : A2} {a3 : A3} {a4 : A4} {a5 : A5} {a6 : A6} {a7 : A7} (e : j = f) (h : j a0 a1 a2 a3 a4 a5 a6 a7 = some x) : f a0 a1 a2 a3 a4 a5 a6 a7 = some x := e ▸ h
@[irreducible] def loop8 {A0 A1 A2 A3 A4 A5 A6 A7 : Type} (b : (A0 → A1 → A2 → A3 → A4 → A5 → A6 → A7 → Option R) → A0 → A1 → A2 → A3 → A4 → A5 → A6 → A7 → Option R) (n : Nat) : A0 → A1 → A2 → A3 → A4 → A5 → A6 → A7 → Option R := Nat.rec (fun _ _ _ _ _ _ _ _ => none) (fun _ s => b s) n
theorem loop8_zero {A0 A1 A2 A3 A4 A5 A6 A7 : Type} {b : (A0 → A1 → A2 → A3 → A4 → A5 → A6 → A7 → Option R) → A0 → A1 → A2 → A3 → A4 → A5 → A6 → A7 → Option R} {a0 : A0} {a1 : A1} {a2 : A2} {a3 : A3} {a4 : A4} {a5 : A5} {a6 : A6} {a7 : A7} : loop8 b 0 a0 a1 a2 a3 a4 a5 a6 a7 = none := by unfold loop8; rfl
theorem loop8_succ {A0 A1 A2 A3 A4 A5 A6 A7 : Type} {b : (A0 → A1 → A2 → A3 → A4 → A5 → A6 → A7 → Option R) → A0 → A1 → A2 → A3 → A4 → A5 → A6 → A7 → Option R} {n : Nat} {a0 : A0} {a1 : A1} {a2 : A2} {a3 : A3} {a4 : A4} {a5 : A5} {a6 : A6} {a7 : A7} : loop8 b (n + 1) a0 a1 a2 a3 a4 a5 a6 a7 = b (loop8 b n) a0 a1 a2 a3 a4 a5 a6 a7 := by unfold loop8; rfl
theorem loop8_z {A0 A1 A2 A3 A4 A5 A6 A7 : Type} {b : (A0 → A1 → A2 → A3 → A4 → A5 → A6 → A7 → Option R) → A0 → A1 → A2 → A3 → A4 → A5 → A6 → A7 → Option R} {a0 : A0} {a1 : A1} {a2 : A2} {a3 : A3} {a4 : A4} {a5 : A5} {a6 : A6} {a7 : A7} (h : loop8 b 0 a0 a1 a2 a3 a4 a5 a6 a7 = some x) : False := by rw [loop8_zero] at h; cases h
theorem loop8_s {A0 A1 A2 A3 A4 A5 A6 A7 : Type} {b : (A0 → A1 → A2 → A3 → A4 → A5 → A6 → A7 → Option R) → A0 → A1 → A2 → A3 → A4 → A5 → A6 → A7 → Option R} {n : Nat} {a0 : A0} {a1 : A1} {a2 : A2} {a3 : A3} {a4 : A4} {a5 : A5} {a6 : A6} {a7 : A7} (h : loop8 b (n + 1) a0 a1 a2 a3 a4 a5 a6 a7 = some x) : ∃ sf, sf = loop8 b n ∧ b sf a0 a1 a2 a3 a4 a5 a6 a7 = some x := ⟨_, rfl, loop8_succ.symm.trans h⟩
theorem jnE9 {A0 A1 A2 A3 A4 A5 A6 A7 A8 : Type} {j f : A0 → A1 → A2 → A3 → A4 → A5 → A6 → A7 → A8 → Option R} {a0 : A0} {a1 : A1} {a2 : A2} {a3 : A3} {a4 : A4} {a5 : A5} {a6 : A6} {a7 : A7} {a8 : A8} (e : j = f) (h : j a0 a1 a2 a3 a4 a5 a6 a7 a8 = some x) : f a0 a1 a2 a3 a4 a5 a6 a7 a8 = some x := e ▸ h
theorem jnR9 {A0 A1 A2 A3 A4 A5 A6 A7 A8 : Type} {j f : A0 → A1 → A2 → A3 → A4 → A5 → A6 → A7 → A8 → Option R} {a0 : A0} {a1 : A1} {a2 : A2} {a3 : A3} {a4 : A4} {a5 : A5} {a6 : A6} {a7 : A7} {a8 : A8} (e : j = f) (h : j a0 a1 a2 a3 a4 a5 a6 a7 a8 = some x) : f a0 a1 a2 a3 a4 a5 a6 a7 a8 = some x := e ▸ h
@[irreducible] def loop9 {A0 A1 A2 A3 A4 A5 A6 A7 A8 : Type} (b : (A0 → A1 → A2 → A3 → A4 → A5 → A6 → A7 → A8 → Option R) → A0 → A1 → A2 → A3 → A4 → A5 → A6 → A7 → A8 → Option R) (n : Nat) : A0 → A1 → A2 → A3 → A4 → A5 → A6 → A7 → A8 → Option R := Nat.rec (fun _ _ _ _ _ _ _ _ _ => none) (fun _ s => b s) n
theorem loop9_zero {A0 A1 A2 A3 A4 A5 A6 A7 A8 : Type} {b : (A0 → A1 → A2 → A3 → A4 → A5 → A6 → A7 → A8 → Option R) → A0 → A1 → A2 → A3 → A4 → A5 → A6 → A7 → A8 → Option R} {a0 : A0} {a1 : A1} {a2 : A2} {a3 : A3} {a4 : A4} {a5 : A5} {a6 : A6} {a7 : A7} {a8 : A8} : loop9 b 0 a0 a1 a2 a3 a4 a5 a6 a7 a8 = none := by unfold loop9; rfl
theorem loop9_succ {A0 A1 A2 A3 A4 A5 A6 A7 A8 : Type} {b : (A0 → A1 → A2 → A3 → A4 → A5 → A6 → A7 → A8 → Option R) → A0 → A1 → A2 → A3 → A4 → A5 → A6 → A7 → A8 → Option R} {n : Nat} {a0 : A0} {a1 : A1} {a2 : A2} {a3 : A3} {a4 : A4} {a5 : A5} {a6 : A6} {a7 : A7} {a8 : A8} : loop9 b (n + 1) a0 a1 a2 a3 a4 a5 a6 a7 a8 = b (loop9 b n) a0 a1 a2 a3 a4 a5 a6 a7 a8 := by unfold loop9; rfl
theorem loop9_z {A0 A1 A2 A3 A4 A5 A6 A7 A8 : Type} {b : (A0 → A1 → A2 → A3 → A4 → A5 → A6 → A7 → A8 → Option R) → A0 → A1 → A2 → A3 → A4 → A5 → A6 → A7 → A8 → Option R} {a0 : A0} {a1 : A1} {a2 : A2} {a3 : A3} {a4 : A4} {a5 : A5} {a6 : A6} {a7 : A7} {a8 : A8} (h : loop9 b 0 a0 a1 a2 a3 a4 a5 a6 a7 a8 = some x) : False := by rw [loop9_zero] at h; cases h
theorem loop9_s {A0 A1 A2 A3 A4 A5 A6 A7 A8 : Type} {b : (A0 → A1 → A2 → A3 → A4 → A5 → A6 → A7 → A8 → Option R) → A0 → A1 → A2 → A3 → A4 → A5 → A6 → A7 → A8 → Option R} {n : Nat} {a0 : A0} {a1 : A1} {a2 : A2} {a3 : A3} {a4 : A4} {a5 : A5} {a6 : A6} {a7 : A7} {a8 : A8} (h : loop9 b (n + 1) a0 a1 a2 a3 a4 a5 a6 a7 a8 = some x) : ∃ sf, sf = loop9 b n ∧ b sf a0 a1 a2 a3 a4 a5 a6 a7 a8 = some x := ⟨_, rfl, loop9_succ.symm.trans h⟩
theorem jnE10 {A0 A1 A2 A3 A4 A5 A6 A7 A8 A9 : Type} {j f : A0 → A1 → A2 → A3 → A4 → A5 → A6 → A7 → A8 → A9 → Option R} {a0 : A0} {a1 : A1} {a2 : A2} {a3 : A3} {a4 : A4} {a5 : A5} {a6 : A6} {a7 : A7} {a8 : A8} {a9 : A9} (e : j = f) (h : j a0 a1 a2 a3 a4 a5 a6 a7 a8 a9 = some x) : f a0 a1 a2 a3 a4 a5 a6 a7 a8 a9 = some x := e ▸ h
theorem jnR10 {A0 A1 A2 A3 A4 A5 A6 A7 A8 A9 : Type} {j f : A0 → A1 → A2 → A3 → A4 → A5 → A6 → A7 → A8 → A9 → Option R} {a0 : A0} {a1 : A1} {a2 : A2} {a3 : A3} {a4 : A4} {a5 : A5} {a6 : A6} {a7 : A7} {a8 : A8} {a9 : A9} (e : j = f) (h : j a0 a1 a2 a3 a4 a5 a6 a7 a8 a9 = some x) : f a0 a1 a2 a3 a4 a5 a6 a7 a8 a9 = some x := e ▸ h
@[irreducible] def loop10 {A0 A1 A2 A3 A4 A5 A6 A7 A8 A9 : Type} (b : (A0 → A1 → A2 → A3 → A4 → A5 → A6 → A7 → A8 → A9 → Option R) → A0 → A1 → A2 → A3 → A4 → A5 → A6 → A7 → A8 → A9 → Option R) (n : Nat) : A0 → A1 → A2 → A3 → A4 → A5 → A6 → A7 → A8 → A9 → Option R := Nat.rec (fun _ _ _ _ _ _ _ _ _ _ => none) (fun _ s => b s) n
theorem loop10_zero {A0 A1 A2 A3 A4 A5 A6 A7 A8 A9 : Type} {b : (A0 → A1 → A2 → A3 → A4 → A5 → A6 → A7 → A8 → A9 → Option R) → A0 → A1 → A2 → A3 → A4 → A5 → A6 → A7 → A8 → A9 → Option R} {a0 : A0} {a1 : A1} {a2 : A2} {a3 : A3} {a4 : A4} {a5 : A5} {a6 : A6} {a7 : A7} {a8 : A8} {a9 : A9} : loop10 b 0 a0 a1 a2 a3 a4 a5 a6 a7 a8 a9 = none := by unfold loop10; rfl
theorem loop10_succ {A0 A1 A2 A3 A4 A5 A6 A7 A8 A9 : Type} {b : (A0 → A1 → A2 → A3 → A4 → A5 → A6 → A7 → A8 → A9 → Option R) → A0 → A1 → A2 → A3 → A4 → A5 → A6 → A7 → A8 → A9 → Option R} {n : Nat} {a0 : A0} {a1 : A1} {a2 : A2} {a3 : A3} {a4 : A4} {a5 : A5} {a6 : A6} {a7 : A7} {a8 : A8} {a9 : A9} : loop10 b (n + 1) a0 a1 a2 a3 a4 a5 a6 a7 a8 a9 = b (loop10 b n) a0 a1 a2 a3 a4 a5 a6 a7 a8 a9 := by unfold loop10; rfl
theorem loop10_z {A0 A1 A2 A3 A4 A5 A6 A7 A8 A9 : Type} {b : (A0 → A1 → A2 → A3 → A4 → A5 → A6 → A7 → A8 → A9 → Option R) → A0 → A1 → A2 → A3 → A4 → A5 → A6 → A7 → A8 → A9 → Option R} {a0 : A0} {a1 : A1} {a2 : A2} {a3 : A3} {a4 : A4} {a5 : A5} {a6 : A6} {a7 : A7} {a8 : A8} {a9 : A9} (h : loop10 b 0 a0 a1 a2 a3 a4 a5 a6 a7 a8 a9 = some x) : False := by rw [loop10_zero] at h; cases h
theorem loop10_s {A0 A1 A2 A3 A4 A5 A6 A7 A8 A9 : Type} {b : (A0 → A1 → A2 → A3 → A4 → A5 → A6 → A7 → A8 → A9 → Option R) → A0 → A1 → A2 → A3 → A4 → A5 → A6 → A7 → A8 → A9 → Option R} {n : Nat} {a0 : A0} {a1 : A1} {a2 : A2} {a3 : A3} {a4 : A4} {a5 : A5} {a6 : A6} {a7 : A7} {a8 : A8} {a9 : A9} (h : loop10 b (n + 1) a0 a1 a2 a3 a4 a5 a6 a7 a8 a9 = some x) : ∃ sf, sf = loop10 b n ∧ b sf a0 a1 a2 a3 a4 a5 a6 a7 a8 a9 = some x := ⟨_, rfl, loop10_succ.symm.trans h⟩
theorem jnE11 {A0 A1 A2 A3 A4 A5 A6 A7 A8 A9 A10 : Type} {j f : A0 → A1 → A2 → A3 → A4 → A5 → A6 → A7 → A8 → A9 → A10 → Option R} {a0 : A0} {a1 : A1} {a2 : A2} {a3 : A3} {a4 : A4} {a5 : A5} {a6 : A6} {a7 : A7} {a8 : A8} {a9 : A9} {a10 : A10} (e : j = f) (h : j a0 a1 a2 a3 a4 a5 a6 a7 a8 a9 a10 = some x) : f a0 a1 a2 a3 a4 a5 a6 a7 a8 a9 a10 = some x := e ▸ h
theorem jnR11 {A0 A1 A2 A3 A4 A5 A6 A7 A8 A9 A10 : Type} {j f : A0 → A1 → A2 → A3 → A4 → A5 → A6 → A7 → A8 → A9 → A10 → Option R} {a0 : A0} {a1 : A1} {a2 : A2} {a3 : A3} {a4 : A4} {a5 : A5} {a6 : A6} {a7 : A7} {a8 : A8} {a9 : A9} {a10 : A10} (e : j = f) (h : j a0 a1 a2 a3 a4 a5 a6 a7 a8 a9 a10 = some x) : f a0 a1 a2 a3 a4 a5 a6 a7 a8 a9 a10 = some x := e ▸ h
@[irreducible] def loop11 {A0 A1 A2 A3 A4 A5 A6 A7 A8 A9 A10 : Type} (b : (A0 → A1 → A2 → A3 → A4 → A5 → A6 → A7 → A8 → A9 → A10 → Option R) → A0 → A1 → A2 → A3 → A4 → A5 → A6 → A7 → A8 → A9 → A10 → Option R) (n : Nat) : A0 → A1 → A2 → A3 → A4 → A5 → A6 → A7 → A8 → A9 → A10 → Option R := Nat.rec (fun _ _ _ _ _ _ _ _ _ _ _ => none) (fun _ s => b s) n
theorem loop11_zero {A0 A1 A2 A3 A4 A5 A6 A7 A8 A9 A10 : Type} {b : (A0 → A1 → A2 → A3 → A4 → A5 → A6 → A7 → A8 → A9 → A10 → Option R) → A0 → A1 → A2 → A3 → A4 → A5 → A6 → A7 → A8 → A9 → A10 → Option R} {a0 : A0} {a1 : A1} {a2 : A2} {a3 : A3} {a4 : A4} {a5 : A5} {a6 : A6} {a7 : A7} {a8 : A8} {a9 : A9} {a10 : A10} : loop11 b 0 a0 a1 a2 a3 a4 a5 a6 a7 a8 a9 a10 = none := by unfold loop11; rfl
theorem loop11_succ {A0 A1 A2 A3 A4 A5 A6 A7 A8 A9 A10 : Type} {b : (A0 → A1 → A2 → A3 → A4 → A5 → A6 → A7 → A8 → A9 → A10 → Option R) → A0 → A1 → A2 → A3 → A4 → A5 → A6 → A7 → A8 → A9 → A10 → Option R} {n : Nat} {a0 : A0} {a1 : A1} {a2 : A2} {a3 : A3} {a4 : A4} {a5 : A5} {a6 : A6} {a7 : A7} {a8 : A8} {a9 : A9} {a10 : A10} : loop11 b (n + 1) a0 a1 a2 a3 a4 a5 a6 a7 a8 a9 a10 = b (loop11 b n) a0 a1 a2 a3 a4 a5 a6 a7 a8 a9 a10 := by unfold loop11; rfl
theorem loop11_z {A0 A1 A2 A3 A4 A5 A6 A7 A8 A9 A10 : Type} {b : (A0 → A1 → A2 → A3 → A4 → A5 → A6 → A7 → A8 → A9 → A10 → Option R) → A0 → A1 → A2 → A3 → A4 → A5 → A6 → A7 → A8 → A9 → A10 → Option R} {a0 : A0} {a1 : A1} {a2 : A2} {a3 : A3} {a4 : A4} {a5 : A5} {a6 : A6} {a7 : A7} {a8 : A8} {a9 : A9} {a10 : A10} (h : loop11 b 0 a0 a1 a2 a3 a4 a5 a6 a7 a8 a9 a10 = some x) : False := by rw [loop11_zero] at h; cases h
theorem loop11_s {A0 A1 A2 A3 A4 A5 A6 A7 A8 A9 A10 : Type} {b : (A0 → A1 → A2 → A3 → A4 → A5 → A6 → A7 → A8 → A9 → A10 → Option R) → A0 → A1 → A2 → A3 → A4 → A5 → A6 → A7 → A8 → A9 → A10 → Option R} {n : Nat} {a0 : A0} {a1 : A1} {a2 : A2} {a3 : A3} {a4 : A4} {a5 : A5} {a6 : A6} {a7 : A7} {a8 : A8} {a9 : A9} {a10 : A10} (h : loop11 b (n + 1) a0 a1 a2 a3 a4 a5 a6 a7 a8 a9 a10 = some x) : ∃ sf, sf = loop11 b n ∧ b sf a0 a1 a2 a3 a4 a5 a6 a7 a8 a9 a10 = some x := ⟨_, rfl, loop11_succ.symm.trans h⟩
theorem jnE12 {A0 A1 A2 A3 A4 A5 A6 A7 A8 A9 A10 A11 : Type} {j f : A0 → A1 → A2 → A3 → A4 → A5 → A6 → A7 → A8 → A9 → A10 → A11 → Option R} {a0 : A0} {a1 : A1} {a2 : A2} {a3 : A3} {a4 : A4} {a5 : A5} {a6 : A6} {a7 : A7} {a8 : A8} {a9 : A9} {a10 : A10} {a11 : A11} (e : j = f) (h : j a0 a1 a2 a3 a4 a5 a6 a7 a8 a9 a10 a11 = some x) : f a0 a1 a2 a3 a4 a5 a6 a7 a8 a9 a10 a11 = some x := e ▸ h
theorem jnR12 {A0 A1 A2 A3 A4 A5 A6 A7 A8 A9 A10 A11 : Type} {j f : A0 → A1 → A2 → A3 → A4 → A5 → A6 → A7 → A8 → A9 → A10 → A11 → Option R} {a0 : A0} {a1 : A1} {a2 : A2} {a3 : A3} {a4 : A4} {a5 : A5} {a6 : A6} {a7 : A7} {a8 : A8} {a9 : A9} {a10 : A10} {a11 : A11} (e : j = f) (h : j a0 a1 a2 a3 a4 a5 a6 a7 a8 a9 a10 a11 = some x) : f a0 a1 a2 a3 a4 a5 a6 a7 a8 a9 a10 a11 = some x := e ▸ h
@[irreducible] def loop12 {A0 A1 A2 A3 A4 A5 A6 A7 A8 A9 A10 A11 : Type} (b : (A0 → A1 → A2 → A3 → A4 → A5 → A6 → A7 → A8 → A9 → A10 → A11 → Option R) → A0 → A1 → A2 → A3 → A4 → A5 → A6 → A7 → A8 → A9 → A10 → A11 → Option R) (n : Nat) : A0 → A1 → A2 → A3 → A4 → A5 → A6 → A7 → A8 → A9 → A10 → A11 → Option R := Nat.rec (fun _ _ _ _ _ _ _ _ _ _ _ _ => none) (fun _ s => b s) n
theorem loop12_zero {A0 A1 A2 A3 A4 A5 A6 A7 A8 A9 A10 A11 : Type} {b : (A0 → A1 → A2 → A3 → A4 → A5 → A6 → A7 → A8 → A9 → A10 → A11 → Option R) → A0 → A1 → A2 → A3 → A4 → A5 → A6 → A7 → A8 → A9 → A10 → A11 → Option R} {a0 : A0} {a1 : A1} {a2 : A2} {a3 : A3} {a4 : A4} {a5 : A5} {a6 : A6} {a7 : A7} {a8 : A8} {a9 : A9} {a10 : A10} {a11 : A11} : loop12 b 0 a0 a1 a2 a3 a4 a5 a6 a7 a8 a9 a10 a11 = none := by unfold loop12; rfl
theorem loop12_succ {A0 A1 A2 A3 A4 A5 A6 A7 A8 A9 A10 A11 : Type} {b : (A0 → A1 → A2 → A3 → A4 → A5 → A6 → A7 → A8 → A9 → A10 → A11 → Option R) → A0 → A1 → A2 → A3 → A4 → A5 → A6 → A7 → A8 → A9 → A10 → A11 → Option R} {n : Nat} {a0 : A0} {a1 : A1} {a2 : A2} {a3 : A3} {a4 : A4} {a5 : A5} {a6 : A6} {a7 : A7} {a8 : A8} {a9 : A9} {a10 : A10} {a11 : A11} : loop12 b (n + 1) a0 a1 a2 a3 a4 a5 a6 a7 a8 a9 a10 a11 = b (loop12 b n) a0 a1 a2 a3 a4 a5 a6 a7 a8 a9 a10 a11 := by unfold loop12; rfl
theorem loop12_z {A0 A1 A2 A3 A4 A5 A6 A7 A8 A9 A10 A11 : Type} {b : (A0 → A1 → A2 → A3 → A4 → A5 → A6 → A7 → A8 → A9 → A10 → A11 → Option R) → A0 → A1 → A2 → A3 → A4 → A5 → A6 → A7 → A8 → A9 → A10 → A11 → Option R} {a0 : A0} {a1 : A1} {a2 : A2} {a3 : A3} {a4 : A4} {a5 : A5} {a6 : A6} {a7 : A7} {a8 : A8} {a9 : A9} {a10 : A10} {a11 : A11} (h : loop12 b 0 a0 a1 a2 a3 a4 a5 a6 a7 a8 a9 a10 a11 = some x) : False := by rw [loop12_zero] at h; cases h
theorem loop12_s {A0 A1 A2 A3 A4 A5 A6 A7 A8 A9 A10 A11 : Type} {b : (A0 → A1 → A2 → A3 → A4 → A5 → A6 → A7 → A8 → A9 → A10 → A11 → Option R) → A0 → A1 → A2 → A3 → A4 → A5 → A6 → A7 → A8 → A9 → A10 → A11 → Option R} {n : Nat} {a0 : A0} {a1 : A1} {a2 : A2} {a3 : A3} {a4 : A4} {a5 : A5} {a6 : A6} {a7 : A7} {a8 : A8} {a9 : A9} {a10 : A10} {a11 : A11} (h : loop12 b (n + 1) a0 a1 a2 a3 a4 a5 a6 a7 a8 a9 a10 a11 = some x) : ∃ sf, sf = loop12 b n ∧ b sf a0 a1 a2 a3 a4 a5 a6 a7 a8 a9 a10 a11 = some x := ⟨_, rfl, loop12_succ.symm.trans h⟩
theorem jnE13 {A0 A1 A2 A3 A4 A5 A6 A7 A8 A9 A10 A11 A12 : Type} {j f : A0 → A1 → A2 → A3 → A4 → A5 → A6 → A7 → A8 → A9 → A10 → A11 → A12 → Option R} {a0 : A0} {a1 : A1} {a2 : A2} {a3 : A3} {a4 : A4} {a5 : A5} {a6 : A6} {a7 : A7} {a8 : A8} {a9 : A9} {a10 : A10} {a11 : A11} {a12 : A12} (e : j = f) (h : j a0 a1 a2 a3 a4 a5 a6 a7 a8 a9 a10 a11 a12 = some x) : f a0 a1 a2 a3 a4 a5 a6 a7 a8 a9 a10 a11 a12 = some x := e ▸ h
theorem jnR13 {A0 A1 A2 A3 A4 A5 A6 A7 A8 A9 A10 A11 A12 : Type} {j f : A0 → A1 → A2 → A3 → A4 → A5 → A6 → A7 → A8 → A9 → A10 → A11 → A12 → Option R} {a0 : A0} {a1 : A1} {a2 : A2} {a3 : A3} {a4 : A4} {a5 : A5} {a6 : A6} {a7 : A7} {a8 : A8} {a9 : A9} {a10 : A10} {a11 : A11} {a12 : A12} (e : j = f) (h : j a0 a1 a2 a3 a4 a5 a6 a7 a8 a9 a10 a11 a12 = some x) : f a0 a1 a2 a3 a4 a5 a6 a7 a8 a9 a10 a11 a12 = some x := e ▸ h
@[irreducible] def loop13 {A0 A1 A2 A3 A4 A5 A6 A7 A8 A9 A10 A11 A12 : Type} (b : (A0 → A1 → A2 → A3 → A4 → A5 → A6 → A7 → A8 → A9 → A10 → A11 → A12 → Option R) → A0 → A1 → A2 → A3 → A4 → A5 → A6 → A7 → A8 → A9 → A10 → A11 → A12 → Option R) (n : Nat) : A0 → A1 → A2 → A3 → A4 → A5 → A6 → A7 → A8 → A9 → A10 → A11 → A12 → Option R := Nat.rec (fun _ _ _ _ _ _ _ _ _ _ _ _ _ => none) (fun _ s => b s) n
theorem loop13_zero {A0 A1 A2 A3 A4 A5 A6 A7 A8 A9 A10 A11 A12 : Type} {b : (A0 → A1 → A2 → A3 → A4 → A5 → A6 → A7 → A8 → A9 → A10 → A11 → A12 → Option R) → A0 → A1 → A2 → A3 → A4 → A5 → A6 → A7 → A8 → A9 → A10 → A11 → A12 → Option R} {a0 : A0} {a1 : A1} {a2 : A2} {a3 : A3} {a4 : A4} {a5 : A5} {a6 : A6} {a7 : A7} {a8 : A8} {a9 : A9} {a10 : A10} {a11 : A11} {a12 : A12} : loop13 b 0 a0 a1 a2 a3 a4 a5 a6 a7 a8 a9 a10 a11 a12 = none := by unfold loop13; rfl
theorem loop13_succ {A0 A1 A2 A3 A4 A5 A6 A7 A8 A9 A10 A11 A12 : Type} {b : (A0 → A1 → A2 → A3 → A4 → A5 → A6 → A7 → A8 → A9 → A10 → A11 → A12 → Option R) → A0 → A1 → A2 → A3 → A4 → A5 → A6 → A7 → A8 → A9 → A10 → A11 → A12 → Option R} {n : Nat} {a0 : A0} {a1 : A1} {a2 : A2} {a3 : A3} {a4 : A4} {a5 : A5} {a6 : A6} {a7 : A7} {a8 : A8} {a9 : A9} {a10 : A10} {a11 : A11} {a12 : A12} : loop13 b (n + 1) a0 a1 a2 a3 a4 a5 a6 a7 a8 a9 a10 a11 a12 = b (loop13 b n) a0 a1 a2 a3 a4 a5 a6 a7 a8 a9 a10 a11 a12 := by unfold loop13; rfl
theorem loop13_z {A0 A1 A2 A3 A4 A5 A6 A7 A8 A9 A10 A11 A12 : Type} {b : (A0 → A1 → A2 → A3 → A4 → A5 → A6 → A7 → A8 → A9 → A10 → A11 → A12 → Option R) → A0 → A1 → A2 → A3 → A4 → A5 → A6 → A7 → A8 → A9 → A10 → A11 → A12 → Option R} {a0 : A0} {a1 : A1} {a2 : A2} {a3 : A3} {a4 : A4} {a5 : A5} {a6 : A6} {a7 : A7} {a8 : A8} {a9 : A9} {a10 : A10} {a11 : A11} {a12 : A12} (h : loop13 b 0 a0 a1 a2 a3 a4 a5 a6 a7 a8 a9 a10 a11 a12 = some x) : False := by rw [loop13_zero] at h; cases h
theorem loop13_s {A0 A1 A2 A3 A4 A5 A6 A7 A8 A9 A10 A11 A12 : Type} {b : (A0 → A1 → A2 → A3 → A4 → A5 → A6 → A7 → A8 → A9 → A10 → A11 → A12 → Option R) → A0 → A1 → A2 → A3 → A4 → A5 → A6 → A7 → A8 → A9 → A10 → A11 → A12 → Option R} {n : Nat} {a0 : A0} {a1 : A1} {a2 : A2} {a3 : A3} {a4 : A4} {a5 : A5} {a6 : A6} {a7 : A7} {a8 : A8} {a9 : A9} {a10 : A10} {a11 : A11} {a12 : A12} (h : loop13 b (n + 1) a0 a1 a2 a3 a4 a5 a6 a7 a8 a9 a10 a11 a12 = some x) : ∃ sf, sf = loop13 b n ∧ b sf a0 a1 a2 a3 a4 a5 a6 a7 a8 a9 a10 a11 a12 = some x := ⟨_, rfl, loop13_succ.symm.trans h⟩
theorem jnE14 {A0 A1 A2 A3 A4 A5 A6 A7 A8 A9 A10 A11 A12 A13 : Type} {j f : A0 → A1 → A2 → A3 → A4 → A5 → A6 → A7 → A8 → A9 → A10 → A11 → A12 → A13 → Option R} {a0 : A0} {a1 : A1} {a2 : A2} {a3 : A3} {a4 : A4} {a5 : A5} {a6 : A6} {a7 : A7} {a8 : A8} {a9 : A9} {a10 : A10} {a11 : A11} {a12 : A12} {a13 : A13} (e : j = f) (h : j a0 a1 a2 a3 a4 a5 a6 a7 a8 a9 a10 a11 a12 a13 = some x) : f a0 a1 a2 a3 a4 a5 a6 a7 a8 a9 a10 a11 a12 a13 = some x := e ▸ h
theorem jnR14 {A0 A1 A2 A3 A4 A5 A6 A7 A8 A9 A10 A11 A12 A13 : Type} {j f : A0 → A1 → A2 → A3 → A4 → A5 → A6 → A7 → A8 → A9 → A10 → A11 → A12 → A13 → Option R} {a0 : A0} {a1 : A1} {a2 : A2} {a3 : A3} {a4 : A4} {a5 : A5} {a6 : A6} {a7 : A7} {a8 : A8} {a9 : A9} {a10 : A10} {a11 : A11} {a12 : A12} {a13 : A13} (e : j = f) (h : j a0 a1 a2 a3 a4 a5 a6 a7 a8 a9 a10 a11 a12 a13 = some x) : f a0 a1 a2 a3 a4 a5 a6 a7 a8 a9 a10 a11 a12 a13 = some x := e ▸ h
@[irreducible] def loop14 {A0 A1 A2 A3 A4 A5 A6 A7 A8 A9 A10 A11 A12 A13 : Type} (b : (A0 → A1 → A2 → A3 → A4 → A5 → A6 → A7 → A8 → A9 → A10 → A11 → A12 → A13 → Option R) → A0 → A1 → A2 → A3 → A4 → A5 → A6 → A7 → A8 → A9 → A10 → A11 → A12 → A13 → Option R) (n : Nat) : A0 → A1 → A2 → A3 → A4 → A5 → A6 → A7 → A8 → A9 → A10 → A11 → A12 → A13 → Option R := Nat.rec (fun _ _ _ _ _ _ _ _ _ _ _ _ _ _ => none) (fun _ s => b s) n
theorem loop14_zero {A0 A1 A2 A3 A4 A5 A6 A7 A8 A9 A10 A11 A12 A13 : Type} {b : (A0 → A1 → A2 → A3 → A4 → A5 → A6 → A7 → A8 → A9 → A10 → A11 → A12 → A13 → Option R) → A0 → A1 → A2 → A3 → A4 → A5 → A6 → A7 → A8 → A9 → A10 → A11 → A12 → A13 → Option R} {a0 : A0} {a1 : A1} {a2 : A2} {a3 : A3} {a4 : A4} {a5 : A5} {a6 : A6} {a7 : A7} {a8 : A8} {a9 : A9} {a10 : A10} {a11 : A11} {a12 : A12} {a13 : A13} : loop14 b 0 a0 a1 a2 a3 a4 a5 a6 a7 a8 a9 a10 a11 a12 a13 = none := by unfold loop14; rfl
theorem loop14_succ {A0 A1 A2 A3 A4 A5 A6 A7 A8 A9 A10 A11 A12 A13 : Type} {b : (A0 → A1 → A2 → A3 → A4 → A5 → A6 → A7 → A8 → A9 → A10 → A11 → A12 → A13 → Option R) → A0 → A1 → A2 → A3 → A4 → A5 → A6 → A7 → A8 → A9 → A10 → A11 → A12 → A13 → Option R} {n : Nat} {a0 : A0} {a1 : A1} {a2 : A2} {a3 : A3} {a4 : A4} {a5 : A5} {a6 : A6} {a7 : A7} {a8 : A8} {a9 : A9} {a10 : A10} {a11 : A11} {a12 : A12} {a13 : A13} : loop14 b (n + 1) a0 a1 a2 a3 a4 a5 a6 a7 a8 a9 a10 a11 a12 a13 = b (loop14 b n) a0 a1 a2 a3 a4 a5 a6 a7 a8 a9 a10 a11 a12 a13 := by unfold loop14; rfl
theorem loop14_z {A0 A1 A2 A3 A4 A5 A6 A7 A8 A9 A10 A11 A12 A13 : Type} {b : (A0 → A1 → A2 → A3 → A4 → A5 → A6 → A7 → A8 → A9 → A10 → A11 → A12 → A13 → Option R) → A0 → A1 → A2 → A3 → A4 → A5 → A6 → A7 → A8 → A9 → A10 → A11 → A12 → A13 → Option R} {a0 : A0} {a1 : A1} {a2 : A2} {a3 : A3} {a4 : A4} {a5 : A5} {a6 : A6} {a7 : A7} {a8 : A8} {a9 : A9} {a10 : A10} {a11 : A11} {a12 : A12} {a13 : A13} (h : loop14 b 0 a0 a1 a2 a3 a4 a5 a6 a7 a8 a9 a10 a11 a12 a13 = some x) : False := by rw [loop14_zero] at h; cases h
theorem loop14_s {A0 A1 A2 A3 A4 A5 A6 A7 A8 A9 A10 A11 A12 A13 : Type} {b : (A0 → A1 → A2 → A3 → A4 → A5 → A6 → A7 → A8 → A9 → A10 → A11 → A12 → A13 → Option R) → A0 → A1 → A2 → A3 → A4 → A5 → A6 → A7 → A8 → A9 → A10 → A11 → A12 → A13 → Option R} {n : Nat} {a0 : A0} {a1 : A1} {a2 : A2} {a3 : A3} {a4 : A4} {a5 : A5} {a6 : A6} {a7 : A7} {a8 : A8} {a9 : A9} {a10 : A10} {a11 : A11} {a12 : A12} {a13 : A13} (h : loop14 b (n + 1) a0 a1 a2 a3 a4 a5 a6 a7 a8 a9 a10 a11 a12 a13 = some x) : ∃ sf, sf = loop14 b n ∧ b sf a0 a1 a2 a3 a4 a5 a6 a7 a8 a9 a10 a11 a12 a13 = some x := ⟨_, rfl, loop14_succ.symm.trans h⟩
end model

section ink
theorem inK_wrap (k : IntKind) (n : Int) : InK k (k.wrap n) := wrap_within k n
theorem inK_bits (op : BinOp) (k : IntKind) (a b : Int) : InK k (Go.bits op k a b) := bits_within op k a b
theorem inK_u8 (b : UInt8) : InK .u8 (b.toNat : Int) := by
  have := b.toNat_lt
  constructor <;> simp [IntKind.min, IntKind.max, IntKind.bits, IntKind.signed]; omega
theorem inK_len {α : Type} {r : Rp α} {w : World} {O : List Nat} {a : Option Addr} {c : Nat} {xs : List α} (h : SlR r w O a c xs) : InK .i64 (xs.length : Int) := by
  have := h.len
  constructor <;> simp [IntKind.min, IntKind.max, IntKind.bits, IntKind.signed] <;> omega
theorem inK_cap {α : Type} {r : Rp α} {w : World} {O : List Nat} {a : Option Addr} {c : Nat} {xs : List α} (h : SlR r w O a c xs) : InK .i64 (c : Int) := by
  have := h.cap
  have : maxLen = 9223372036854775807 := rfl
  constructor <;> simp [IntKind.min, IntKind.max, IntKind.bits, IntKind.signed] <;> omega
theorem inK_lenG {α : Type} {q : Rp α} {e : TypeId} {w : World} {O : List Nat} {a : Option Addr} {c : Nat} {xs : List α} {kk : Option Nat} {o : Obj} (h : Gs q e w O a c xs kk o) : InK .i64 (xs.length : Int) := by
  have := h.le
  have : maxLen = 9223372036854775807 := rfl
  constructor <;> simp [IntKind.min, IntKind.max, IntKind.bits, IntKind.signed] <;> omega
theorem inK_of {k : Nat} (h : k ≤ 9223372036854775807) : InK .i64 (k : Int) := by
  constructor <;> simp [IntKind.min, IntKind.max, IntKind.bits, IntKind.signed] <;> omega
theorem inK_minlen {α : Type} {r : Rp α} {w : World} {O : List Nat} {a : Option Addr} {c k : Nat} {xs : List α} (h : SlR r w O a c xs) : InK .i64 ((min xs.length k : Nat) : Int) := by
  have := h.len
  constructor <;> simp [IntKind.min, IntKind.max, IntKind.bits, IntKind.signed] <;> omega
theorem inK_tmod {k : IntKind} {m n : Int} (h : InK k m) : InK k (m.tmod n) := by
  have h1 : m.tmod n = m - n * m.tdiv n := by have := Int.mul_tdiv_add_tmod m n; omega
  rcases Int.le_total 0 m with hm | hm
  · have h2 := Int.tmod_nonneg n hm
    have h3 : m.tmod n ≤ m := by
      have e := Int.natAbs_tmod m n
      have : m.natAbs % n.natAbs ≤ m.natAbs := Nat.mod_le _ _
      omega
    refine ⟨Int.le_trans ?_ h2, Int.le_trans h3 h.2⟩
    cases k <;> simp [IntKind.min, IntKind.bits, IntKind.signed]
  · have h3 : m ≤ m.tmod n ∧ m.tmod n ≤ 0 := by
      have e := Int.natAbs_tmod m n
      have : m.natAbs % n.natAbs ≤ m.natAbs := Nat.mod_le _ _
      have h4 : (-m).tmod n = -(m.tmod n) := Int.neg_tmod m n
      have h5 := Int.tmod_nonneg n (show 0 ≤ -m by omega)
      omega
    refine ⟨Int.le_trans h.1 h3.1, Int.le_trans h3.2 ?_⟩
    cases k <;> simp [IntKind.max, IntKind.bits, IntKind.signed]
theorem inK_shr {k : IntKind} {m : Int} {j : Nat} (h : InK k m) : InK k (m / 2 ^ j) := by
  have hp : (0 : Int) < 2 ^ j := Int.pow_pos (by decide)
  rcases Int.le_total 0 m with hm | hm
  · have h2 : 0 ≤ m / 2 ^ j := Int.ediv_nonneg hm (Int.le_of_lt hp)
    have h3 : m / 2 ^ j ≤ m := Int.ediv_le_self _ hm
    refine ⟨Int.le_trans ?_ h2, Int.le_trans h3 h.2⟩
    cases k <;> simp [IntKind.min, IntKind.bits, IntKind.signed]
  · have h2 : m ≤ m / 2 ^ j := by
      rw [Int.le_ediv_iff_mul_le hp]
      have : (1 : Int) ≤ 2 ^ j := hp
      have := Int.mul_le_mul_of_nonpos_left hm this
      simpa using this
    have h3 : m / 2 ^ j ≤ 0 := by
      have := Int.ediv_le_ediv hp hm
      simpa using this
    refine ⟨Int.le_trans h.1 h2, Int.le_trans h3 ?_⟩
    cases k <;> simp [IntKind.max, IntKind.bits, IntKind.signed]
theorem inK_max {k : IntKind} {m n : Int} (h1 : InK k m) (h2 : InK k n) : InK k (max m n) := ⟨Int.le_trans h1.1 (Int.le_max_left ..), Int.max_le.2 ⟨h1.2, h2.2⟩⟩
theorem inK_min {k : IntKind} {m n : Int} (h1 : InK k m) (h2 : InK k n) : InK k (min m n) := ⟨Int.le_min.2 ⟨h1.1, h2.1⟩, Int.le_trans (Int.min_le_left ..) h1.2⟩
theorem inK_cond {k : IntKind} {c : Bool} {m n : Int} (h1 : InK k m) (h2 : InK k n) : InK k (bif c then m else n) := by cases c <;> assumption
theorem mk_int {k : IntKind} {x : Int} {w : World} {O : List Nat} (h : InK k x) : (rInt k).rd w O [.int k x] x := ⟨rfl, h⟩
theorem u8_of {x : Int} (h : InK .u8 x) : ((UInt8.ofNat x.toNat).toNat : Int) = x := by
  obtain ⟨h1, h2⟩ := h
  simp [IntKind.min, IntKind.max, IntKind.bits, IntKind.signed] at h1 h2
  simp; omega
theorem mk_u8 {x : Int} {w : World} {O : List Nat} (h : InK .u8 x) : rU8.rd w O [.int .u8 x] (UInt8.ofNat x.toNat) := by
  show _ = [Value.int .u8 _]
  rw [u8_of h]
theorem val_u8 {x : Int} (h : InK .u8 x) : Value.int .u8 x = .int .u8 (UInt8.ofNat x.toNat).toNat := by rw [u8_of h]
end ink

theorem inK_ofu8 (k : IntKind) (hk : 8 ≤ k.bits ∧ (k.signed = true → 9 ≤ k.bits)) (b : UInt8) : InK k (b.toNat : Int) := by
  have := b.toNat_lt
  cases k <;> simp [IntKind.bits, IntKind.signed] at hk <;> constructor <;> simp [IntKind.min, IntKind.max, IntKind.bits, IntKind.signed] <;> omega
/-- a string's bytes, in one cell -/
def rStr : Rp (List UInt8) where
  n := 1
  rd _ _ vs x := vs = [.string (Fx.bs x)]
  len h := by rw [h]; rfl
  one h := by rw [h]; intro v hv; simp at hv; subst hv; rfl
  step _ h := h
theorem un_str {w : World} {O : List Nat} {v : Value} {x : List UInt8} (h : rStr.rd w O [v] x) : v = .string (Fx.bs x) := by simpa [rStr] using h
theorem mkStr {w : World} {O : List Nat} {x : List UInt8} : rStr.rd w O [.string (Fx.bs x)] x := rfl
theorem u8c {V : Value → World → Prop} {w : World} {x : Int} (h : InK .u8 x) (hV : V (.int .u8 (UInt8.ofNat x.toNat).toNat) w) : V (.int .u8 x) w := by rw [val_u8 h]; exact hV

section
variable {P : Program} {r : Option Nat} {ρ : Env} {w : World} {d : Option Nat} {ty : TypeId} {pos : String} {aft : Array Edge} {g : Option (Nat × Bool)} {V : Value → World → Prop}
variable {w0 : Zx} {w' : World} {O0 : List Nat} {bs bs' new : Ents}
variable {x y : Operand} {t s u : TypeId} {td : TypeDesc} {n b : Nat} {z : List Value} {ag : Bool} {k q q' : IntKind} {m j : Int}

theorem run1_u8 {o : Oper} {e : Int} (hr : InK .u8 e) (h : ∀ V : Value → World → Prop, V (.int .u8 e) w → Run1 P r ρ w o V) (k : V (.int .u8 (UInt8.ofNat e.toNat).toNat) w) : Run1 P r ρ w o V := h V (by rw [val_u8 hr]; exact k)
theorem op_and (hx : ev ρ x = .int q m) (hy : ev ρ y = .int q j) (h : V (.int q (Go.bits .and q m j)) w) : Run1 P r ρ w ⟨d, .binOp .and t x y u, ty, pos, aft, g⟩ V :=
  run1_value (by simp) (by simp [execOp, hx, hy, eqGuard, binOp, Op.intBits, Go.bits]) h
theorem op_or (hx : ev ρ x = .int q m) (hy : ev ρ y = .int q j) (h : V (.int q (Go.bits .or q m j)) w) : Run1 P r ρ w ⟨d, .binOp .or t x y u, ty, pos, aft, g⟩ V :=
  run1_value (by simp) (by simp [execOp, hx, hy, eqGuard, binOp, Op.intBits, Go.bits]) h
theorem op_xor (hx : ev ρ x = .int q m) (hy : ev ρ y = .int q j) (h : V (.int q (Go.bits .xor q m j)) w) : Run1 P r ρ w ⟨d, .binOp .xor t x y u, ty, pos, aft, g⟩ V :=
  run1_value (by simp) (by simp [execOp, hx, hy, eqGuard, binOp, Op.intBits, Go.bits]) h
theorem op_shl (hx : ev ρ x = .int q m) (hy : ev ρ y = .int q' j) (h0 : 0 ≤ j) (h : V (.int q (q.wrap (m * 2 ^ min j.toNat q.bits))) w) : Run1 P r ρ w ⟨d, .binOp .shl t x y u, ty, pos, aft, g⟩ V :=
  run1_value (by simp) (by simp [execOp, hx, hy, eqGuard, binOp, shift_shl_any _ _ _ _ h0]) h
theorem op_shr (hx : ev ρ x = .int q m) (hy : ev ρ y = .int q' j) (h0 : 0 ≤ j) (h : V (.int q (m / 2 ^ min j.toNat q.bits)) w) : Run1 P r ρ w ⟨d, .binOp .shr t x y u, ty, pos, aft, g⟩ V :=
  run1_value (by simp) (by simp [execOp, hx, hy, eqGuard, binOp, shift_shr_any _ _ _ _ h0]) h
theorem op_neg (hx : ev ρ x = .int q m) (h : V (.int q (q.wrap (0 - m))) w) : Run1 P r ρ w ⟨d, .unOp .neg t x, ty, pos, aft, g⟩ V :=
  run1_value (by simp) (by simp only [execOp, hx, Op.unary, Op.intArith]; simp) h
theorem op_com (hx : ev ρ x = .int q m) (h : V (.int q (Go.bits .xor q (if q.signed then -1 else q.max) m)) w) : Run1 P r ρ w ⟨d, .unOp .xor t x, ty, pos, aft, g⟩ V :=
  run1_value (by simp) (by simp [execOp, hx, Op.unary, Op.intBits, Go.bits]) h

theorem op_max {us : Array TypeId} (hx : ev ρ x = .int q m) (hy : ev ρ y = .int q j) (h : V (.int q (max m j)) w) : Run1 P r ρ w ⟨d, .call ⟨.builtin .max, #[x, y], us⟩, ty, pos, aft, g⟩ V := by
  have e : (if m < j then j else m) = max m j := by split <;> omega
  exact run1_value (v := .int q (max m j)) (by simp) (by simp [execOp, resolve, invoke, builtin, Builtin.max_, Builtin.max2, hx, hy, e]) h
theorem op_min {us : Array TypeId} (hx : ev ρ x = .int q m) (hy : ev ρ y = .int q j) (h : V (.int q (min m j)) w) : Run1 P r ρ w ⟨d, .call ⟨.builtin .min, #[x, y], us⟩, ty, pos, aft, g⟩ V := by
  have e : (if j < m then j else m) = min m j := by split <;> omega
  exact run1_value (v := .int q (min m j)) (by simp) (by simp [execOp, resolve, invoke, builtin, Builtin.min_, Builtin.min2, hx, hy, e]) h
theorem eqlen {a : Option Addr} {l l' c : Nat} (h : ev ρ x = .slice a l c) (e : l = l') : ev ρ x = .slice a l' c := e ▸ h
theorem eqlenV {a : Option Addr} {l l' c : Nat} (e : l = l') : Value.slice a l c = .slice a l' c := e ▸ rfl
theorem bndI {o : Operand} {dflt l : Nat} {m : Int} (h : ev ρ o = .int q m) (hk : m = (l : Int)) : Bnd ρ (some o) dflt l := ⟨q, by rw [h, hk]⟩
theorem Src.owned' {bl len : Nat} {cs news : List Value} {e : TypeId} {fz : Nat × Nat} (h : w.heap[bl]? = some (.cells cs.toArray e fz)) (hn : (cs.drop 0).take len = news) : Src w (some ⟨bl, 0, none⟩) news := hn ▸ Src.owned h
theorem Gs.of_make {α : Type} {p : Rp α} {O : List Nat} {e : TypeId} {bl l c : Nat} {v : Value} {x0 : α} (hp : p.n = 1) (hr : ∀ w O, p.rd w O [v] x0) (hlc : l ≤ c) (hc : c ≤ maxLen) :
    Gs p e w O (some ⟨bl, 0, none⟩) c (List.replicate l x0) (some bl) (.cells (List.replicate c v).toArray e) := by
  refine Gs.made (by simp [hp]) (by simpa using hlc) hc ?_
  simp only [hp, Nat.mul_one, List.length_replicate, List.take_replicate, Nat.min_eq_left hlc]
  clear hlc
  induction l with
  | zero => exact Els.nil
  | succ l ih => exact ⟨[v], List.replicate l v, by simp [List.replicate_succ], hr w O, ih⟩
theorem op_makeSliceI {α : Type} {q : Rp α} {e : TypeId} {bt : Nat} {tz : List Value} {ta : Bool} {v : Value} {x0 : α} {kl kc : IntKind} {l c : Int} (T : Ty P t (.slice e) 1 bt tz ta) (E : Ty P e td 1 b [v] ag) (hs : St w0 O0 w bs)
    (hx : ev ρ x = .int kl l) (hy : ev ρ y = .int kc c) (hc : 0 ≤ l ∧ l ≤ c ∧ b * c ≤ 281474976710656 ∧ c ≤ 281474976710656) (hq : q.n = 1) (hr : ∀ w O, q.rd w O [v] x0)
    (k : ∀ bl w', Ext w w' → Step (ks bs O0) w (ks ((some bl, .cells (List.replicate c.toNat v).toArray e) :: bs) O0) w' → St w0 O0 w' ((some bl, .cells (List.replicate c.toNat v).toArray e) :: bs) →
      Gs q e w' (ks ((some bl, .cells (List.replicate c.toNat v).toArray e) :: bs) O0) (some ⟨bl, 0, none⟩) c.toNat (List.replicate l.toNat x0) (some bl) (.cells (List.replicate c.toNat v).toArray e) →
      V (.slice (some ⟨bl, 0, none⟩) (List.replicate l.toNat x0).length c.toNat) w') :
    Run1 P r ρ w ⟨d, .makeSlice t x y, ty, pos, aft, g⟩ V := by
  have hm : maxLen = 9223372036854775807 := rfl
  refine op_makeSlice (l := l.toNat) (c := c.toNat) T E hs (hx.trans (by rw [Int.toNat_of_nonneg hc.1])) (hy.trans (by rw [Int.toNat_of_nonneg (by omega)])) (by omega) ?_ (by omega) fun bl w' hx h1 h2 => ?_
  · have e1 : ((c.toNat : Nat) : Int) = c := Int.toNat_of_nonneg (by omega)
    have e2 : ((b * c.toNat : Nat) : Int) = b * c := by rw [Int.natCast_mul, e1]
    have := hc.2.2.1
    rw [← e2] at this
    exact Int.ofNat_le.1 this
  · have := k bl w' hx h1 h2 (Gs.of_make hq hr (by omega) (by omega))
    rwa [List.length_replicate] at this
theorem perm_front {β : Type} : ∀ (l : List β) (i : Nat) (p : β), l[i]? = some p → (p :: l.eraseIdx i).Perm l
  | [], _, _, h => by simp at h
  | a :: l, 0, p, h => by simp at h; subst h; exact List.Perm.refl _
  | a :: l, i + 1, p, h => (List.Perm.swap a p _).trans ((perm_front l i p (by simpa using h)).cons a)
theorem St.front {i : Nat} {p : Option Nat × Obj} (hs : St w0 O0 w bs) (hi : bs[i]? = some p) : St w0 O0 w (p :: bs.eraseIdx i) ∧ Step (ks bs O0) w (ks (p :: bs.eraseIdx i) O0) w := by
  have hp : (p :: bs.eraseIdx i).Perm bs := perm_front bs i p hi
  have hk : ∀ b, b ∈ ks (p :: bs.eraseIdx i) O0 ↔ b ∈ ks bs O0 := fun b => by
    simp only [ks, List.mem_append]
    rw [(hp.filterMap Prod.fst).mem_iff]
  refine ⟨⟨hs.below, fun q hq => hs.own q (hp.mem_iff.1 hq), ?_, fun j hj => ⟨(hs.dj j hj).1, fun hm => (hs.dj j hj).2 ((hp.filterMap Prod.fst).mem_iff.1 hm)⟩, hs.dsn, hs.dfs⟩, Nat.le_refl _, fun j hj hn => ⟨fun h => hn ((hk j).1 h), rfl⟩⟩
  exact (hp.filterMap Prod.fst).nodup_iff.2 hs.nd

/-- a field of a struct's value -/
theorem op_field1 {fs : Array Field} {f fb : Nat} {fl : Field} {fd : TypeDesc} {fz cs : List Value} {v : Value} (T : Ty P t (.struct fs) n b z ag) (hf : fs[f]? = some fl) (F : Ty P fl.type fd 1 fb fz false)
    (hx : ev ρ x = .agg cs.toArray) (hv : cs[fl.offset]? = some v) (k : V v w) : Run1 P r ρ w ⟨d, .field t x f, ty, pos, aft, g⟩ V :=
  run1_value (by simp) (by simp [execOp, hx, Instr.field, T.runU, hf, part, F.agg, asAgg, hv]) k
theorem op_fieldA {fs : Array Field} {f fn fb : Nat} {fl : Field} {fd : TypeDesc} {fz cs vs : List Value} (T : Ty P t (.struct fs) n b z ag) (hf : fs[f]? = some fl) (F : Ty P fl.type fd fn fb fz true)
    (hx : ev ρ x = .agg cs.toArray) (hv : (cs.drop fl.offset).take fn = vs) (hl : fl.offset + fn ≤ cs.length) (k : V (.agg vs.toArray) w) : Run1 P r ρ w ⟨d, .field t x f, ty, pos, aft, g⟩ V :=
  run1_value (v := .agg vs.toArray) (by simp) (by
    have e : cs.toArray.extract fl.offset (fl.offset + fn) = vs.toArray := by
      apply Array.ext'
      simp [List.extract_eq_take_drop, ← hv]
    simp [execOp, hx, Instr.field, T.runU, hf, part, F.agg, F.runSize, asAgg, hv]) k

/-! slices of one's own, read and written -/
section own
variable {α : Type} {p : Rp α} {O O' : List Nat}
theorem Els.set : ∀ {cs : List Value} {xs : List α}, Els p w O cs xs → ∀ i, i < xs.length → ∀ {vs : List Value} {y : α}, p.rd w O vs y → Els p w O (cs.take (i * p.n) ++ vs ++ cs.drop (i * p.n + p.n)) (xs.set i y)
  | _, [], h, i, hi, _, _, _ => by simp at hi
  | _, x :: xs, ⟨v1, v2, h1, h2, h3⟩, 0, _, vs, y, hy => by
    refine ⟨vs, v2, ?_, hy, h3⟩
    rw [h1, ← p.len h2]; simp
  | _, x :: xs, ⟨v1, v2, h1, h2, h3⟩, i + 1, hi, vs, y, hy => by
    refine ⟨v1, v2.take (i * p.n) ++ vs ++ v2.drop (i * p.n + p.n), ?_, h2, Els.set h3 i (by simpa using hi) hy⟩
    have hl := p.len h2
    have e1 : (i + 1) * p.n = v1.length + i * p.n := by rw [hl, Nat.add_mul, Nat.one_mul, Nat.add_comm]
    rw [h1, e1, List.take_length_add_append, Nat.add_assoc, List.drop_append]
    simp [Nat.add_assoc]

theorem Gs.at_ {e : TypeId} {a : Option Addr} {c : Nat} {xs : List α} {kk : Option Nat} {o : Obj} (h : Gs p e w O a c xs kk o) (hx : 0 < xs.length) : ∃ bl, a = some ⟨bl, 0, none⟩ ∧ kk = some bl := by
  rcases h with ⟨_, _, rfl, _⟩ | ⟨bl, cur, h1, h2, _⟩
  · simp at hx
  · exact ⟨bl, h1, h2⟩
theorem op_indexAddrG {xs : List α} {e : TypeId} {dt : TypeDesc} {a : Option Addr} {c : Nat} {kd : IntKind} {bt : Nat} {tz : List Value} {ta : Bool} {kk : Option Nat} {o : Obj} (T : Ty P t (.slice e) 1 bt tz ta) (E : Ty P e dt n b z ag)
    (hx : ev ρ x = .slice a xs.length c) (hy : ev ρ y = .int kd m) (h : Gs p e w O a c xs kk o) (h0 : 0 ≤ m ∧ m < xs.length)
    (k : ∀ bl, a = some ⟨bl, 0, none⟩ → kk = some bl → V (.pointer (some ⟨bl, m.toNat * n, none⟩)) w) : Run1 P r ρ w ⟨d, .indexAddr t x y, ty, pos, aft, g⟩ V := by
  obtain ⟨bl, ha, hk⟩ := h.at_ (by omega)
  refine op_indexAddrO T E (hx.trans (by rw [ha])) hy h0.1 h0.2 ?_
  simpa using k bl ha hk
theorem Gs.cellsAt {e : TypeId} {a : Option Addr} {c bl : Nat} {xs : List α} {o : Obj} (h : Gs p e w O a c xs (some bl) o) {i : Nat} (hi : i < xs.length) :
    ∃ cur, o = .cells cur e (0, 0) ∧ (i + 1) * p.n ≤ cur.size ∧ p.rd w O ((cur.toList.drop (i * p.n)).take p.n) xs[i] := by
  rcases h with ⟨_, _, rfl, _⟩ | ⟨b2, cur, h1, h2, h3, h4, h5, h6, h7⟩
  · simp at hi
  · have e1 : (i + 1) * p.n ≤ xs.length * p.n := Nat.mul_le_mul_right _ hi
    have e2 : xs.length * p.n ≤ c * p.n := Nat.mul_le_mul_right _ h5
    refine ⟨cur, h3, by omega, ?_⟩
    have := h7.get i hi
    rwa [List.drop_take, List.take_take, Nat.min_eq_left (by rw [Nat.add_mul] at e1; omega)] at this
theorem op_loadG [Inhabited α] {xs : List α} {e : TypeId} {a : Option Addr} {c bl i : Nat} {o : Obj} (T : Ty P t td 1 b z false) (hp : p.n = 1) (hs : St w0 O0 w bs) (hi : bs[i]? = some (some bl, o))
    (hx : ev ρ x = .pointer (some ⟨bl, m.toNat * 1, none⟩)) (h : Gs p e w O a c xs (some bl) o) (h0 : 0 ≤ m ∧ m < xs.length)
    (k : ∀ v, p.rd w O [v] (xs.getD m.toNat default) → V v w) : Run1 P r ρ w ⟨d, .load t x, ty, pos, aft, g⟩ V := by
  have hm : m.toNat < xs.length := by omega
  obtain ⟨cur, h1, h2, h3⟩ := h.cellsAt hm
  subst h1
  rw [hp] at h2 h3
  simp only [Nat.mul_one] at h2 h3 hx
  have hl : m.toNat < cur.size := by omega
  have e1 : (cur.toList.drop m.toNat).take 1 = [cur[m.toNat]] := by
    rw [List.drop_eq_getElem_cons (by simpa using hl)]; simp
  rw [e1] at h3
  refine op_load (cs := cur.toList) (v := cur[m.toNat]) T hs hx (by rw [hi]) ?_ (k _ ?_)
  · rw [List.getElem?_eq_getElem (by simpa using hl)]; simp
  · have : xs.getD m.toNat default = xs[m.toNat] := by simp [List.getD_eq_getElem?_getD, List.getElem?_eq_getElem hm]
    rw [this]; exact h3
theorem op_loadGF [Inhabited α] {xs : List α} {e : TypeId} {a : Option Addr} {c bl i nn off : Nat} {o : Obj} (T : Ty P t td 1 b z false) (hp : p.n = nn) (hs : St w0 O0 w bs) (hi : bs[i]? = some (some bl, o))
    (hx : ev ρ x = .pointer (some ⟨bl, m.toNat * nn + off, none⟩)) (h : Gs p e w O a c xs (some bl) o) (h0 : 0 ≤ m ∧ m < xs.length) (hoff : off < nn)
    (k : ∀ vs v, p.rd w O vs (xs.getD m.toNat default) → vs[off]? = some v → V v w) : Run1 P r ρ w ⟨d, .load t x, ty, pos, aft, g⟩ V := by
  have hm : m.toNat < xs.length := by omega
  obtain ⟨cur, h1, h2, h3⟩ := h.cellsAt hm
  subst h1 hp
  have hl : m.toNat * p.n + off < cur.size := by rw [Nat.add_mul] at h2; omega
  refine op_load (cs := cur.toList) (v := cur[m.toNat * p.n + off]) T hs hx (by rw [hi]) ?_ (k ((cur.toList.drop (m.toNat * p.n)).take p.n) _ ?_ ?_)
  · rw [List.getElem?_eq_getElem (by simpa using hl)]; simp
  · have : xs.getD m.toNat default = xs[m.toNat] := by simp [List.getD_eq_getElem?_getD, List.getElem?_eq_getElem hm]
    rw [this]; exact h3
  · rw [List.getElem?_take, if_pos hoff, List.getElem?_drop, List.getElem?_eq_getElem (by simpa using hl)]; simp
theorem op_loadGA [Inhabited α] {xs : List α} {e : TypeId} {a : Option Addr} {c bl i : Nat} {o : Obj} (T : Ty P t td n b z true) (hp : p.n = n) (hs : St w0 O0 w bs) (hi : bs[i]? = some (some bl, o))
    (hx : ev ρ x = .pointer (some ⟨bl, m.toNat * n, none⟩)) (h : Gs p e w O a c xs (some bl) o) (h0 : 0 ≤ m ∧ m < xs.length)
    (k : ∀ vs, p.rd w O vs (xs.getD m.toNat default) → V (.agg vs.toArray) w) : Run1 P r ρ w ⟨d, .load t x, ty, pos, aft, g⟩ V := by
  have hm : m.toNat < xs.length := by omega
  obtain ⟨cur, h1, h2, h3⟩ := h.cellsAt hm
  subst h1 hp
  refine op_loadA (cs := cur.toList) T hs hx (by rw [hi]) rfl (p.len h3) (k _ ?_)
  have : xs.getD m.toNat default = xs[m.toNat] := by simp [List.getD_eq_getElem?_getD, List.getElem?_eq_getElem hm]
  rw [this]; exact h3
theorem op_storeG {xs : List α} {e : TypeId} {a : Option Addr} {c bl i : Nat} {o : Obj} {v : Value} {vs : List Value} {yv : α} (T : Ty P t td n b z ag) (hp : p.n = n) (hs : St w0 O0 w bs) (hi : bs[i]? = some (some bl, o))
    (hx : ev ρ x = .pointer (some ⟨bl, m.toNat * n, none⟩)) (hy : ev ρ y = v) (hv : v.cells = vs.toArray) (h : Gs p e w (ks bs O0) a c xs (some bl) o) (h0 : 0 ≤ m ∧ m < xs.length) (hr : p.rd w (ks bs O0) vs yv)
    (k : ∀ w' o', Step (ks bs O0) w (ks (bs.set i (some bl, o')) O0) w' → St w0 O0 w' (bs.set i (some bl, o')) → Gs p e w' (ks (bs.set i (some bl, o')) O0) a c (xs.set m.toNat yv) (some bl) o' → V undef w') :
    Run1 P r ρ w ⟨d, .store t x y, ty, pos, aft, g⟩ V := by
  have hm : m.toNat < xs.length := by omega
  rcases h with ⟨_, _, rfl, _⟩ | ⟨b2, cur, h1, h2, h3, h4, h5, h6, h7⟩
  · simp at hm
  · cases h2
    subst h3 hp
    have e1 : (m.toNat + 1) * p.n ≤ xs.length * p.n := Nat.mul_le_mul_right _ hm
    have e2 : xs.length * p.n ≤ c * p.n := Nat.mul_le_mul_right _ h5
    rw [Nat.add_mul, Nat.one_mul] at e1
    have hn := p.len hr
    refine op_store (cs := cur.toList) (vs := vs) T hs hx hy (by rw [hi]) hv hn (by simp; omega) (List.all_eq_true.2 fun v hv => by simpa using p.one hr v hv) rfl rfl fun w' h8 h9 => ?_
    refine k w' _ h8 h9 ?_
    refine .inr ⟨bl, _, h1, rfl, rfl, ?_, by simpa using h5, h6, ?_⟩
    · rw [List.size_toArray, setL_length (by simp; omega)]; simpa using h4
    · have e3 := (h7.set m.toNat hm hr).step h8
      simp only [List.length_set]
      have e4 : (setL cur.toList (m.toNat * p.n) vs).take (xs.length * p.n) = ((cur.toList.take (xs.length * p.n)).take (m.toNat * p.n)) ++ vs ++ (cur.toList.take (xs.length * p.n)).drop (m.toNat * p.n + p.n) := by
        apply List.ext_getElem?
        intro j
        rw [List.getElem?_take, setL_getAll (by simp; omega)]
        simp only [List.getElem?_append, List.length_append, List.length_take, Array.length_toList, List.getElem?_take, List.getElem?_drop, hn]
        rw [Nat.min_eq_left (show xs.length * p.n ≤ cur.size by omega), Nat.min_eq_left (show m.toNat * p.n ≤ xs.length * p.n by omega)]
        by_cases c1 : j < m.toNat * p.n
        · simp [c1, show j < m.toNat * p.n + p.n by omega, show j < xs.length * p.n by omega, show ¬ m.toNat * p.n ≤ j by omega]
        · by_cases c2 : j < m.toNat * p.n + p.n
          · simp [c1, c2, show j < xs.length * p.n by omega, show m.toNat * p.n ≤ j by omega]
          · simp only [c1, c2, if_false, and_false]
            have : m.toNat * p.n + p.n + (j - (m.toNat * p.n + p.n)) = j := by omega
            rw [this]
      rw [e4]; exact e3
theorem Gs.of_cells {e : TypeId} {bl c : Nat} {cs : List Value} {xs : List α} (h : Els p w O cs xs) (hc : xs.length = c) (hm : c ≤ maxLen) : Gs p e w O (some ⟨bl, 0, none⟩) c xs (some bl) (.cells cs.toArray e) := by
  refine Gs.made (by simp [h.len, hc]) (by omega) hm ?_
  simp only
  rw [List.take_of_length_le (by rw [h.len]; exact Nat.le_refl _)]; exact h
end own

/-! function values -/
/-- a call of a function value -/
def FvTo (P : Program) (fv : Value) (args : List Value) (w : World) (K : Value → World → Prop) : Prop :=
  ∃ f first cap, fv = .func (.func f) first cap ∧ (∀ (zs : Array Value) (w : World), (callFunc f zs).run P w = .ok (.enter f zs) w) ∧ Fn P f (first.toList ++ args ++ cap.toList) w K
theorem op_callF {fv : Value} {args : Array Operand} {us : Array TypeId} {vs : List Value} {K : Value → World → Prop} (hx : ev ρ x = fv) (h : FvTo P fv vs w K) (ha : args.toList.map (ev ρ) = vs) (hk : ∀ v w', K v w' → V v w') :
    Run1 P r ρ w ⟨d, .call ⟨.value x, args, us⟩, ty, pos, aft, g⟩ V := by
  obtain ⟨f, first, cap, rfl, hc, hf⟩ := h
  refine run1_enter (f := f) (args := first.toList ++ vs ++ cap.toList) (w' := w) (by simp) ?_ hf hk
  have : args.map (ev ρ) = vs.toArray := by rw [← ha, ← Array.toList_map]
  simp [execOp, resolve, Deferred.ofValue, hx, invoke, hc, this]
theorem op_makeFunc' {f : Go.Fn} {a c : Array Operand} {a' c' : List Value} (ha : a.toList.map (ev ρ) = a') (hc : c.toList.map (ev ρ) = c') (h : V (.func f a'.toArray c'.toArray) w) : Run1 P r ρ w ⟨d, .makeFunc f a c, ty, pos, aft, g⟩ V := by
  refine op_makeFunc ?_
  have e1 : a.map (ev ρ) = a'.toArray := by rw [← ha, ← Array.toList_map]
  have e2 : c.map (ev ρ) = c'.toArray := by rw [← hc, ← Array.toList_map]
  rw [e1, e2]; exact h
/-- a function value computes what f says -/
def CallsTo1 {α β : Type} (P : Program) (w : World) (O : List Nat) (fv : Value) (A : Vr α) (R : Vr β) (f : α → Option β) : Prop :=
  ∀ w' O', Step O w O' w' → (∀ k ∈ O', k < w'.heap.size) → ∀ v x y, A.vd w' O' v x → f x = some y → FvTo P fv [v] w' fun u w'' => Ext w' w'' ∧ R.vd w'' O' u y
def CallsTo2 {α α' β : Type} (P : Program) (w : World) (O : List Nat) (fv : Value) (A : Vr α) (A' : Vr α') (R : Vr β) (f : α → α' → Option β) : Prop :=
  ∀ w' O', Step O w O' w' → (∀ k ∈ O', k < w'.heap.size) → ∀ v v' x x' y, A.vd w' O' v x → A'.vd w' O' v' x' → f x x' = some y → FvTo P fv [v, v'] w' fun u w'' => Ext w' w'' ∧ R.vd w'' O' u y
theorem CallsTo1.step {α β : Type} {w' : World} {O O' : List Nat} {fv : Value} {A : Vr α} {R : Vr β} {f : α → Option β} (h : CallsTo1 P w O fv A R f) (s : Step O w O' w') : CallsTo1 P w' O' fv A R f :=
  fun _ _ s' => h _ _ (s.trans s')
theorem CallsTo2.step {α α' β : Type} {w' : World} {O O' : List Nat} {fv : Value} {A : Vr α} {A' : Vr α'} {R : Vr β} {f : α → α' → Option β} (h : CallsTo2 P w O fv A A' R f) (s : Step O w O' w') : CallsTo2 P w' O' fv A A' R f :=
  fun _ _ s' => h _ _ (s.trans s')
theorem CallsTo1.call {α β : Type} {O : List Nat} {fv : Value} {A : Vr α} {R : Vr β} {f : α → Option β} (h : CallsTo1 P w O fv A R f) (hO : ∀ k ∈ O, k < w.heap.size) {v : Value} {x : α} {y : β} (hv : A.vd w O v x) (hy : f x = some y) :
    FvTo P fv [v] w fun u w'' => Ext w w'' ∧ R.vd w'' O u y := h _ _ (Step.refl _ _) hO _ _ _ hv hy
theorem CallsTo2.call {α α' β : Type} {O : List Nat} {fv : Value} {A : Vr α} {A' : Vr α'} {R : Vr β} {f : α → α' → Option β} (h : CallsTo2 P w O fv A A' R f) (hO : ∀ k ∈ O, k < w.heap.size) {v v' : Value} {x : α} {x' : α'} {y : β} (hv : A.vd w O v x) (hv' : A'.vd w O v' x') (hy : f x x' = some y) :
    FvTo P fv [v, v'] w fun u w'' => Ext w w'' ∧ R.vd w'' O u y := h _ _ (Step.refl _ _) hO _ _ _ _ _ hv hv' hy
theorem St.publishP {α : Type} {p : Rp α} (hs : St w0 O0 w bs) {i bl : Nat} {cs : List Value} {e : TypeId} {fz : Nat × Nat} {x : α} (hi : bs[i]? = some (some bl, .cells cs.toArray e fz)) (h : p.rd w (ks bs O0) cs x) :
    St w0 O0 w (bs.eraseIdx i) ∧ Step (ks bs O0) w (ks (bs.eraseIdx i) O0) w ∧ PtR p w (ks (bs.eraseIdx i) O0) ⟨bl, 0, none⟩ x := by
  have hst := Step.drop w O0 bs i
  refine ⟨hs.drop i, hst, rfl, ⟨hs.lt (List.mem_of_getElem? hi) rfl, not_ks_erase hs hi⟩, _, e, fz, hs.get hi, ?_, ?_⟩
  · have := p.len h; simp; omega
  · have h1 := p.len h
    simp only [List.drop_zero]
    rw [← h1, List.take_length]; exact p.step hst h

/-! a slice handed back as the caller's own -/
def OkG {α : Type} (P : Program) (f : FuncId) (args : List Value) (w : World) (O : List Nat) (p : Rp α) (e : TypeId) (x : List α) : Prop :=
  Fn P f args w fun v w' => Ext w w' ∧ ∃ a c kk o, v = .slice a x.length c ∧ (∀ b, kk = some b → w.heap.size ≤ b ∧ w'.heap[b]? = some o) ∧ Gs p e w' (kk.toList ++ O) a c x kk o
theorem ks_cons (kk : Option Nat) (o : Obj) : ks ((kk, o) :: bs) O0 = kk.toList ++ ks bs O0 := by cases kk <;> rfl
theorem St.callG {kk : Option Nat} {o : Obj} (hs : St w0 O0 w bs) (hx : Ext w w') (hk : ∀ b, kk = some b → w.heap.size ≤ b ∧ w'.heap[b]? = some o) :
    St w0 O0 w' ((kk, o) :: bs) ∧ Step (ks bs O0) w (ks ((kk, o) :: bs) O0) w' := by
  have h1 := hs.call hx
  cases kk with
  | none => exact ⟨h1.ghost o, Step.ext hx⟩
  | some b =>
    obtain ⟨hb, hg⟩ := hk b rfl
    refine ⟨⟨h1.below, fun q hq j hj => ?_, ?_, fun j hj => ⟨(h1.dj j hj).1, fun hm => ?_⟩, h1.dsn, h1.dfs⟩, hx.size, fun j hj hn => ⟨fun hm => ?_, (Step.ext (O := ks bs O0) hx).keep j hj hn |>.2⟩⟩
    · rcases List.mem_cons.1 hq with rfl | hq
      · cases hj; exact ⟨.inr (Nat.le_trans hs.below.size hb), hg⟩
      · exact h1.own q hq j hj
    · show (b :: bs.filterMap Prod.fst).Nodup
      rw [List.nodup_cons]
      refine ⟨fun hm => ?_, h1.nd⟩
      have := hs.ltw b (List.mem_append_left _ hm)
      omega
    · rcases List.mem_cons.1 (show j ∈ b :: bs.filterMap Prod.fst from hm) with e | hm
      · have := hs.lt0 j hj; omega
      · exact (hs.dj j hj).2 hm
    · rw [ks_cons] at hm
      rcases List.mem_append.1 hm with hm | hm
      · simp at hm; omega
      · exact hn hm
theorem OkG.ok {α : Type} {f : FuncId} {args : List Value} {O : List Nat} {p : Rp α} {e : TypeId} {xs : List α} (hO : ∀ k ∈ O, k < w.heap.size) (h : OkG P f args w O p e xs) : Ok P f args w O (vC (rSl p)) xs := by
  refine Fn.mono h fun v w' ⟨hx, a, c, kk, o, hv, hk, hG⟩ => ⟨hx, ?_⟩
  obtain ⟨h1, h2⟩ := (St.start hO).callG hx hk
  obtain ⟨_, _, h3⟩ := Gs.publish (i := 0) h1 rfl (by rw [ks_cons]; exact hG)
  rw [hv]
  exact mkC (mk_sl h3)
theorem OkG.mk {w0 : World} {α : Type} {O : List Nat} {p : Rp α} {e : TypeId} {xs ys : List α} {a : Option Addr} {c i : Nat} {kk : Option Nat} {o : Obj} (hs : St ⟨w0, [], []⟩ O w' bs) (hi : bs[i]? = some (kk, o)) (h : Gs p e w' (ks bs O) a c xs kk o) (he : xs = ys) :
    ∃ a' c' kk o, Value.slice a xs.length c = .slice a' ys.length c' ∧ (∀ b, kk = some b → w0.heap.size ≤ b ∧ w'.heap[b]? = some o) ∧ Gs p e w' (kk.toList ++ O) a' c' ys kk o := by
  subst he
  refine ⟨a, c, kk, o, rfl, fun b hb => ⟨((hs.own _ (List.mem_of_getElem? hi) b hb).1).resolve_left (by simp), (hs.own _ (List.mem_of_getElem? hi) b hb).2⟩, h.step ⟨Nat.le_refl _, fun j hj hn => ⟨fun hm => hn ?_, rfl⟩⟩⟩
  rcases List.mem_append.1 hm with hm | hm
  · refine List.mem_append_left _ (mem_keys.2 ⟨_, List.mem_of_getElem? hi, ?_⟩)
    simpa using hm
  · exact List.mem_append_right _ hm
theorem OkG.mkNil {w0 : World} {α : Type} {O : List Nat} {p : Rp α} {e : TypeId} {ys : List α} (he : ([] : List α) = ys) :
    ∃ a' c' kk o, Value.slice none 0 0 = .slice a' ys.length c' ∧ (∀ b, kk = some b → w0.heap.size ≤ b ∧ w'.heap[b]? = some o) ∧ Gs p e w' (kk.toList ++ O) a' c' ys kk o := by
  subst he
  exact ⟨none, 0, none, .cells #[] e, rfl, (fun _ h => by cases h), Gs.nil_⟩

theorem Els.drop {α : Type} {p : Rp α} {O : List Nat} : ∀ {cs : List Value} {xs : List α}, Els p w O cs xs → ∀ k, Els p w O (cs.drop (k * p.n)) (xs.drop k)
  | _, [], h, k => by rw [show _ = _ from h]; simp [Els]
  | _, _ :: _, h, 0 => by simpa using h
  | _, x :: xs, ⟨v1, v2, h1, h2, h3⟩, k + 1 => by
    have := Els.drop h3 k
    rw [h1, Nat.add_mul, Nat.one_mul, Nat.add_comm, ← p.len h2, List.drop_append, List.drop_of_length_le (by omega)]
    simp only [List.nil_append, List.drop_succ_cons, p.len h2, Nat.add_sub_cancel_left]; exact this
theorem op_copyG {α : Type} {p : Rp α} {xs ys : List α} {e : TypeId} {a a2 : Option Addr} {c c2 i bt : Nat} {tz : List Value} {ta : Bool} {kk : Option Nat} {o : Obj} (T : Ty P t (.slice e) 1 bt tz ta) (E : Ty P e td 1 b z ag) (hp : p.n = 1)
    (hs : St w0 O0 w bs) (hi : bs[i]? = some (kk, o)) (hx : ev ρ x = .slice a xs.length c) (hG : Gs p e w (ks bs O0) a c xs kk o) (hy : ev ρ y = .slice a2 ys.length c2) (h : SlR p w (ks bs O0) a2 c2 ys) (hpos : 0 < xs.length)
    (k : ∀ o' w', Step (ks bs O0) w (ks (bs.set i (kk, o')) O0) w' → St w0 O0 w' (bs.set i (kk, o')) → Gs p e w' (ks (bs.set i (kk, o')) O0) a c (ys.take xs.length ++ xs.drop ys.length) kk o' → V (.int .i64 ((min ys.length xs.length : Nat) : Int)) w') :
    Run1 P r ρ w ⟨d, .call ⟨.builtin .copy, #[x, y], #[t, t]⟩, ty, pos, aft, g⟩ V := by
  rcases hG with ⟨_, _, rfl, _⟩ | ⟨bl, cur, rfl, rfl, rfl, h4, h5, h6, h7⟩
  · simp at hpos
  · obtain ⟨news, hE, hS⟩ := h.src
    have hnl : news.length = ys.length := by rw [hE.len, hp, Nat.mul_one]
    rw [hp, Nat.mul_one] at h4 h7
    refine op_copy (cs := cur.toList) T E hs (by rw [hi]) hx hy hS hnl hE.one (by simp; omega) rfl rfl fun w' h8 h9 => k _ w' h8 h9 ?_
    have hlen : (news.take (min ys.length xs.length)).length = min ys.length xs.length := by simp; omega
    refine .inr ⟨bl, _, rfl, rfl, rfl, ?_, by simp; omega, h6, ?_⟩
    · rw [List.size_toArray, setL_length (by simp; omega)]; simpa [hp] using h4
    · have e1 : (ys.take xs.length ++ xs.drop ys.length).length = xs.length := by simp; omega
      rw [hp, Nat.mul_one, e1]
      have e2 : (setL cur.toList 0 (news.take (min ys.length xs.length))).take xs.length = news.take (min ys.length xs.length) ++ (cur.toList.take xs.length).drop (min ys.length xs.length) := by
        unfold setL
        simp only [List.take_zero, List.nil_append, Nat.zero_add, hlen]
        rw [List.take_append, hlen, List.take_of_length_le (by rw [hlen]; omega), List.drop_take]
      rw [show (setL cur.toList 0 (news.take (min ys.length xs.length))).toArray.toList = setL cur.toList 0 (news.take (min ys.length xs.length)) from rfl, e2]
      have e3 : ys.take xs.length = ys.take (min ys.length xs.length) := by rw [← List.take_take, List.take_of_length_le (l := ys.take xs.length) (by simp; omega)] <;> omega
      have e4 : xs.drop ys.length = xs.drop (min ys.length xs.length) := by
        rcases Nat.le_total ys.length xs.length with hl | hl
        · rw [Nat.min_eq_left hl]
        · rw [Nat.min_eq_right hl, List.drop_of_length_le hl, List.drop_of_length_le (Nat.le_refl _)]
      rw [e3, e4]
      have f1 := (hE.take (min ys.length xs.length)).step h8
      have f2 := (h7.drop (min ys.length xs.length)).step h8
      rw [hp, Nat.mul_one] at f1 f2
      exact f1.append f2

/-- a slice whose capacity is its length -/
def vCl {α : Type} (p : Rp α) : Vr (List α) := ⟨fun w O v x => ∃ a, v = .slice a x.length x.length ∧ SlR p w O a x.length x, fun s ⟨a, h1, h2⟩ => ⟨a, h1, h2.step s⟩⟩
theorem mkCl {α : Type} {p : Rp α} {O : List Nat} {a : Option Addr} {c : Nat} {xs : List α} (h : SlR p w O a c xs) (e : c = xs.length) : (vCl p).vd w O (.slice a xs.length c) xs := by
  subst e; exact ⟨a, rfl, h⟩

/-- copy into a window of a slice of one's own -/
theorem op_copyW {α : Type} {p : Rp α} {xs ys : List α} {news : List Value} {e : TypeId} {a2 : Option Addr} {c c2 i bt bl l h : Nat} {tz : List Value} {ta : Bool} {a : Option Addr} {o : Obj} (T : Ty P t (.slice e) 1 bt tz ta) (E : Ty P e td 1 b z ag) (hp : p.n = 1)
    (hs : St w0 O0 w bs) (hi : bs[i]? = some (some bl, o)) (hx : ev ρ x = .slice (some ⟨bl, if c = l then 0 else 0 + l * 1, none⟩) (h - l) (c - l)) (hG : Gs p e w (ks bs O0) a c xs (some bl) o) (hy : ev ρ y = .slice a2 ys.length c2) (hE : Els p w (ks bs O0) news ys) (hS : Src w a2 news)
    (hlh : l < h) (hh : h ≤ xs.length)
    (k : ∀ o' w', Step (ks bs O0) w (ks (bs.set i (some bl, o')) O0) w' → St w0 O0 w' (bs.set i (some bl, o')) →
      Gs p e w' (ks (bs.set i (some bl, o')) O0) a c (xs.take l ++ (ys.take (h - l) ++ (xs.drop l).drop (min ys.length (h - l)))) (some bl) o' → V (.int .i64 ((min ys.length (h - l) : Nat) : Int)) w') :
    Run1 P r ρ w ⟨d, .call ⟨.builtin .copy, #[x, y], #[t, t]⟩, ty, pos, aft, g⟩ V := by
  rcases hG with ⟨_, _, rfl, _⟩ | ⟨b2, cur, rfl, hb2, rfl, h4, h5, h6, h7⟩
  · simp at hh; omega
  · cases hb2
    have hnl : news.length = ys.length := by rw [hE.len, hp, Nat.mul_one]
    rw [hp, Nat.mul_one] at h4 h7
    have hcl : c ≠ l := by omega
    rw [if_neg hcl, Nat.zero_add, Nat.mul_one] at hx
    have hlen : (news.take (min ys.length (h - l))).length = min ys.length (h - l) := by simp; omega
    have hcs : cur.toList.length = c := by simpa using h4
    refine op_copy (cs := cur.toList) T E hs (by rw [hi]) hx hy hS hnl hE.one (by rw [hcs]; omega) rfl rfl fun w' h8 h9 => k _ w' h8 h9 ?_
    have hL : (xs.take l ++ (ys.take (h - l) ++ (xs.drop l).drop (min ys.length (h - l)))).length = xs.length := by simp; omega
    refine .inr ⟨bl, _, rfl, rfl, rfl, ?_, by rw [hL]; exact h5, h6, ?_⟩
    · rw [List.size_toArray, setL_length (by rw [hlen, hcs]; omega), hcs, hp, Nat.mul_one]
    · rw [hp, Nat.mul_one, hL]
      have e2 : (setL cur.toList l (news.take (min ys.length (h - l)))).take xs.length =
          (cur.toList.take xs.length).take l ++ (news.take (min ys.length (h - l)) ++ ((cur.toList.take xs.length).drop l).drop (min ys.length (h - l))) := by
        apply List.ext_getElem?
        intro j
        rw [List.getElem?_take, setL_getAll (by rw [hlen, hcs]; omega), hlen]
        simp only [List.getElem?_append, List.length_take, List.getElem?_take, List.getElem?_drop, hnl, hcs, List.length_drop]
        have e5 : min l (min xs.length c) = l := by omega
        rw [e5]
        by_cases c1 : j < l
        · simp [c1, show j < xs.length by omega, show ¬ l ≤ j by omega]
        · simp only [c1, if_false]
          by_cases c2 : j < l + min ys.length (h - l)
          · have c3 : j - l < min (min ys.length (h - l)) ys.length := by omega
            have c4 : j - l < min ys.length (h - l) := by omega
            simp only [show j < xs.length by omega, show l ≤ j by omega, c2, c3, c4, and_self, if_true]
          · have c3 : ¬ j - l < min (min ys.length (h - l)) ys.length := by omega
            simp only [c2, c3, and_false, if_false]
            have e6 : l + (min ys.length (h - l) + (j - l - min (min ys.length (h - l)) ys.length)) = j := by omega
            rw [e6]
      rw [show (setL cur.toList l (news.take (min ys.length (h - l)))).toArray.toList = setL cur.toList l (news.take (min ys.length (h - l))) from rfl, e2]
      have e3 : ys.take (h - l) = ys.take (min ys.length (h - l)) := by
        rcases Nat.le_total ys.length (h - l) with hl | hl
        · rw [Nat.min_eq_left hl, List.take_of_length_le hl, List.take_length]
        · rw [Nat.min_eq_right hl]
      rw [e3]
      have f0 := (h7.take l).step h8
      have f1 := (hE.take (min ys.length (h - l))).step h8
      have f2 := ((h7.drop l).drop (min ys.length (h - l))).step h8
      rw [hp, Nat.mul_one] at f0 f1 f2
      rw [Nat.mul_one] at f2
      exact f0.append (f1.append f2)

theorem Gs.win {α : Type} {p : Rp α} {xs : List α} {e : TypeId} {O : List Nat} {a : Option Addr} {c bl l h i : Nat} {o : Obj} (hp : p.n = 1) (hs : St w0 O0 w bs) (hi : bs[i]? = some (some bl, o)) (hG : Gs p e w O a c xs (some bl) o) (hlh : l < h) (hh : h ≤ xs.length) :
    ∃ news, Els p w O news ((xs.drop l).take (h - l)) ∧ Src w (some ⟨bl, if c = l then 0 else 0 + l * 1, none⟩) news := by
  rcases hG with ⟨_, _, rfl, _⟩ | ⟨b2, cur, rfl, hb2, rfl, h4, h5, h6, h7⟩
  · simp at hh; omega
  · cases hb2
    rw [hp, Nat.mul_one] at h4 h7
    have f := (h7.drop l).take (h - l)
    rw [hp, Nat.mul_one, Nat.mul_one] at f
    refine ⟨_, f, ?_⟩
    rw [if_neg (by omega), Nat.zero_add, Nat.mul_one]
    have e1 : ((cur.toList.take xs.length).drop l).take (h - l) = (cur.toList.drop l).take (h - l) := by
      rw [List.drop_take, List.take_take, Nat.min_eq_left (by omega)]
    rw [e1]
    exact Src.owned (cs := cur.toList) (e := e) (fz := (0, 0)) (hs.get (by rw [hi]))
/-! arrays in blocks of one's own -/
def vArr {α : Type} (p : Rp α) : Vr (List α) := ⟨fun w O v x => ∃ cs : List Value, v = .agg cs.toArray ∧ Els p w O cs x, fun s ⟨cs, h1, h2⟩ => ⟨cs, h1, h2.step s⟩⟩
theorem op_indexAddrAG {α : Type} {p : Rp α} {O : List Nat} {xs : List α} {e c bl tn : Nat} {dt : TypeDesc} {kd : IntKind} {bt : Nat} {tz : List Value} {ta : Bool} {a : Option Addr} {o : Obj} {e' : TypeId} (T : Ty P t (.array c e) tn bt tz ta) (E : Ty P e dt n b z ag)
    (hx : ev ρ x = .pointer (some ⟨bl, 0, none⟩)) (hy : ev ρ y = .int kd m) (h : Gs p e' w O a c xs (some bl) o) (h0 : 0 ≤ m ∧ m < xs.length)
    (k : V (.pointer (some ⟨bl, m.toNat * n, none⟩)) w) : Run1 P r ρ w ⟨d, .indexAddr t x y, ty, pos, aft, g⟩ V := by
  have hl := h.le.1
  refine op_indexAddrA T E hx hy h0.1 (by omega) ?_
  rw [Addr.add_lit, Nat.zero_add]; exact k
theorem op_loadArr {α : Type} {p : Rp α} {O : List Nat} {xs : List α} {e' : TypeId} {c bl i : Nat} {a : Option Addr} {o : Obj} (T : Ty P t td c b z true) (hp : p.n = 1) (hs : St w0 O0 w bs) (hi : bs[i]? = some (some bl, o))
    (hx : ev ρ x = .pointer (some ⟨bl, 0, none⟩)) (h : Gs p e' w O a c xs (some bl) o) (hl : xs.length = c)
    (k : ∀ cs, Els p w O cs xs → V (.agg cs.toArray) w) : Run1 P r ρ w ⟨d, .load t x, ty, pos, aft, g⟩ V := by
  rcases h with ⟨_, _, _, h⟩ | ⟨b2, cur, h1, h2, rfl, h4, h5, h6, h7⟩
  · cases h
  · cases h2
    rw [hp, Nat.mul_one] at h4 h7
    refine op_loadA (cs := cur.toList) (vs := cur.toList.take c) T hs hx (by rw [hi]) (by simp) (by simp [h4]) (k _ ?_)
    rw [← hl]; exact h7

theorem mk_slL {α : Type} {p : Rp α} {O : List Nat} {xs : List α} {a : Option Addr} {c l : Nat} (e : l = xs.length) (h : SlR p w O a c xs) : (rSl p).rd w O [.slice a l c] xs := by subst e; exact mk_sl h
end
end Go.Fx


/- Ranges over functions: iterators as lists of what they hand out; the loop over one. No program in sight. -/
set_option linter.unusedSimpArgs false
set_option linter.unusedVariables false
namespace Go.Fx
open Go Go.RowKit

/-- blocks of one's own from one world to the next: those of old, and new ones -/
structure Grow (O O' : List Nat) (w w' : World) : Prop where
  new : ∀ k ∈ O', k ∈ O ∨ w.heap.size ≤ k
  lt : ∀ k ∈ O', k < w'.heap.size
theorem Grow.refl {O : List Nat} {w w' : World} (h : ∀ k ∈ O, k < w'.heap.size) : Grow O O w w' := ⟨fun _ h => .inl h, h⟩

/-- what has come, the world, what the loop owns, what the iterator owns -/
abbrev JP (α : Type) := List α → World → List Nat → List Nat → Prop
structure Abides {α : Type} (J : JP α) : Prop where
  loc : ∀ {pre : List α} {w w' : World} {O K K' : List Nat}, J pre w O K → (∀ k ∈ K, k ∉ O) → Loc K w w' → Grow K K' w w' → J pre w' O K'
/-- how the loop's body takes what it is handed -/
def YieldsTo {α : Type} (P : Program) (enc : α → World → List Nat → List Value → Prop) (L : List α) (l : Nat) (J Jx : JP α) : Prop :=
  ∀ (pre : List α) (x : α) (w : World) (O K : List Nat) (vs : List Value), pre ++ [x] <+: L → J pre w O K → (∀ k ∈ K, k < w.heap.size ∧ k ∉ O) → (∀ k ∈ O, k < w.heap.size) → enc x w (K ++ O) vs →
    YieldAt (FW none) 0 P l vs.toArray w fun e w' => ∃ O', Loc O w w' ∧ Grow O O' w w' ∧ ((e = .returned (.bool true) ∧ J (pre ++ [x]) w' O' K) ∨ (e = .returned (.bool false) ∧ Jx (pre ++ [x]) w' O' K))
/-- function f, over what it has captured, hands out the list L -/
def IterF {α : Type} (P : Program) (w : World) (O : List Nat) (f : FuncId) (caps : List Value) (enc : α → World → List Nat → List Value → Prop) (L : List α) : Prop :=
  ∀ (w1 : World) (O1 : List Nat), Step O w O1 w1 → (∀ k ∈ O1, k < w1.heap.size) → ∀ (l : Nat) (J Jx : JP α), Abides J → Abides Jx → YieldsTo P enc L l J Jx → J [] w1 O1 [] →
    Fn P f (.func (.yield l) #[] #[] :: caps) w1 fun _ w2 => ∃ O2, J L w2 O2 [] ∨ ∃ pre, Jx pre w2 O2 []
theorem IterF.step {α : Type} {P : Program} {w w' : World} {O O' : List Nat} {f : FuncId} {caps : List Value} {enc : α → World → List Nat → List Value → Prop} {L : List α} (h : IterF P w O f caps enc L) (s : Step O w O' w') : IterF P w' O' f caps enc L :=
  fun w1 O1 s1 => h w1 O1 (s.trans s1)
def enc1 {α : Type} (a : Vr α) : α → World → List Nat → List Value → Prop := fun x w O vs => ∃ v, vs = [v] ∧ a.vd w O v x
def enc2 {α β : Type} (a : Vr α) (b : Vr β) : α × β → World → List Nat → List Value → Prop := fun x w O vs => ∃ v1 v2, vs = [v1, v2] ∧ a.vd w O v1 x.1 ∧ b.vd w O v2 x.2
theorem enc1_len {α : Type} {a : Vr α} {x : α} {w : World} {O : List Nat} {vs : List Value} (h : enc1 a x w O vs) : vs.length = 1 := by obtain ⟨v, rfl, _⟩ := h; rfl
theorem enc2_len {α β : Type} {a : Vr α} {b : Vr β} {x : α × β} {w : World} {O : List Nat} {vs : List Value} (h : enc2 a b x w O vs) : vs.length = 2 := by obtain ⟨v1, v2, rfl, _⟩ := h; rfl
theorem enc1_step {α : Type} {a : Vr α} {x : α} {w w' : World} {O O' : List Nat} {vs : List Value} (s : Step O w O' w') (h : enc1 a x w O vs) : enc1 a x w' O' vs := by obtain ⟨v, e, h⟩ := h; exact ⟨v, e, a.step s h⟩
theorem enc2_step {α β : Type} {a : Vr α} {b : Vr β} {x : α × β} {w w' : World} {O O' : List Nat} {vs : List Value} (s : Step O w O' w') (h : enc2 a b x w O vs) : enc2 a b x w' O' vs := by
  obtain ⟨v1, v2, e, h1, h2⟩ := h; exact ⟨v1, v2, e, a.step s h1, b.step s h2⟩

/-! ### what is owned, said anew -/
theorem Step.sub {O O' : List Nat} {w : World} (h : ∀ k ∈ O', k ∈ O) : Step O w O' w := ⟨Nat.le_refl _, fun k _ hn => ⟨fun hm => hn (h k hm), rfl⟩⟩
theorem Step.of_loc {O O' K : List Nat} {w w' : World} (h : Loc K w w') (hK : ∀ k ∈ K, k ∈ O) (hO : ∀ k ∈ O', k ∈ O ∨ w.heap.size ≤ k) : Step O w O' w' :=
  ⟨h.size, fun k hk hn => ⟨fun hm => (hO k hm).elim hn (fun h => by omega), h.block k hk fun hm => hn (hK k hm)⟩⟩
section
variable {z : Zx} {O0 O1 : List Nat} {w w' : World} {bs : Ents}
theorem mem_ks {k : Nat} : k ∈ ks bs O0 ↔ k ∈ bs.filterMap Prod.fst ∨ k ∈ O0 := List.mem_append
/-- what others own has turned -/
theorem St.loc (h : St z O0 w bs) {K : List Nat} (hl : Loc K w w') (hK : ∀ k ∈ K, k ∉ bs.filterMap Prod.fst ∧ (k ∈ z.K ∨ z.w.heap.size ≤ k) ∧ k ∉ z.ds) : St z O0 w' bs :=
  ⟨h.below.trans' hl fun k hk => (hK k hk).2.1, fun p hp b hb => ⟨(h.own p hp b hb).1, by rw [hl.block b (h.lt hp hb) fun hm => (hK b hm).1 (mem_keys.2 ⟨p, hp, hb⟩)]; exact (h.own p hp b hb).2⟩, h.nd,
   fun k hk => ⟨Nat.lt_of_lt_of_le (h.dj k hk).1 hl.size, (h.dj k hk).2⟩, h.dsn,
   fun D hD => ⟨(h.dfs D hD).1, (h.dfs D hD).2.1, by rw [hl.block D (h.lt0 D (h.dfs D hD).1) fun hm => (hK D hm).2.2 hD]; exact (h.dfs D hD).2.2⟩⟩
/-- others own other blocks -/
theorem St.others (h : St z O0 w bs) (hO : ∀ k ∈ O1, k < w.heap.size ∧ k ∉ bs.filterMap Prod.fst) (hd : ∀ D ∈ z.ds, D ∈ O1) : St z O1 w bs :=
  ⟨h.below, h.own, h.nd, hO, h.dsn, fun D hD => ⟨hd D hD, (h.dfs D hD).2⟩⟩
/-- said from here on -/
theorem St.re (h : St z O0 w bs) : St ⟨w, bs.filterMap Prod.fst, []⟩ O0 w bs :=
  ⟨Loc.refl _ _, fun p hp b hb => ⟨.inl (mem_keys.2 ⟨p, hp, hb⟩), (h.own p hp b hb).2⟩, h.nd, h.dj, List.nodup_nil, fun _ h => by cases h⟩
/-- and from the old beginning again -/
theorem St.back {w1 : World} {K1 : List Nat} (h : St ⟨w1, K1, []⟩ O0 w bs) (hl : Loc z.K z.w w1) (hK : ∀ k ∈ K1, k ∈ z.K ∨ z.w.heap.size ≤ k) (hdn : z.ds.Nodup)
    (hd : ∀ D ∈ z.ds, D ∈ O0 ∧ (D ∈ z.K ∨ z.w.heap.size ≤ D) ∧ w.heap[D]? = some (.deferred (some []))) : St z O0 w bs :=
  ⟨hl.trans' h.below hK, fun p hp b hb => ⟨(h.own p hp b hb).1.elim (hK b) fun h1 => .inr (Nat.le_trans hl.size h1), (h.own p hp b hb).2⟩, h.nd, h.dj, hdn, hd⟩
/-- what is no longer spoken of is let go -/
theorem St.sub {bs' : Ents} (h : St z O0 w bs) (hb : bs'.Sublist bs) : St z O0 w bs' ∧ Step (ks bs O0) w (ks bs' O0) w :=
  ⟨⟨h.below, fun p hp => h.own p (hb.subset hp), (hb.filterMap _).nodup h.nd, fun k hk => ⟨(h.dj k hk).1, fun hm => (h.dj k hk).2 ((hb.filterMap _).subset hm)⟩, h.dsn, h.dfs⟩,
   Step.sub fun k hk => (mem_ks.1 hk).elim (fun hm => mem_ks.2 (.inl ((hb.filterMap _).subset hm))) fun hm => mem_ks.2 (.inr hm)⟩
/-- the marks are taken up -/
theorem St.close {w0 : World} {K0 : List Nat} : ∀ {ds : List Nat} {w : World}, St ⟨w0, K0, ds⟩ O0 w bs → ∃ w', Closes ds w w' ∧ St ⟨w0, K0, []⟩ O0 w' bs ∧ Step (ks bs O0) w (ks bs O0) w'
  | [], w, h => ⟨w, rfl, h, Step.refl _ _⟩
  | D :: ds, w, h => by
    obtain ⟨h1, h2, h3⟩ := h.dfs D (by simp)
    have hlt := h.lt0 D h1
    have hn := List.nodup_cons.1 h.dsn
    have hl : Loc [D] w (w.putObj D (.deferred none)) := ⟨rfl, rfl, rfl, by simp, fun k hk hn => World.putObj_heap_other (by simpa using hn)⟩
    have h4 : St ⟨w0, K0, ds⟩ O0 w bs := ⟨h.below, h.own, h.nd, h.dj, hn.2, fun E hE => h.dfs E (List.mem_cons_of_mem _ hE)⟩
    have h5 : St ⟨w0, K0, ds⟩ O0 (w.putObj D (.deferred none)) bs := h4.loc hl (by rintro k hk; simp at hk; subst hk; exact ⟨(h.dj _ h1).2, h2, hn.1⟩)
    obtain ⟨w', hc, hs, hp⟩ := h5.close
    exact ⟨w', ⟨h3, hc⟩, hs, (Step.of_loc hl (by rintro k hk; simp at hk; subst hk; exact mem_ks.2 (.inr h1)) (fun k hk => .inl hk)).trans hp⟩
end

def updP (ρ : Env) : List Nat → List Value → Env
  | p :: ps, v :: vs => updP (upd ρ p v) ps vs
  | _, _ => ρ
theorem isAct_round {n : Nat} : ∀ (ps : List Nat) (vs : List Value) {ρ : Env} {t : Array Value}, IsAct n ρ { tmps := t, defers := [] } → ps.all (· < n) = true →
    IsAct n (updP ρ ps vs) { tmps := (ps.zip vs).foldl (fun t (p, v) => t.setIfInBounds p v) t, defers := [] }
  | [], vs, ρ, t, h, _ => by cases vs <;> exact h
  | p :: ps, [], ρ, t, h, _ => h
  | p :: ps, v :: vs, ρ, t, h, hp => by
    simp only [List.all_cons, Bool.and_eq_true, decide_eq_true_eq] at hp
    have := h.put (d := some p) (by simpa using hp.1) v
    exact isAct_round ps vs (ρ := upd ρ p v) (t := t.setIfInBounds p v) (by simpa [Act.put, updO] using this) hp.2

theorem isAct_f {n : Nat} {ρ : Env} {a : Act} (h : IsAct n ρ a) : IsAct n ⟨ρ.f, []⟩ { tmps := a.tmps, defers := [] } := ⟨h.size, rfl, h.get⟩

/-- how a round is left for good: by a return (none), or out of a block -/
def exitOf : Option Nat → Exit
  | none => .ret
  | some id => .exit id
def codeOf : Option Nat → Code
  | none => .ret
  | some id => .exit id

section rule
variable {P : Program} {n : Nat} {Q : Post} {ρ : Env} {w : World} {z : Zx} {O0 : List Nat} {bs : Ents}
variable {α σ : Type} {g : Operand} {ps : List Nat} {assign body : Code} {f : FuncId} {caps : List Value} {enc : α → World → List Nat → List Value → Prop} {L : List α}
/-- what is known of the loop's own between two rounds; E: what the iterator and the loop's machinery own -/
structure Core (bs : Ents) (O0 : List Nat) (w : World) (z : Zx) (bsF : σ → Ents) (fct : σ → World → List Nat → Prop) (E : List Nat) (s : σ) (w' : World) : Prop where
  st : St z (E ++ O0) w' (bsF s)
  ch : Step (ks bs O0) w (ks (bsF s) (E ++ O0)) w'
  fc : fct s w' (ks (bsF s) (E ++ O0))

theorem Core.loc {bsF : σ → Ents} {fct : σ → World → List Nat → Prop} (hfs : ∀ s w O w' O', Step O w O' w' → fct s w O → fct s w' O') {K K' F : List Nat} {s : σ} {w' w'' : World} (h : Core bs O0 w z bsF fct (K ++ F) s w')
    (hK : ∀ k ∈ K, k ∉ ks (bsF s) (F ++ O0)) (hz : ∀ k ∈ K, k ∈ z.K ∨ z.w.heap.size ≤ k) (hds : ∀ D ∈ z.ds, D ∈ F ++ O0) (hl : Loc K w' w'') (hg : Grow K K' w' w'') : Core bs O0 w z bsF fct (K' ++ F) s w'' := by
  have h1 : St z (K ++ F ++ O0) w'' (bsF s) := h.st.loc hl fun k hk => ⟨fun hm => hK k hk (mem_ks.2 (.inl hm)), hz k hk, fun hm => hK k hk (mem_ks.2 (.inr (hds k hm)))⟩
  have h2 : St z (K' ++ F ++ O0) w'' (bsF s) := by
    refine h1.others (fun k hk => ?_) (fun D hD => ?_)
    · rw [List.append_assoc] at hk
      rcases List.mem_append.1 hk with hk | hk
      · refine ⟨hg.lt k hk, fun hm => ?_⟩
        rcases hg.new k hk with h5 | h5
        · exact hK k h5 (mem_ks.2 (.inl hm))
        · obtain ⟨p, hp, e⟩ := mem_keys.1 hm
          have := h.st.lt hp e
          omega
      · exact h1.dj k (by rw [List.append_assoc]; exact List.mem_append_right _ hk)
    · rw [List.append_assoc]; exact List.mem_append_right _ (hds D hD)
  have hst : Step (ks (bsF s) (K ++ F ++ O0)) w' (ks (bsF s) (K' ++ F ++ O0)) w'' := Step.of_loc hl (fun k hk => mem_ks.2 (.inr (by simp [hk]))) fun k hk => by
    rcases mem_ks.1 hk with hk | hk
    · exact .inl (mem_ks.2 (.inl hk))
    · rw [List.append_assoc] at hk
      rcases List.mem_append.1 hk with hk | hk
      · rcases hg.new k hk with h | h
        · exact .inl (mem_ks.2 (.inr (by simp [h])))
        · exact .inr h
      · exact .inl (mem_ks.2 (.inr (by rw [List.append_assoc]; exact List.mem_append_right _ hk)))
  exact ⟨h2, h.ch.trans hst, hfs _ _ _ _ _ hst h.fc⟩

/-- the loop over an iterator: s tells what the loop's own holds; tl: what is still to come; tx: how it is left -/
theorem Wp_rangeFunc (hs : St z O0 w bs) (hv : ev ρ g = .func (.func f) #[] caps.toArray) (hcall : ∀ (args : Array Value) (w : World), (callFunc f args).run P w = .ok (.enter f args) w) (it : IterF P w (ks bs O0) f caps enc L)
    (hps : ps.all (· < n) = true) (hlen : ∀ {x w O vs}, enc x w O vs → vs.length = ps.length) (henc : ∀ {x w O w' O' vs}, Step O w O' w' → enc x w O vs → enc x w' O' vs)
    (bsF : σ → Ents) (fct : σ → World → List Nat → Prop) (hfs : ∀ s w O w' O', Step O w O' w' → fct s w O → fct s w' O') (tl : σ → List α → Prop) (xs : List (Option Nat)) (tx : Option Nat → σ → Prop)
    (s0 : σ) (hb0 : bsF s0 = bs) (hf0 : fct s0 w (ks bs O0)) (ht0 : tl s0 L)
    (round : ∀ l E s x rest w' vs za, za.ds = [] → St za (E ++ O0) w' (bsF s) → Step (ks bs O0) w (ks (bsF s) (E ++ O0)) w' → fct s w' (ks (bsF s) (E ++ O0)) → tl s (x :: rest) → enc x w' (ks (bsF s) (E ++ O0)) vs →
      Wp P (some l) n assign (thenE (fun ρ' w2 => ∃ bs2, St za (E ++ O0) w2 bs2 ∧ ∀ w3 zb (RQ : Post), zb.ds = [] → St zb (E ++ O0) w3 bs2 → Step (ks bs2 (E ++ O0)) w2 (ks bs2 (E ++ O0)) w3 →
          (∀ s' ρ' w4, St zb (E ++ O0) w4 (bsF s') → Step (ks bs O0) w (ks (bsF s') (E ++ O0)) w4 → fct s' w4 (ks (bsF s') (E ++ O0)) → tl s' rest → RQ .normal ρ' w4) →
          (∀ e s' ρ' w4, e ∈ xs → St zb (E ++ O0) w4 (bsF s') → Step (ks bs O0) w (ks (bsF s') (E ++ O0)) w4 → fct s' w4 (ks (bsF s') (E ++ O0)) → tx e s' → RQ (exitOf e) ρ' w4) →
          Wp P (some l) n body RQ ρ' w3) (fun _ _ _ => False)) (updP ⟨ρ.f, []⟩ ps vs) w')
    (done : ∀ D s w', St ⟨z.w, z.K, D :: z.ds⟩ (D :: O0) w' (bsF s) → Step (ks bs O0) w (ks (bsF s) (D :: O0)) w' → fct s w' (ks (bsF s) (D :: O0)) → tl s [] → Q .normal ⟨ρ.f, D :: ρ.ds⟩ w')
    (stop : ∀ e D s w', e ∈ xs → St ⟨z.w, z.K, D :: z.ds⟩ (D :: O0) w' (bsF s) → Step (ks bs O0) w (ks (bsF s) (D :: O0)) w' → fct s w' (ks (bsF s) (D :: O0)) → tx e s → Q (exitOf e) ⟨ρ.f, D :: ρ.ds⟩ w') :
    Wp P none n (.rangeFunc g ps.toArray assign body) Q ρ w := by
  subst hb0
  unfold Wp
  intro a ha
  refine wpIn_rangeFunc ?_
  intro fn hfn
  obtain ⟨rec, hrec⟩ : ∃ rec : LoopState → Option Code → Loop, rec = fun st pe => { state := st, pending := pe, fn, tmps := a.tmps, params := ps.toArray, assign, body, defers := w.heap.size } := ⟨_, rfl⟩
  obtain ⟨w1, hw1⟩ : ∃ w1, (w.alloc (.deferred (some []))).alloc (.loop (rec .ready none)) = w1 := ⟨_, rfl⟩
  have hx1 : Ext w w1 := by rw [← hw1]; exact (Ext.alloc w _).trans (Ext.alloc _ _)
  have hsz : w1.heap.size = w.heap.size + 2 := by rw [← hw1]; simp
  have hl1 : w1.heap[w.heap.size + 1]? = some (.loop (rec .ready none)) := by
    rw [← hw1]; have := heap_alloc_new (w.alloc (.deferred (some []))) (.loop (rec .ready none)); simpa using this
  have hd1 : w1.heap[w.heap.size]? = some (.deferred (some [])) := by
    rw [← hw1, heap_alloc_old _ _ _ (by simp)]; exact heap_alloc_new w _
  obtain ⟨zD, hzD⟩ : ∃ zD : Zx, zD = ⟨z.w, z.K, w.heap.size :: z.ds⟩ := ⟨_, rfl⟩
  obtain ⟨F, hF⟩ : ∃ F : List Nat, F = [w.heap.size + 1, w.heap.size] := ⟨_, rfl⟩
  have hmF : ∀ k, k ∈ F ↔ k = w.heap.size + 1 ∨ k = w.heap.size := fun k => by rw [hF]; simp
  have hzds : ∀ D ∈ zD.ds, D ∈ F ++ O0 := fun D hD => by
    rw [hzD] at hD
    rcases List.mem_cons.1 hD with e | hD
    · exact List.mem_append_left _ ((hmF D).2 (.inr e))
    · exact List.mem_append_right _ (hs.dfs D hD).1
  have hzw : z.w.heap.size ≤ w.heap.size := hs.below.size
  -- the loop's invariant
  obtain ⟨J0, hJ0⟩ : ∃ J0 : (LoopState × Option Code) → List Nat → List Nat → World → σ → Prop, J0 = fun st O K w' s => O = ks (bsF s) (F ++ O0) ∧ (∀ k ∈ K, w.heap.size + 2 ≤ k) ∧ Core (bsF s0) O0 w zD bsF fct (K ++ F) s w' ∧
      w'.heap[w.heap.size + 1]? = some (.loop (rec st.1 st.2)) := ⟨_, rfl⟩
  have hJ0ab : ∀ {st : LoopState × Option Code} {O K K' : List Nat} {w' w'' : World} {s : σ}, J0 st O K w' s → (∀ k ∈ K, k ∉ O) → Loc K w' w'' → Grow K K' w' w'' → J0 st O K' w'' s := by
    intro st O K K' w' w'' s h hKO hl hg
    rw [hJ0] at h ⊢
    obtain ⟨h1, h2, h3, h4⟩ := h
    have hsz' : w.heap.size + 2 ≤ w'.heap.size := by
      have := h3.st.lt0 (w.heap.size + 1) (by simp [hF]); omega
    refine ⟨h1, fun k hk => (hg.new k hk).elim (h2 k) fun h => by omega, h3.loc hfs (fun k hk => h1 ▸ hKO k hk) (fun k hk => .inr ?_) hzds hl hg, ?_⟩
    · have := h2 k hk; rw [hzD]; simp only; omega
    · rw [hl.block _ (h3.st.lt0 _ (by simp [hF])) fun hm => by have := h2 _ hm; omega]; exact h4
  have hst0 : St z O0 w1 (bsF s0) := hs.call hx1
  have hcore1 : Core (bsF s0) O0 w zD bsF fct ([] ++ F) s0 w1 := by
    have h1 : St zD ([] ++ F ++ O0) w1 (bsF s0) := by
      refine ⟨by rw [hzD]; exact hst0.below, by rw [hzD]; exact hst0.own, hst0.nd, fun k hk => ?_, ?_, fun D hD => ?_⟩
      · rw [List.nil_append] at hk
        rcases List.mem_append.1 hk with hk | hk
        · have hk' := (hmF k).1 hk
          refine ⟨by omega, fun hm => ?_⟩
          obtain ⟨p, hp, e⟩ := mem_keys.1 hm
          have := hs.lt hp e; omega
        · exact hst0.dj k hk
      · rw [hzD]
        exact List.nodup_cons.2 ⟨fun hm => by have := hs.lt0 _ (hs.dfs _ hm).1; omega, hs.dsn⟩
      · refine ⟨by rw [List.nil_append]; exact hzds D hD, ?_⟩
        rw [hzD] at hD ⊢
        rcases List.mem_cons.1 hD with e | hD
        · subst e; exact ⟨.inr hzw, hd1⟩
        · exact (hst0.dfs D hD).2
    have h2 : Step (ks (bsF s0) O0) w (ks (bsF s0) ([] ++ F ++ O0)) w1 := Step.of_loc (K := []) (.of_ext hx1) (by simp) fun k hk => by
      rw [List.nil_append] at hk
      rcases mem_ks.1 hk with hk | hk
      · exact .inl (mem_ks.2 (.inl hk))
      · rcases List.mem_append.1 hk with hk | hk
        · have := (hmF k).1 hk; exact .inr (by omega)
        · exact .inl (mem_ks.2 (.inr hk))
    exact ⟨h1, h2, hfs _ _ _ _ _ h2 hf0⟩
  refine ⟨w.heap.size + 1, [dcol w.heap.size], w1, { target := .fn (.func f) caps.toArray, args := #[.func (.yield (w.heap.size + 1)) #[] #[]] }, w1, f,
    #[.func (.yield (w.heap.size + 1)) #[] #[]] ++ caps.toArray, w1, ?_, ?_, fun _ _ => trivial, ?_, fun h => by simp [FW] at h, ?_⟩
  · rw [← hw1, hrec]; exact run_enterLoop_outer _ _ _ _ _
  · simp only [resolve, ha.eval, hv]
    simp [go_sem, ev]
  · simp [invoke, go_sem, hcall]
  · have hfn' := it w1 (ks (bsF s0) (F ++ O0)) (by have := hcore1.ch; simpa using this) (fun k hk => by have := hcore1.st.ltw k (by simpa using hk); exact this) (w.heap.size + 1)
      (fun pre w' O K => ∃ s rest, L = pre ++ rest ∧ J0 (.ready, none) O K w' s ∧ tl s rest)
      (fun _ w' O K => ∃ s e, e ∈ xs ∧ J0 (.done, some (codeOf e)) O K w' s ∧ tx e s)
      ⟨fun ⟨s, rest, h1, h2, h3⟩ hk hl hg => ⟨s, rest, h1, hJ0ab h2 hk hl hg, h3⟩⟩ ⟨fun ⟨s, e, h1, h2, h3⟩ hk hl hg => ⟨s, e, h1, hJ0ab h2 hk hl hg, h3⟩⟩
      ?_ ⟨s0, L, rfl, by rw [hJ0]; exact ⟨rfl, by simp, hcore1, hl1⟩, ht0⟩
    · -- behind the iterator
      unfold Fn at hfn'
      have hcl : (#[Value.func (.yield (w.heap.size + 1)) #[] #[]] ++ caps.toArray) = (Value.func (.yield (w.heap.size + 1)) #[] #[] :: caps).toArray := by simp
      rw [hcl]
      refine CallsIn.mono hfn' ?_
      rintro e w2 ⟨v, rfl, O2, h⟩
      have fin : ∀ {st : LoopState × Option Code} {s : σ}, st.1 ≠ .busy → J0 st O2 [] w2 s → ∃ w3, (Instr.endLoop (w.heap.size + 1)).run P w2 = .ok st.2 w3 ∧
          St ⟨z.w, z.K, w.heap.size :: z.ds⟩ (w.heap.size :: O0) w3 (bsF s) ∧ Step (ks (bsF s0) O0) w (ks (bsF s) (w.heap.size :: O0)) w3 ∧ fct s w3 (ks (bsF s) (w.heap.size :: O0)) := by
        intro st s hb h
        rw [hJ0] at h
        obtain ⟨h1, h2, h3, h4⟩ := h
        have hrun := run_endLoop (P := P) h4 (by rw [hrec]; exact hb)
        have hlo : Loc [w.heap.size + 1] w2 (w2.putObj (w.heap.size + 1) (.loop { rec st.1 st.2 with state := .exhausted })) := ⟨rfl, rfl, rfl, by simp, fun k hk hn => World.putObj_heap_other (by simpa using hn)⟩
        have h5 := h3.st.loc hlo (by
          rintro k hk
          simp at hk; subst hk
          exact ⟨(h3.st.dj _ (by simp [hF])).2, .inr (by rw [hzD]; simp only; omega), fun hm => by
            rw [hzD] at hm
            rcases List.mem_cons.1 hm with e | hm
            · omega
            · have := hs.lt0 _ (hs.dfs _ hm).1; omega⟩)
        have h6 : St ⟨z.w, z.K, w.heap.size :: z.ds⟩ (w.heap.size :: O0) (w2.putObj (w.heap.size + 1) (.loop { rec st.1 st.2 with state := .exhausted })) (bsF s) := by
          rw [← hzD]
          refine h5.others (fun k hk => h5.dj k ?_) fun D hD => ?_
          · rcases List.mem_cons.1 hk with e | hk
            · subst e; simp [hF]
            · simp [hk]
          · have := hzds D hD
            rw [hF] at this
            simp only [List.cons_append, List.nil_append, List.mem_cons] at this
            rcases this with e | e | e
            · exfalso
              rw [hzD] at hD
              rcases List.mem_cons.1 hD with e' | hD
              · omega
              · have := hs.lt0 _ (hs.dfs _ hD).1; omega
            · subst e; simp
            · simp [e]
        have h7 : Step (ks (bsF s) ([] ++ F ++ O0)) w2 (ks (bsF s) (w.heap.size :: O0)) (w2.putObj (w.heap.size + 1) (.loop { rec st.1 st.2 with state := .exhausted })) := Step.of_loc hlo (by
          rintro k hk
          simp at hk; subst hk
          exact mem_ks.2 (.inr (by simp [hF]))) fun k hk => .inl (by
          rcases mem_ks.1 hk with hk | hk
          · exact mem_ks.2 (.inl hk)
          · refine mem_ks.2 (.inr ?_)
            rcases List.mem_cons.1 hk with e | hk
            · subst e; simp [hF]
            · simp [hk])
        refine ⟨_, ?_, h6, h3.ch.trans h7, hfs _ _ _ _ _ h7 h3.fc⟩
        rw [hrun, hrec]
      have hav : ∀ D, IsAct n (⟨ρ.f, D :: ρ.ds⟩ : Env) { a with defers := [dcol D] ++ a.defers } := fun D => ⟨ha.size, by simp [ha.defers], ha.get⟩
      rcases h with ⟨s, rest, h1, h2, h3⟩ | ⟨pre, s, e, h1, h2, h3⟩
      · have hr : rest = [] := by simpa using h1
        subst hr
        obtain ⟨w3, h4, h5, h6, h7⟩ := fin (by simp) h2
        exact ⟨none, w3, h4, (fun _ h => by cases h), _, hav _, done _ s w3 h5 h6 h7 h3⟩
      · obtain ⟨w3, h4, h5, h6, h7⟩ := fin (by simp) h2
        refine ⟨some (codeOf e), w3, h4, ?_⟩
        have h8 := stop e _ s w3 h1 h5 h6 h7 h3
        cases e with
        | none => exact wpIn_ret ⟨(fun _ h => by cases h), _, hav _, h8⟩
        | some id => exact wpIn_exit ⟨(fun _ h => by cases h), _, hav _, h8⟩
    · -- one round
      rintro pre x w' O K vs ⟨tail, hpre⟩ ⟨s, rest, h1, h2, h3⟩ hK hO hen
      rw [hJ0] at h2
      obtain ⟨g1, g2, g3, g4⟩ := h2
      have hrest : rest = x :: tail := by
        rw [← hpre] at h1
        simpa using h1.symm
      subst hrest
      subst g1
      have hy := run_yield (P := P) (args := vs.toArray) g4 (by rw [hrec]; simpa using hlen hen)
      rw [hrec] at hy
      refine ⟨fn, _, assign, body, hy, roundIn_of_wpIn hfn ?_⟩
      have hen' : enc x w' (ks (bsF s) (K ++ F ++ O0)) vs := henc (Step.sub fun k hk => by
        rcases mem_ks.1 hk with hk | hk
        · exact List.mem_append_right _ (mem_ks.2 (.inl hk))
        · rw [List.append_assoc] at hk
          rcases List.mem_append.1 hk with hk | hk
          · exact List.mem_append_left _ hk
          · exact List.mem_append_right _ (mem_ks.2 (.inr hk))) hen
      have hza := g3.st.re
      have hrd := round (w.heap.size + 1) (K ++ F) s x tail w' vs _ rfl hza g3.ch g3.fc h3 hen'
      have hact := isAct_round ps vs (isAct_f ha) hps
      unfold Wp at hrd
      have hzip : (ps.toArray.zip vs.toArray).foldl (fun t (p : Nat × Value) => t.setIfInBounds p.1 p.2) a.tmps = (ps.zip vs).foldl (fun t (p, v) => t.setIfInBounds p v) a.tmps := by
        rw [← Array.foldl_toList, Array.toList_zip]
      rw [hzip]
      have hlF : w.heap.size + 1 ∈ K ++ F ++ O0 := by simp [hF]
      refine wpIn_mono (hrd _ hact) ?_
      rintro e a2 w2 ⟨hp, ρ2, ha2, hq⟩
      cases e <;> try exact hq.elim
      obtain ⟨bs2, hs2, hq⟩ := hq
      -- the record is as it was
      have hl2 : w2.heap[w.heap.size + 1]? = some (.loop (rec .ready none)) := by
        rw [hs2.below.block _ (by have := g3.st.lt0 _ hlF; exact this) (g3.st.dj _ hlF).2]; exact g4
      have hbr := run_beginRound (P := P) hl2 (by rw [hrec])
      refine ⟨_, hbr, ?_⟩
      have hlo2 : Loc [w.heap.size + 1] w2 (w2.putObj (w.heap.size + 1) (.loop { rec .ready none with state := .busy })) := ⟨rfl, rfl, rfl, by simp, fun k hk hn => World.putObj_heap_other (by simpa using hn)⟩
      have hs2' := hs2.re
      have hs3 : St ⟨w2.putObj (w.heap.size + 1) (.loop { rec .ready none with state := .busy }), bs2.filterMap Prod.fst, []⟩ (K ++ F ++ O0) (w2.putObj (w.heap.size + 1) (.loop { rec .ready none with state := .busy })) bs2 := by
        refine ⟨Loc.refl _ _, fun p hp b hb => ⟨.inl (mem_keys.2 ⟨p, hp, hb⟩), ?_⟩, hs2.nd, fun k hk => ⟨by simpa using (hs2.dj k hk).1, (hs2.dj k hk).2⟩, List.nodup_nil, fun _ h => by cases h⟩
        rw [hlo2.block b (hs2.lt hp hb) (by simp; rintro rfl; exact (hs2.dj _ hlF).2 (mem_keys.2 ⟨p, hp, hb⟩))]
        exact (hs2.own p hp b hb).2
      have hst3 : Step (ks bs2 (K ++ F ++ O0)) w2 (ks bs2 (K ++ F ++ O0)) (w2.putObj (w.heap.size + 1) (.loop { rec .ready none with state := .busy })) :=
        Step.of_loc hlo2 (by rintro k hk; simp at hk; subst hk; exact mem_ks.2 (.inr hlF)) fun k hk => .inl hk
      obtain ⟨w3, hw3⟩ : ∃ w3, w3 = w2.putObj (w.heap.size + 1) (.loop { rec .ready none with state := .busy }) := ⟨_, rfl⟩
      rw [← hw3] at hs3 hst3 hlo2 ⊢
      have hl3 : w3.heap[w.heap.size + 1]? = some (.loop { rec .ready none with state := .busy }) := by
        rw [hw3]; exact World.putObj_heap_same (hs2.lt0 _ hlF)
      -- what the round's end makes of it
      have ends : ∀ (jump : Option Code) (s' : σ) (w4 : World), St ⟨w3, bs2.filterMap Prod.fst, []⟩ (K ++ F ++ O0) w4 (bsF s') → Step (ks (bsF s0) O0) w (ks (bsF s') (K ++ F ++ O0)) w4 → fct s' w4 (ks (bsF s') (K ++ F ++ O0)) →
          ∃ w5, (Instr.endRound (w.heap.size + 1) jump).run P w4 = .ok (.bool jump.isNone) w5 ∧ Loc (ks (bsF s) (F ++ O0)) w' w5 ∧ Grow (ks (bsF s) (F ++ O0)) (ks (bsF s') (F ++ O0)) w' w5 ∧
            J0 (if jump.isNone then .ready else .done, jump) (ks (bsF s') (F ++ O0)) K w5 s' := by
        intro jump s' w4 e1 e2 e3
        have hl4 : w4.heap[w.heap.size + 1]? = some (.loop { rec .ready none with state := .busy }) := by
          rw [e1.below.block _ (by have := hs3.lt0 _ hlF; exact this) (hs3.dj _ hlF).2]; exact hl3
        have hrun := run_endRound (P := P) jump hl4
        obtain ⟨w5, hw5⟩ : ∃ w5, w5 = w4.putObj (w.heap.size + 1) (.loop (rec (if jump.isNone then .ready else .done) jump)) := ⟨_, rfl⟩
        have hlo5 : Loc [w.heap.size + 1] w4 w5 := by rw [hw5]; exact ⟨rfl, rfl, rfl, by simp, fun k hk hn => World.putObj_heap_other (by simpa using hn)⟩
        -- from w' to w5
        have hk2 : ∀ k ∈ bs2.filterMap Prod.fst, k ∈ (bsF s).filterMap Prod.fst ∨ w'.heap.size ≤ k := fun k hk => by
          obtain ⟨p, hp, e⟩ := mem_keys.1 hk
          exact (hs2.own p hp k e).1
        have L1 : Loc (ks (bsF s) (F ++ O0)) w' w2 := hs2.below.sub fun k hk => .inl (mem_ks.2 (.inl hk))
        have L2 : Loc (ks (bsF s) (F ++ O0)) w' w3 := L1.trans' hlo2 fun k hk => .inl (by simp at hk; subst hk; exact mem_ks.2 (.inr (by simp [hF])))
        have L3 : Loc (ks (bsF s) (F ++ O0)) w' w4 := L2.trans' e1.below fun k hk => (hk2 k hk).imp (fun h => mem_ks.2 (.inl h)) id
        have L4 : Loc (ks (bsF s) (F ++ O0)) w' w5 := L3.trans' hlo5 fun k hk => .inl (by simp at hk; subst hk; exact mem_ks.2 (.inr (by simp [hF])))
        have hsz2 : w'.heap.size ≤ w2.heap.size := hs2.below.size
        have hsz3 : w3.heap.size = w2.heap.size := by rw [hw3]; simp
        have keys' : ∀ k ∈ (bsF s').filterMap Prod.fst, k ∈ (bsF s).filterMap Prod.fst ∨ w'.heap.size ≤ k := fun k hk => by
          obtain ⟨p, hp, e⟩ := mem_keys.1 hk
          rcases (e1.own p hp k e).1 with h | h
          · exact hk2 k h
          · exact .inr (by simp only at h; omega)
        have hG : Grow (ks (bsF s) (F ++ O0)) (ks (bsF s') (F ++ O0)) w' w5 := ⟨fun k hk => by
            rcases mem_ks.1 hk with hk | hk
            · exact (keys' k hk).imp (fun h => mem_ks.2 (.inl h)) id
            · exact .inl (mem_ks.2 (.inr hk)), fun k hk => by
            have : k < w4.heap.size := e1.ltw k (by
              rcases mem_ks.1 hk with hk | hk
              · exact mem_ks.2 (.inl hk)
              · exact mem_ks.2 (.inr (by rw [List.append_assoc]; exact List.mem_append_right _ hk)))
            have := hlo5.size; omega⟩
        have hzk : ∀ k ∈ (bsF s).filterMap Prod.fst, k ∈ zD.K ∨ zD.w.heap.size ≤ k := fun k hk => by
          obtain ⟨p, hp, e⟩ := mem_keys.1 hk
          exact (g3.st.own p hp k e).1
        have hzs : zD.w.heap.size ≤ w.heap.size := by rw [hzD]; exact hzw
        have hzw' : zD.w.heap.size ≤ w'.heap.size := g3.st.below.size
        have hlds : w.heap.size + 1 ∉ zD.ds := fun hm => by
          rw [hzD] at hm
          rcases List.mem_cons.1 hm with e | hm
          · omega
          · have := hs.lt0 _ (hs.dfs _ hm).1; omega
        have B3 : Loc zD.K zD.w w3 := (g3.st.below.trans' hs2.below hzk).trans' hlo2 fun k hk => by simp at hk; subst hk; exact .inr (by omega)
        have S4 : St zD (K ++ F ++ O0) w4 (bsF s') := e1.back B3 (fun k hk => by
          rcases hk2 k hk with h | h
          · exact hzk k h
          · exact .inr (by omega)) g3.st.dsn fun D hD => by
          obtain ⟨d1, d2, d3⟩ := g3.st.dfs D hD
          refine ⟨d1, d2, ?_⟩
          have hlt := g3.st.lt0 D d1
          rw [e1.below.block D (by rw [hsz3]; omega) (hs2.dj D d1).2, hlo2.block D (by omega) (by simp; rintro rfl; exact hlds hD), hs2.below.block D hlt (g3.st.dj D d1).2]
          exact d3
        have S5 : St zD (K ++ F ++ O0) w5 (bsF s') := S4.loc hlo5 (by
          rintro k hk; simp at hk; subst hk
          exact ⟨(e1.dj _ hlF).2, .inr (by omega), hlds⟩)
        have P5 : Step (ks (bsF s') (K ++ F ++ O0)) w4 (ks (bsF s') (K ++ F ++ O0)) w5 := Step.of_loc hlo5 (by rintro k hk; simp at hk; subst hk; exact mem_ks.2 (.inr hlF)) fun k hk => .inl hk
        refine ⟨w5, ?_, L4, hG, ?_⟩
        · rw [hrun, hw5, hrec]
        · rw [hJ0]
          refine ⟨rfl, g2, ⟨S5, e2.trans P5, hfs _ _ _ _ _ P5 e3⟩, ?_⟩
          rw [hw5]; exact World.putObj_heap_same (by have := e1.lt0 _ hlF; exact this)
      have hbody := hq w3 _ (fun e _ w4 => match e with
          | .normal => ∃ s', St ⟨w3, bs2.filterMap Prod.fst, []⟩ (K ++ F ++ O0) w4 (bsF s') ∧ Step (ks (bsF s0) O0) w (ks (bsF s') (K ++ F ++ O0)) w4 ∧ fct s' w4 (ks (bsF s') (K ++ F ++ O0)) ∧ tl s' tail
          | e => ∃ e', e = exitOf e' ∧ e' ∈ xs ∧ ∃ s', St ⟨w3, bs2.filterMap Prod.fst, []⟩ (K ++ F ++ O0) w4 (bsF s') ∧ Step (ks (bsF s0) O0) w (ks (bsF s') (K ++ F ++ O0)) w4 ∧ fct s' w4 (ks (bsF s') (K ++ F ++ O0)) ∧ tx e' s') rfl hs3 hst3
          (fun s' _ w4 e1 e2 e3 e4 => ⟨s', e1, e2, e3, e4⟩) (fun e s' _ w4 he e1 e2 e3 e4 => by
            cases e with
            | none => exact ⟨none, rfl, he, s', e1, e2, e3, e4⟩
            | some id => exact ⟨some id, rfl, he, s', e1, e2, e3, e4⟩)
      unfold Wp at hbody
      refine wpIn_mono (hbody a2 ha2) ?_
      rintro e a4 w4 ⟨hp4, ρ4, ha4, hq4⟩
      cases e with
      | normal =>
        obtain ⟨s', e1, e2, e3, e4⟩ := hq4
        obtain ⟨w5, r1, r2, r3, r4⟩ := ends none s' w4 e1 e2 e3
        exact ⟨_, w5, r1, _, r2, r3, .inl ⟨rfl, s', tail, by rw [List.append_assoc]; exact h1, r4, e4⟩⟩
      | ret =>
        obtain ⟨e', hee, he, s', e1, e2, e3, e4⟩ := hq4
        cases e' with
        | some id => cases hee
        | none =>
          obtain ⟨w5, r1, r2, r3, r4⟩ := ends (some .ret) s' w4 e1 e2 e3
          exact ⟨_, w5, r1, _, r2, r3, .inr ⟨rfl, s', none, he, r4, e4⟩⟩
      | exit id =>
        obtain ⟨e', hee, he, s', e1, e2, e3, e4⟩ := hq4
        cases e' with
        | none => cases hee
        | some id' =>
          cases hee
          obtain ⟨w5, r1, r2, r3, r4⟩ := ends (some (.exit id)) s' w4 e1 e2 e3
          exact ⟨_, w5, r1, _, r2, r3, .inr ⟨rfl, s', some id, he, r4, e4⟩⟩
      | goto t => obtain ⟨e', hee, _⟩ := hq4; cases e' <;> cases hee
      | panic c => exact absurd rfl (hp4 c)
      | outgrown => obtain ⟨e', hee, _⟩ := hq4; cases e' <;> cases hee
end rule
/-! models: a list gone through -/
section model
universe u
variable {R : Type} {A : Type u} {x : R} {a : A} {L : List A}
def rng0 (b : (Option R) → A → Option R) (k : (Option R)) : List A → Option R
  | [] => k
  | x :: L => b (rng0 b k L) x
theorem rng0_nil {b : (Option R) → A → Option R} {k : (Option R)} : rng0 b k [] = k := rfl
theorem rng0_cons {b : (Option R) → A → Option R} {k : (Option R)} : rng0 b k (a :: L) = b (rng0 b k L) a := rfl
theorem rng0_z {b : (Option R) → A → Option R} {k : (Option R)} (h : rng0 b k [] = some x) : k = some x := rng0_nil.symm.trans h
theorem rng0_s {b : (Option R) → A → Option R} {k : (Option R)} (h : rng0 b k (a :: L) = some x) : ∃ sf, sf = rng0 b k L ∧ b sf a = some x := ⟨_, rfl, rng0_cons.symm.trans h⟩
def rng1 {A0 : Type} (b : (A0 → Option R) → A → A0 → Option R) (k : (A0 → Option R)) : List A → A0 → Option R
  | [] => k
  | x :: L => b (rng1 b k L) x
theorem rng1_nil {A0 : Type} {b : (A0 → Option R) → A → A0 → Option R} {k : (A0 → Option R)} {a0 : A0} : rng1 b k [] a0 = k a0 := rfl
theorem rng1_cons {A0 : Type} {b : (A0 → Option R) → A → A0 → Option R} {k : (A0 → Option R)} {a0 : A0} : rng1 b k (a :: L) a0 = b (rng1 b k L) a a0 := rfl
theorem rng1_z {A0 : Type} {b : (A0 → Option R) → A → A0 → Option R} {k : (A0 → Option R)} {a0 : A0} (h : rng1 b k [] a0 = some x) : k a0 = some x := rng1_nil.symm.trans h
theorem rng1_s {A0 : Type} {b : (A0 → Option R) → A → A0 → Option R} {k : (A0 → Option R)} {a0 : A0} (h : rng1 b k (a :: L) a0 = some x) : ∃ sf, sf = rng1 b k L ∧ b sf a a0 = some x := ⟨_, rfl, rng1_cons.symm.trans h⟩
def rng2 {A0 A1 : Type} (b : (A0 → A1 → Option R) → A → A0 → A1 → Option R) (k : (A0 → A1 → Option R)) : List A → A0 → A1 → Option R
  | [] => k
  | x :: L => b (rng2 b k L) x
theorem rng2_nil {A0 A1 : Type} {b : (A0 → A1 → Option R) → A → A0 → A1 → Option R} {k : (A0 → A1 → Option R)} {a0 : A0} {a1 : A1} : rng2 b k [] a0 a1 = k a0 a1 := rfl
theorem rng2_cons {A0 A1 : Type} {b : (A0 → A1 → Option R) → A → A0 → A1 → Option R} {k : (A0 → A1 → Option R)} {a0 : A0} {a1 : A1} : rng2 b k (a :: L) a0 a1 = b (rng2 b k L) a a0 a1 := rfl
theorem rng2_z {A0 A1 : Type} {b : (A0 → A1 → Option R) → A → A0 → A1 → Option R} {k : (A0 → A1 → Option R)} {a0 : A0} {a1 : A1} (h : rng2 b k [] a0 a1 = some x) : k a0 a1 = some x := rng2_nil.symm.trans h
theorem rng2_s {A0 A1 : Type} {b : (A0 → A1 → Option R) → A → A0 → A1 → Option R} {k : (A0 → A1 → Option R)} {a0 : A0} {a1 : A1} (h : rng2 b k (a :: L) a0 a1 = some x) : ∃ sf, sf = rng2 b k L ∧ b sf a a0 a1 = some x := ⟨_, rfl, rng2_cons.symm.trans h⟩
def rng3 {A0 A1 A2 : Type} (b : (A0 → A1 → A2 → Option R) → A → A0 → A1 → A2 → Option R) (k : (A0 → A1 → A2 → Option R)) : List A → A0 → A1 → A2 → Option R
  | [] => k
  | x :: L => b (rng3 b k L) x
theorem rng3_nil {A0 A1 A2 : Type} {b : (A0 → A1 → A2 → Option R) → A → A0 → A1 → A2 → Option R} {k : (A0 → A1 → A2 → Option R)} {a0 : A0} {a1 : A1} {a2 : A2} : rng3 b k [] a0 a1 a2 = k a0 a1 a2 := rfl
theorem rng3_cons {A0 A1 A2 : Type} {b : (A0 → A1 → A2 → Option R) → A → A0 → A1 → A2 → Option R} {k : (A0 → A1 → A2 → Option R)} {a0 : A0} {a1 : A1} {a2 : A2} : rng3 b k (a :: L) a0 a1 a2 = b (rng3 b k L) a a0 a1 a2 := rfl
theorem rng3_z {A0 A1 A2 : Type} {b : (A0 → A1 → A2 → Option R) → A → A0 → A1 → A2 → Option R} {k : (A0 → A1 → A2 → Option R)} {a0 : A0} {a1 : A1} {a2 : A2} (h : rng3 b k [] a0 a1 a2 = some x) : k a0 a1 a2 = some x := rng3_nil.symm.trans h
theorem rng3_s {A0 A1 A2 : Type} {b : (A0 → A1 → A2 → Option R) → A → A0 → A1 → A2 → Option R} {k : (A0 → A1 → A2 → Option R)} {a0 : A0} {a1 : A1} {a2 : A2} (h : rng3 b k (a :: L) a0 a1 a2 = some x) : ∃ sf, sf = rng3 b k L ∧ b sf a a0 a1 a2 = some x := ⟨_, rfl, rng3_cons.symm.trans h⟩
def rng4 {A0 A1 A2 A3 : Type} (b : (A0 → A1 → A2 → A3 → Option R) → A → A0 → A1 → A2 → A3 → Option R) (k : (A0 → A1 → A2 → A3 → Option R)) : List A → A0 → A1 → A2 → A3 → Option R
  | [] => k
  | x :: L => b (rng4 b k L) x
theorem rng4_nil {A0 A1 A2 A3 : Type} {b : (A0 → A1 → A2 → A3 → Option R) → A → A0 → A1 → A2 → A3 → Option R} {k : (A0 → A1 → A2 → A3 → Option R)} {a0 : A0} {a1 : A1} {a2 : A2} {a3 : A3} : rng4 b k [] a0 a1 a2 a3 = k a0 a1 a2 a3 := rfl
theorem rng4_cons {A0 A1 A2 A3 : Type} {b : (A0 → A1 → A2 → A3 → Option R) → A → A0 → A1 → A2 → A3 → Option R} {k : (A0 → A1 → A2 → A3 → Option R)} {a0 : A0} {a1 : A1} {a2 : A2} {a3 : A3} : rng4 b k (a :: L) a0 a1 a2 a3 = b (rng4 b k L) a a0 a1 a2 a3 := rfl
theorem rng4_z {A0 A1 A2 A3 : Type} {b : (A0 → A1 → A2 → A3 → Option R) → A → A0 → A1 → A2 → A3 → Option R} {k : (A0 → A1 → A2 → A3 → Option R)} {a0 : A0} {a1 : A1} {a2 : A2} {a3 : A3} (h : rng4 b k [] a0 a1 a2 a3 = some x) : k a0 a1 a2 a3 = some x := rng4_nil.symm.trans h
theorem rng4_s {A0 A1 A2 A3 : Type} {b : (A0 → A1 → A2 → A3 → Option R) → A → A0 → A1 → A2 → A3 → Option R} {k : (A0 → A1 → A2 → A3 → Option R)} {a0 : A0} {a1 : A1} {a2 : A2} {a3 : A3} (h : rng4 b k (a :: L) a0 a1 a2 a3 = some x) : ∃ sf, sf = rng4 b k L ∧ b sf a a0 a1 a2 a3 = some x := ⟨_, rfl, rng4_cons.symm.trans h⟩
def rng5 {A0 A1 A2 A3 A4 : Type} (b : (A0 → A1 → A2 → A3 → A4 → Option R) → A → A0 → A1 → A2 → A3 → A4 → Option R) (k : (A0 → A1 → A2 → A3 → A4 → Option R)) : List A → A0 → A1 → A2 → A3 → A4 → Option R
  | [] => k
  | x :: L => b (rng5 b k L) x
theorem rng5_nil {A0 A1 A2 A3 A4 : Type} {b : (A0 → A1 → A2 → A3 → A4 → Option R) → A → A0 → A1 → A2 → A3 → A4 → Option R} {k : (A0 → A1 → A2 → A3 → A4 → Option R)} {a0 : A0} {a1 : A1} {a2 : A2} {a3 : A3} {a4 : A4} : rng5 b k [] a0 a1 a2 a3 a4 = k a0 a1 a2 a3 a4 := rfl
theorem rng5_cons {A0 A1 A2 A3 A4 : Type} {b : (A0 → A1 → A2 → A3 → A4 → Option R) → A → A0 → A1 → A2 → A3 → A4 → Option R} {k : (A0 → A1 → A2 → A3 → A4 → Option R)} {a0 : A0} {a1 : A1} {a2 : A2} {a3 : A3} {a4 : A4} : rng5 b k (a :: L) a0 a1 a2 a3 a4 = b (rng5 b k L) a a0 a1 a2 a3 a4 := rfl
theorem rng5_z {A0 A1 A2 A3 A4 : Type} {b : (A0 → A1 → A2 → A3 → A4 → Option R) → A → A0 → A1 → A2 → A3 → A4 → Option R} {k : (A0 → A1 → A2 → A3 → A4 → Option R)} {a0 : A0} {a1 : A1} {a2 : A2} {a3 : A3} {a4 : A4} (h : rng5 b k [] a0 a1 a2 a3 a4 = some x) : k a0 a1 a2 a3 a4 = some x := rng5_nil.symm.trans h
theorem rng5_s {A0 A1 A2 A3 A4 : Type} {b : (A0 → A1 → A2 → A3 → A4 → Option R) → A → A0 → A1 → A2 → A3 → A4 → Option R} {k : (A0 → A1 → A2 → A3 → A4 → Option R)} {a0 : A0} {a1 : A1} {a2 : A2} {a3 : A3} {a4 : A4} (h : rng5 b k (a :: L) a0 a1 a2 a3 a4 = some x) : ∃ sf, sf = rng5 b k L ∧ b sf a a0 a1 a2 a3 a4 = some x := ⟨_, rfl, rng5_cons.symm.trans h⟩
def rng6 {A0 A1 A2 A3 A4 A5 : Type} (b : (A0 → A1 → A2 → A3 → A4 → A5 → Option R) → A → A0 → A1 → A2 → A3 → A4 → A5 → Option R) (k : (A0 → A1 → A2 → A3 → A4 → A5 → Option R)) : List A → A0 → A1 → A2 → A3 → A4 → A5 → Option R
  | [] => k
  | x :: L => b (rng6 b k L) x
theorem rng6_nil {A0 A1 A2 A3 A4 A5 : Type} {b : (A0 → A1 → A2 → A3 → A4 → A5 → Option R) → A → A0 → A1 → A2 → A3 → A4 → A5 → Option R} {k : (A0 → A1 → A2 → A3 → A4 → A5 → Option R)} {a0 : A0} {a1 : A1} {a2 : A2} {a3 : A3} {a4 : A4} {a5 : A5} : rng6 b k [] a0 a1 a2 a3 a4 a5 = k a0 a1 a2 a3 a4 a5 := rfl
theorem rng6_cons {A0 A1 A2 A3 A4 A5 : Type} {b : (A0 → A1 → A2 → A3 → A4 → A5 → Option R) → A → A0 → A1 → A2 → A3 → A4 → A5 → Option R} {k : (A0 → A1 → A2 → A3 → A4 → A5 → Option R)} {a0 : A0} {a1 : A1} {a2 : A2} {a3 : A3} {a4 : A4} {a5 : A5} : rng6 b k (a :: L) a0 a1 a2 a3 a4 a5 = b (rng6 b k L) a a0 a1 a2 a3 a4 a5 := rfl
theorem rng6_z {A0 A1 A2 A3 A4 A5 : Type} {b : (A0 → A1 → A2 → A3 → A4 → A5 → Option R) → A → A0 → A1 → A2 → A3 → A4 → A5 → Option R} {k : (A0 → A1 → A2 → A3 → A4 → A5 → Option R)} {a0 : A0} {a1 : A1} {a2 : A2} {a3 : A3} {a4 : A4} {a5 : A5} (h : rng6 b k [] a0 a1 a2 a3 a4 a5 = some x) : k a0 a1 a2 a3 a4 a5 = some x := rng6_nil.symm.trans h
theorem rng6_s {A0 A1 A2 A3 A4 A5 : Type} {b : (A0 → A1 → A2 → A3 → A4 → A5 → Option R) → A → A0 → A1 → A2 → A3 → A4 → A5 → Option R} {k : (A0 → A1 → A2 → A3 → A4 → A5 → Option R)} {a0 : A0} {a1 : A1} {a2 : A2} {a3 : A3} {a4 : A4} {a5 : A5} (h : rng6 b k (a :: L) a0 a1 a2 a3 a4 a5 = some x) : ∃ sf, sf = rng6 b k L ∧ b sf a a0 a1 a2 a3 a4 a5 = some x := ⟨_, rfl, rng6_cons.symm.trans h⟩
def rng7 {A0 A1 A2 A3 A4 A5 A6 : Type} (b : (A0 → A1 → A2 → A3 → A4 → A5 → A6 → Option R) → A → A0 → A1 → A2 → A3 → A4 → A5 → A6 → Option R) (k : (A0 → A1 → A2 → A3 → A4 → A5 → A6 → Option R)) : List A → A0 → A1 → A2 → A3 → A4 → A5 → A6 → Option R
  | [] => k
  | x :: L => b (rng7 b k L) x
theorem rng7_nil {A0 A1 A2 A3 A4 A5 A6 : Type} {b : (A0 → A1 → A2 → A3 → A4 → A5 → A6 → Option R) → A → A0 → A1 → A2 → A3 → A4 → A5 → A6 → Option R} {k : (A0 → A1 → A2 → A3 → A4 → A5 → A6 → Option R)} {a0 : A0} {a1 : A1} {a2 : A2} {a3 : A3} {a4 : A4} {a5 : A5} {a6 : A6} : rng7 b k [] a0 a1 a2 a3 a4 a5 a6 = k a0 a1 a2 a3 a4 a5 a6 := rfl
theorem rng7_cons {A0 A1 A2 A3 A4 A5 A6 : Type} {b : (A0 → A1 → A2 → A3 → A4 → A5 → A6 → Option R) → A → A0 → A1 → A2 → A3 → A4 → A5 → A6 → Option R} {k : (A0 → A1 → A2 → A3 → A4 → A5 → A6 → Option R)} {a0 : A0} {a1 : A1} {a2 : A2} {a3 : A3} {a4 : A4} {a5 : A5} {a6 : A6} : rng7 b k (a :: L) a0 a1 a2 a3 a4 a5 a6 = b (rng7 b k L) a a0 a1 a2 a3 a4 a5 a6 := rfl
theorem rng7_z {A0 A1 A2 A3 A4 A5 A6 : Type} {b : (A0 → A1 → A2 → A3 → A4 → A5 → A6 → Option R) → A → A0 → A1 → A2 → A3 → A4 → A5 → A6 → Option R} {k : (A0 → A1 → A2 → A3 → A4 → A5 → A6 → Option R)} {a0 : A0} {a1 : A1} {a2 : A2} {a3 : A3} {a4 : A4} {a5 : A5} {a6 : A6} (h : rng7 b k [] a0 a1 a2 a3 a4 a5 a6 = some x) : k a0 a1 a2 a3 a4 a5 a6 = some x := rng7_nil.symm.trans h
theorem rng7_s {A0 A1 A2 A3 A4 A5 A6 : Type} {b : (A0 → A1 → A2 → A3 → A4 → A5 → A6 → Option R) → A → A0 → A1 → A2 → A3 → A4 → A5 → A6 → Option R} {k : (A0 → A1 → A2 → A3 → A4 → A5 → A6 → Option R)} {a0 : A0} {a1 : A1} {a2 : A2} {a3 : A3} {a4 : A4} {a5 : A5} {a6 : A6} (h : rng7 b k (a :: L) a0 a1 a2 a3 a4 a5 a6 = some x) : ∃ sf, sf = rng7 b k L ∧ b sf a a0 a1 a2 a3 a4 a5 a6 = some x := ⟨_, rfl, rng7_cons.symm.trans h⟩
def rng8 {A0 A1 A2 A3 A4 A5 A6 A7 : Type} (b : (A0 → A1 → A2 → A3 → A4 → A5 → A6 → A7 → Option R) → A → A0 → A1 → A2 → A3 → A4 → A5 → A6 → A7 → Option R) (k : (A0 → A1 → A2 → A3 → A4 → A5 → A6 → A7 → Option R)) : List A → A0 → A1 → A2 → A3 → A4 → A5 → A6 → A7 → Option R
  | [] => k
  | x :: L => b (rng8 b k L) x
theorem rng8_nil {A0 A1 A2 A3 A4 A5 A6 A7 : Type} {b : (A0 → A1 → A2 → A3 → A4 → A5 → A6 → A7 → Option R) → A → A0 → A1 → A2 → A3 → A4 → A5 → A6 → A7 → Option R} {k : (A0 → A1 → A2 → A3 → A4 → A5 → A6 → A7 → Option R)} {a0 : A0} {a1 : A1} {a2 : A2} {a3 : A3} {a4 : A4} {a5 : A5} {a6 : A6} {a7 : A7} : rng8 b k [] a0 a1 a2 a3 a4 a5 a6 a7 = k a0 a1 a2 a3 a4 a5 a6 a7 := rfl
theorem rng8_cons {A0 A1 A2 A3 A4 A5 A6 A7 : Type} {b : (A0 → A1 → A2 → A3 → A4 → A5 → A6 → A7 → Option R) → A → A0 → A1 → A2 → A3 → A4 → A5 → A6 → A7 → Option R} {k : (A0 → A1 → A2 → A3 → A4 → A5 → A6 → A7 → Option R)} {a0 : A0} {a1 : A1} {a2 : A2} {a3 : A3} {a4 : A4} {a5 : A5} {a6 : A6} {a7 : A7} : rng8 b k (a :: L) a0 a1 a2 a3 a4 a5 a6 a7 = b (rng8 b k L) a a0 a1 a2 a3 a4 a5 a6 a7 := rfl
theorem rng8_z {A0 A1 A2 A3 A4 A5 A6 A7 : Type} {b : (A0 → A1 → A2 → A3 → A4 → A5 → A6 → A7 → Option R) → A → A0 → A1 → A2 → A3 → A4 → A5 → A6 → A7 → Option R} {k : (A0 → A1 → A2 → A3 → A4 → A5 → A6 → A7 → Option R)} {a0 : A0} {a1 : A1} {a2 : A2} {a3 : A3} {a4 : A4} {a5 : A5} {a6 : A6} {a7 : A7} (h : rng8 b k [] a0 a1 a2 a3 a4 a5 a6 a7 = some x) : k a0 a1 a2 a3 a4 a5 a6 a7 = some x := rng8_nil.symm.trans h
theorem rng8_s {A0 A1 A2 A3 A4 A5 A6 A7 : Type} {b : (A0 → A1 → A2 → A3 → A4 → A5 → A6 → A7 → Option R) → A → A0 → A1 → A2 → A3 → A4 → A5 → A6 → A7 → Option R} {k : (A0 → A1 → A2 → A3 → A4 → A5 → A6 → A7 → Option R)} {a0 : A0} {a1 : A1} {a2 : A2} {a3 : A3} {a4 : A4} {a5 : A5} {a6 : A6} {a7 : A7} (h : rng8 b k (a :: L) a0 a1 a2 a3 a4 a5 a6 a7 = some x) : ∃ sf, sf = rng8 b k L ∧ b sf a a0 a1 a2 a3 a4 a5 a6 a7 = some x := ⟨_, rfl, rng8_cons.symm.trans h⟩
attribute [irreducible] rng0 rng1 rng2 rng3 rng4 rng5 rng6 rng7 rng8
/-- what is handed out, and what comes behind -/
def yl {α : Type} (x : α) (m : Option (List α)) : Option (List α) := m.map (x :: ·)
theorem yl_elim {α : Type} {x : α} {m : Option (List α)} {L : List α} (h : yl x m = some L) : ∃ L', m = some L' ∧ L = x :: L' := by
  cases m with
  | none => cases h
  | some L' => exact ⟨L', rfl, (Option.some.inj h).symm⟩
end model

/-! the iterator's own walk -/
/-- an iterator as a value -/
def vIt {α : Type} (P : Program) (enc : α → World → List Nat → List Value → Prop) : Vr (List α) :=
  ⟨fun w O v L => ∃ f caps, v = .func (.func f) #[] (List.toArray caps) ∧ (∀ (args : Array Value) (w : World), (callFunc f args).run P w = .ok (.enter f args) w) ∧ IterF P w O f caps enc L,
   fun s ⟨f, caps, h1, h2, h3⟩ => ⟨f, caps, h1, h2, h3.step s⟩⟩
/-- the same, to be carried along -/
def ItR {α : Type} (P : Program) (enc : α → World → List Nat → List Value → Prop) (w : World) (O : List Nat) (v : Value) (L : List α) : Prop := (vIt P enc).vd w O v L
theorem ItR.step {α : Type} {P : Program} {enc : α → World → List Nat → List Value → Prop} {w w' : World} {O O' : List Nat} {v : Value} {L : List α} (h : ItR P enc w O v L) (s : Step O w O' w') : ItR P enc w' O' v L := (vIt P enc).step s h
section iter
variable {P : Program} {ρ : Env} {w : World} {z : Zx} {O : List Nat} {bs : Ents} {α : Type} {J Jx : JP α} {L pre : List α} {a : α} {l : Nat} {enc : α → World → List Nat → List Value → Prop}
structure Itr (J : JP α) (pre : List α) (z : Zx) (O : List Nat) : Prop where
  j : J pre z.w O z.K
  dj : ∀ k ∈ z.K, k ∉ O
theorem Itr.now (h : Itr J pre z O) (hJ : Abides J) (hs : St z O w bs) : J pre w O (bs.filterMap Prod.fst) :=
  hJ.loc h.j h.dj hs.below ⟨fun k hk => by obtain ⟨p, hp, e⟩ := mem_keys.1 hk; exact (hs.own p hp k e).1, fun k hk => by obtain ⟨p, hp, e⟩ := mem_keys.1 hk; exact hs.lt hp e⟩
theorem Itr.fin (h : Itr J pre z O) (hJ : Abides J) (hs : St z O w bs) : J pre w O [] :=
  hJ.loc (h.now hJ hs) (fun k hk hm => (hs.dj k hm).2 hk) (Loc.refl _ _) ⟨(fun _ h => by cases h), fun _ h => by cases h⟩
theorem Itr.start {w : World} (h : J [] w O []) : Itr J [] ⟨w, [], []⟩ O := ⟨h, fun _ h => by cases h⟩
theorem op_yield {d : Option Nat} {ty : TypeId} {pos : String} {aft : Array Edge} {g : Option (Nat × Bool)} {V : Value → World → Prop} {x : Operand} {args : List Operand} {us : Array TypeId} {vs : List Value}
    (hx : ev ρ x = .func (.yield l) #[] #[]) (ha : args.map (ev ρ) = vs) (hY : YieldsTo P enc L l J Jx) (hJ : Abides J) (hI : Itr J pre z O) (hs : St z O w bs) (hL : pre ++ [a] <+: L) (hen : enc a w (ks bs O) vs)
    (kt : ∀ w' O', St ⟨w', bs.filterMap Prod.fst, []⟩ O' w' bs → Step (ks bs O) w (ks bs O') w' → Itr J (pre ++ [a]) ⟨w', bs.filterMap Prod.fst, []⟩ O' → V (.bool true) w')
    (kf : ∀ w' O', St ⟨w', bs.filterMap Prod.fst, []⟩ O' w' bs → Itr Jx (pre ++ [a]) ⟨w', bs.filterMap Prod.fst, []⟩ O' → V (.bool false) w') :
    Run1 P none ρ w ⟨d, .call ⟨.value x, args.toArray, us⟩, ty, pos, aft, g⟩ V := by
  obtain ⟨fn, tmps, assign, body, hy, hR⟩ := hY pre a w O (bs.filterMap Prod.fst) vs hL (hI.now hJ hs) (fun k hk => ⟨hs.ltw k (mem_ks.2 (.inl hk)), fun hm => (hs.dj k hm).2 hk⟩) hs.lt0 hen
  unfold Run1
  rw [Oper.semAt_eq _ _ _ (by simp)]
  have hrun : (execOp (ev ρ) ⟨d, .call ⟨.value x, args.toArray, us⟩, ty, pos, aft, g⟩).run P w = .ok (.round l fn tmps assign body) w := by
    simp only [execOp, resolve, hx]
    subst ha
    simpa [go_sem, invoke] using hy
  rw [hrun]
  simp only
  refine RoundIn.mono hR ?_
  rintro e w' ⟨O', hl, hg, h⟩
  have hS : St ⟨w', bs.filterMap Prod.fst, []⟩ O' w' bs := by
    refine ⟨Loc.refl _ _, fun p hp b hb => ⟨.inl (mem_keys.2 ⟨p, hp, hb⟩), ?_⟩, hs.nd, fun k hk => ⟨hg.lt k hk, fun hm => ?_⟩, List.nodup_nil, fun _ h => by cases h⟩
    · rw [hl.block b (hs.lt hp hb) fun hm => (hs.dj b hm).2 (mem_keys.2 ⟨p, hp, hb⟩)]; exact (hs.own p hp b hb).2
    · rcases hg.new k hk with h1 | h1
      · exact (hs.dj k h1).2 hm
      · obtain ⟨p, hp, e⟩ := mem_keys.1 hm
        have := hs.lt hp e; omega
  have hP : Step (ks bs O) w (ks bs O') w' := Step.of_loc hl (fun k hk => mem_ks.2 (.inr hk)) fun k hk => by
    rcases mem_ks.1 hk with hk | hk
    · exact .inl (mem_ks.2 (.inl hk))
    · exact (hg.new k hk).imp (fun h => mem_ks.2 (.inr h)) id
  have hdj : ∀ k ∈ bs.filterMap Prod.fst, k ∉ O' := fun k hk hm => (hS.dj k hm).2 hk
  rcases h with ⟨rfl, h⟩ | ⟨rfl, h⟩
  · exact ⟨_, rfl, kt w' O' hS hP ⟨h, hdj⟩⟩
  · exact ⟨_, rfl, kf w' O' hS ⟨h, hdj⟩⟩
end iter
end Go.Fx


/- From what an argument reads as in a row to what it reads as here. No program in sight. -/
set_option linter.unusedSimpArgs false
set_option linter.unusedVariables false
namespace Go.Fx
open Go Go.RowKit Go.ChangeShapes

section
variable {H : Type} {enc : TypeId × Value → H} {P : Program} {w : World} {base : Nat} {spare : Nat → Bool} {held : Bool}
/-- no slice longer than memory -/
def SmL {α : Type} (Sm : α → Prop) (xs : List α) : Prop := xs.length ≤ 140737488351232 ∧ ∀ x ∈ xs, Sm x
def SmT {α : Type} (_ : α) : Prop := True
/-- whatever is read as a datum of type t stands in cells as one of α -/
def Rd {α : Type} (enc : TypeId × Value → H) (P : Program) (w : World) (base : Nat) (spare : Nat → Bool) (held : Bool) (t : TypeId) (q : Rp α) (Sm : α → Prop) : Prop :=
  P.cellsOf t = q.n ∧ ∀ (fuel : Nat) (cs : List Value) (y : DataW H × List MemPlace), DataW.trod enc P w base spare held fuel t cs = some y → ∃ x, q.rd w [] cs x ∧ ((∀ n ∈ y.1.weights P t, n ≤ reachBytes) → Sm x)

theorem wf_inK {k : IntKind} {n : Int} (h : (Lit.int k n).wf = true) : k.min ≤ n ∧ n ≤ k.max := by
  simpa [Lit.wf, IntKind.has] using h
theorem Rd_int {t : TypeId} {k : IntKind} (ht : P.underlying t = some (.int k)) (hc : P.cellsOf t = 1) : Rd enc P w base spare held t (rInt k) (InK k) := by
  refine ⟨hc, fun fuel cs y h => ?_⟩
  obtain ⟨n, rfl, _, hw⟩ := DataW.trod_int ht h
  exact ⟨n, ⟨rfl, wf_inK hw⟩, fun _ => wf_inK hw⟩
theorem Rd_u8 {t : TypeId} (ht : P.underlying t = some (.int .u8)) (hc : P.cellsOf t = 1) : Rd enc P w base spare held t rU8 SmT := by
  refine ⟨hc, fun fuel cs y h => ?_⟩
  obtain ⟨n, rfl, _, hw⟩ := DataW.trod_int ht h
  exact ⟨UInt8.ofNat n.toNat, mk_u8 (wf_inK hw), fun _ => trivial⟩
theorem Rd_bool {t : TypeId} (ht : P.underlying t = some .bool) (hc : P.cellsOf t = 1) : Rd enc P w base spare held t rBool SmT := by
  refine ⟨hc, fun fuel cs y h => ?_⟩
  obtain ⟨b, rfl, _⟩ := DataW.trod_bool ht h
  exact ⟨b, rfl, fun _ => trivial⟩
theorem bs_toList (s : ByteArray) : Fx.bs s.data.toList = s := by cases s; simp [Fx.bs]
theorem Rd_str {t : TypeId} (ht : P.underlying t = some .string) (hc : P.cellsOf t = 1) : Rd enc P w base spare held t rStr (SmL SmT) := by
  refine ⟨hc, fun fuel cs y h => ?_⟩
  obtain ⟨s, rfl, hy, _⟩ := DataW.trod_string ht h
  refine ⟨s.data.toList, by show _ = _; rw [bs_toList], fun hw => ⟨?_, fun _ _ => trivial⟩⟩
  have := hw s.data.toList.length (by rw [hy]; simp [DataW.weights])
  simpa [reachBytes] using this
theorem ptR_of_cells {α : Type} {q : Rp α} {a : Addr} {cs : List Value} {x : α} (hn : 0 < q.n) (hc : w.cells? base a q.n = some cs) (hr : q.rd w [] cs x) : PtR q w [] a x := by
  obtain ⟨_, hl, hg⟩ := World.cells?_some hc
  have h0 := hg 0 hn
  have hs0 : (cs[0]?).isSome := by simp; omega
  obtain ⟨v0, hv0⟩ := Option.isSome_iff_exists.1 hs0
  rw [hv0] at h0
  have hsp : a.spot = none := by have := World.cell?_spot h0; rwa [Addr.add_zero'] at this
  obtain ⟨b, off, sp⟩ := a
  simp only at hsp; subst hsp
  have hblk : ∃ c T fz, w.heap[b]? = some (.cells c T fz) := by
    simp only [Addr.add_lit, World.cell?, Option.isSome_none, Bool.false_eq_true, if_false] at h0
    cases hb : w.heap[b]? with
    | none => rw [hb] at h0; simp at h0
    | some o => cases o <;> simp [hb] at h0; exact ⟨_, _, _, rfl⟩
  obtain ⟨c, T, fz, hb⟩ := hblk
  have hget : ∀ i, i < q.n → c[off + i]? = cs[i]? := fun i hi => by
    have := hg i hi
    rw [Addr.add_lit, cell_at hb] at this
    exact this
  have hsz : off + q.n ≤ c.size := by
    have := hget (q.n - 1) (by omega)
    rw [List.getElem?_eq_getElem (by omega)] at this
    have := (Array.getElem?_eq_some_iff.1 this).1
    omega
  refine ⟨rfl, ⟨(Array.getElem?_eq_some_iff.1 hb).1, by simp⟩, c, T, fz, hb, hsz, ?_⟩
  have e : (c.toList.drop off).take q.n = cs := by
    apply List.ext_getElem?
    intro i
    rw [List.getElem?_take, List.getElem?_drop]
    split
    · rename_i hi; rw [← hget i hi]; simp
    · rw [List.getElem?_eq_none (by omega)]
  simp only [e]; exact hr
theorem weightsAll_mem {e : TypeId} : ∀ {l : List (DataW H)} {d : DataW H}, d ∈ l → ∀ n ∈ d.weights P e, n ∈ DataW.weightsAll P e l
  | [], _, h, _, _ => by cases h
  | x :: l, d, h, n, hn => by
    rw [DataW.weightsAll]
    rcases List.mem_cons.1 h with e | h
    · subst e; exact List.mem_append_left _ hn
    · exact List.mem_append_right _ (weightsAll_mem h n hn)
theorem Rd_slice {α : Type} {q : Rp α} {Sm : α → Prop} {t e : TypeId} (ht : P.underlying t = some (.slice e)) (hc : P.cellsOf t = 1) (hn : 0 < q.n) (hby : 1 ≤ P.bytesOf e) (R : Rd enc P w base spare held e q Sm) : Rd enc P w base spare held t (rSl q) (SmL Sm) := by
  refine ⟨hc, fun fuel cs y h => ?_⟩
  rcases DataW.trod_slice ht h with ⟨rfl, _⟩ | ⟨a, len, cap, elems, rest, n, _, rfl, hy, hb, hl, hm, hlen, hel, _, _⟩
  · exact ⟨[], ⟨none, 0, rfl, SlR.nil_⟩, fun _ => ⟨by simp, by simp⟩⟩
  · have hex : ∀ i (hi : i < elems.length), ∃ x, PtR q w [] (a.add (i * q.n)) x ∧ ((∀ n ∈ elems[i].1.weights P e, n ≤ reachBytes) → Sm x) := fun i hi => by
      have h1 := hel i (by omega)
      rw [List.getElem?_eq_getElem hi, Option.bind_eq_some_iff] at h1
      obtain ⟨cs, h2, h3⟩ := h1
      obtain ⟨x, hx, hs⟩ := R.2 _ _ _ h3
      rw [R.1] at h2
      exact ⟨x, ptR_of_cells hn h2 hx, hs⟩
    have key : ∀ k, k ≤ elems.length → ∃ xs : List α, xs.length = k ∧ ∀ i (h : i < xs.length) (hi : i < elems.length), PtR q w [] (a.add (i * q.n)) xs[i] ∧ ((∀ n ∈ elems[i].1.weights P e, n ≤ reachBytes) → Sm xs[i]) := by
      intro k
      induction k with
      | zero => exact fun _ => ⟨[], rfl, by simp⟩
      | succ k ih =>
        intro hk
        obtain ⟨xs, h1, h2⟩ := ih (by omega)
        obtain ⟨x, hx⟩ := hex k (by omega)
        refine ⟨xs ++ [x], by simp [h1], fun i hi hi2 => ?_⟩
        by_cases hik : i < xs.length
        · rw [List.getElem_append_left hik]; exact h2 i hik hi2
        · have : i = k := by simp at hi; omega
          subst this
          rw [List.getElem_append_right (by omega)]; simpa [h1] using hx
    obtain ⟨xs, h1, h2⟩ := key elems.length (Nat.le_refl _)
    refine ⟨xs, ⟨some a, cap, by rw [h1, hlen], ⟨by omega, hm, (fun h => by cases h), fun ad he i hi => by cases he; exact (h2 i hi (by omega)).1⟩⟩, fun hw => ?_⟩
    rw [hy] at hw
    simp only [DataW.weights, ht, List.mem_cons, List.mem_append] at hw
    refine ⟨?_, fun x hx => ?_⟩
    · have h3 := hw _ (.inl rfl)
      simp only [List.length_map, reachBytes] at h3
      have h4 : elems.length * 1 ≤ (elems.length + rest.length) * P.bytesOf e := Nat.mul_le_mul (by omega) hby
      rw [h1]; omega
    · obtain ⟨i, hi, rfl⟩ := List.mem_iff_getElem.1 hx
      refine (h2 i hi (by omega)).2 fun n hn' => hw n (.inr (.inl (weightsAll_mem (d := elems[i].1) (List.mem_map.2 ⟨elems[i], List.getElem_mem _, rfl⟩) n hn')))
theorem fld {α : Type} {q : Rp α} {Sm : α → Prop} {fs : Array Field} {cs : List Value} {xs : List (DataW H × List MemPlace)} {n i : Nat} {f : Field} {t : TypeId} {y : DataW H × List MemPlace} (ht : P.underlying t = some (.struct fs))
    (h : ∀ (i : Nat) (f : Field), fs[i]? = some f → DataW.trod enc P w base spare held n f.type ((cs.drop f.offset).take (P.cellsOf f.type)) = xs[i]?) (hl : xs.length = fs.size) (hy : y = (.agg (xs.map (·.1)), xs.flatMap (·.2))) (hf : fs[i]? = some f)
    (R : Rd enc P w base spare held f.type q Sm) : ∃ x, q.rd w [] ((cs.drop f.offset).take q.n) x ∧ ((∀ n ∈ y.1.weights P t, n ≤ reachBytes) → Sm x) := by
  have h1 := h i f hf
  have hi : i < xs.length := by rw [hl]; exact (Array.getElem?_eq_some_iff.1 hf).1
  rw [List.getElem?_eq_getElem hi] at h1
  obtain ⟨x, hx, hs⟩ := R.2 _ _ _ h1
  rw [R.1] at hx
  refine ⟨x, hx, fun hw => hs fun n hn => hw n ?_⟩
  rw [hy]
  simp only [DataW.weights, ht]
  exact DataW.weights_mem_each (j := i) (t := f.type) (d := xs[i].1) (by simp [hf]) (by simp [hi]) n hn
theorem rd_pair {α β : Type} {r : Rp α} {s : Rp β} {O : List Nat} {cs : List Value} {o : Nat} {x : α} {y : β} (h1 : r.rd w O ((cs.drop o).take r.n) x) (h2 : s.rd w O ((cs.drop (o + r.n)).take s.n) y) :
    (rPair r s).rd w O ((cs.drop o).take (rPair r s).n) (x, y) := by
  refine ⟨_, _, ?_, h1, h2⟩
  show (cs.drop o).take (r.n + s.n) = _
  rw [List.take_add, List.drop_drop]
theorem rd_all {α : Type} {q : Rp α} {O : List Nat} {cs : List Value} {x : α} (h : q.rd w O ((cs.drop 0).take q.n) x) (hl : cs.length = q.n) : q.rd w O cs x := by
  rwa [List.drop_zero, List.take_of_length_le (by omega)] at h
end
end Go.Fx


set_option linter.unusedVariables false
set_option linter.unusedSimpArgs false
set_option maxRecDepth 100000
set_option maxHeartbeats 0
namespace Go.Fx
open Go Go.RowKit Go.Proofs
structure XWrite where
  at_ : Int
  data : List UInt8
  deriving Inhabited, DecidableEq
def rXWrite : Rp XWrite := rVia (fun d => (d.at_, d.data)) (rPair (rInt .i64) (rSl rU8))
structure XDisk where
  sectors : List (List UInt8)
  pending : List XWrite
  left : Int
  stopped : Bool
  deriving Inhabited, DecidableEq
def rXDisk : Rp XDisk := rVia (fun d => (d.sectors, d.pending, d.left, d.stopped)) (rPair (rSl (rSl rU8)) (rPair (rSl rXWrite) (rPair (rInt .i64) rBool)))
structure XAct where
  sync : Bool
  at_ : UInt8
  byte : UInt8
  deriving Inhabited, DecidableEq
def rXAct : Rp XAct := rVia (fun d => (d.sync, d.at_, d.byte)) (rPair rBool (rPair rU8 rU8))
theorem ty22 : Ty Try.prog 22 (.slice 41) 1 24 [(.slice none 0 0)] false :=
  ⟨Try.underlying22, ⟨Try.t22, info_of Try.type22, rfl, rfl, _, rfl, rfl⟩, Try.isAgg22, rfl⟩
theorem ty41 : Ty Try.prog 41 (.slice 5) 1 24 [(.slice none 0 0)] false :=
  ⟨Try.underlying41, ⟨Try.t41, info_of Try.type41, rfl, rfl, _, rfl, rfl⟩, Try.isAgg41, rfl⟩
theorem ty25 : Ty Try.prog 25 (.struct #[{ name := "Sectors", type := 22, offset := 0, embedded := false, tag := "", pkgPath := "", byteOffset := 0 }, { name := "Pending", type := 23, offset := 1, embedded := false, tag := "", pkgPath := "", byteOffset := 24 }, { name := "Left", type := 3, offset := 2, embedded := false, tag := "", pkgPath := "", byteOffset := 48 }, { name := "Stopped", type := 4, offset := 3, embedded := false, tag := "", pkgPath := "", byteOffset := 56 }]) 4 64 [(.slice none 0 0), (.slice none 0 0), (.int .i64 0), (.bool false)] true :=
  ⟨Try.underlying25, ⟨Try.t25, info_of Try.type25, rfl, rfl, _, rfl, rfl⟩, Try.isAgg25, rfl⟩
theorem ty5 : Ty Try.prog 5 (.int .u8) 1 1 [(.int .u8 0)] false :=
  ⟨Try.underlying5, ⟨Try.t5, info_of Try.type5, rfl, rfl, _, rfl, rfl⟩, Try.isAgg5, rfl⟩
theorem ty73 : Ty Try.prog 73 (.struct #[{ name := "At", type := 3, offset := 0, embedded := false, tag := "", pkgPath := "", byteOffset := 0 }, { name := "Data", type := 41, offset := 1, embedded := false, tag := "", pkgPath := "", byteOffset := 8 }]) 2 32 [(.int .i64 0), (.slice none 0 0)] true :=
  ⟨Try.underlying73, ⟨Try.t73, info_of Try.type73, rfl, rfl, _, rfl, rfl⟩, Try.isAgg73, rfl⟩
theorem ty3 : Ty Try.prog 3 (.int .i64) 1 8 [(.int .i64 0)] false :=
  ⟨Try.underlying3, ⟨Try.t3, info_of Try.type3, rfl, rfl, _, rfl, rfl⟩, Try.isAgg3, rfl⟩
theorem ty23 : Ty Try.prog 23 (.slice 73) 1 24 [(.slice none 0 0)] false :=
  ⟨Try.underlying23, ⟨Try.t23, info_of Try.type23, rfl, rfl, _, rfl, rfl⟩, Try.isAgg23, rfl⟩
theorem ty4 : Ty Try.prog 4 .bool 1 1 [(.bool false)] false :=
  ⟨Try.underlying4, ⟨Try.t4, info_of Try.type4, rfl, rfl, _, rfl, rfl⟩, Try.isAgg4, rfl⟩
theorem ty28 : Ty Try.prog 28 (.int .i64) 1 8 [(.int .i64 0)] false :=
  ⟨Try.underlying28, ⟨Try.t28, info_of Try.type28, rfl, rfl, _, rfl, rfl⟩, Try.isAgg28, rfl⟩
theorem ty37 : Ty Try.prog 37 (.array 4 5) 4 4 [(.int .u8 0), (.int .u8 0), (.int .u8 0), (.int .u8 0)] true :=
  ⟨Try.underlying37, ⟨Try.t37, info_of Try.type37, rfl, rfl, _, rfl, rfl⟩, Try.isAgg37, rfl⟩
theorem ty35 : Ty Try.prog 35 (.slice 39) 1 24 [(.slice none 0 0)] false :=
  ⟨Try.underlying35, ⟨Try.t35, info_of Try.type35, rfl, rfl, _, rfl, rfl⟩, Try.isAgg35, rfl⟩
theorem ty39 : Ty Try.prog 39 (.struct #[{ name := "Sync", type := 4, offset := 0, embedded := false, tag := "", pkgPath := "", byteOffset := 0 }, { name := "At", type := 5, offset := 1, embedded := false, tag := "", pkgPath := "", byteOffset := 1 }, { name := "Byte", type := 5, offset := 2, embedded := false, tag := "", pkgPath := "", byteOffset := 2 }]) 3 3 [(.bool false), (.int .u8 0), (.int .u8 0)] true :=
  ⟨Try.underlying39, ⟨Try.t39, info_of Try.type39, rfl, rfl, _, rfl, rfl⟩, Try.isAgg39, rfl⟩
theorem pl25 : Places Try.prog #[{ name := "Sectors", type := 22, offset := 0, embedded := false, tag := "", pkgPath := "", byteOffset := 0 }, { name := "Pending", type := 23, offset := 1, embedded := false, tag := "", pkgPath := "", byteOffset := 24 }, { name := "Left", type := 3, offset := 2, embedded := false, tag := "", pkgPath := "", byteOffset := 48 }, { name := "Stopped", type := 4, offset := 3, embedded := false, tag := "", pkgPath := "", byteOffset := 56 }] [(0, 1), (1, 1), (2, 1), (3, 1)] := fun w => by simp [ty22.runSize, ty23.runSize, ty3.runSize, ty4.runSize]
theorem pl73 : Places Try.prog #[{ name := "At", type := 3, offset := 0, embedded := false, tag := "", pkgPath := "", byteOffset := 0 }, { name := "Data", type := 41, offset := 1, embedded := false, tag := "", pkgPath := "", byteOffset := 8 }] [(0, 1), (1, 1)] := fun w => by simp [ty3.runSize, ty41.runSize]

end Go.Fx


/- What the arguments read as. -/
namespace Go.Fx
open Go Go.Proofs Go.ChangeShapes Go.WideShapes Go.ChangeAt Go.RowKit Go.Fx
open Go.ChangeMaps (open_string shut_string)
set_option linter.unusedVariables false
set_option maxRecDepth 100000
theorem rd3 {H : Type} {enc : TypeId × Value → H} {w : World} {base : Nat} {spare : Nat → Bool} {held : Bool} : Rd enc Try.prog w base spare held 3 (rInt .i64) (InK .i64) := Rd_int Try.underlying3 (by kernel_rfl)
theorem rd5 {H : Type} {enc : TypeId × Value → H} {w : World} {base : Nat} {spare : Nat → Bool} {held : Bool} : Rd enc Try.prog w base spare held 5 rU8 SmT := Rd_u8 Try.underlying5 (by kernel_rfl)
theorem rd41 {H : Type} {enc : TypeId × Value → H} {w : World} {base : Nat} {spare : Nat → Bool} {held : Bool} : Rd enc Try.prog w base spare held 41 (rSl rU8) (SmL SmT) := Rd_slice Try.underlying41 (by kernel_rfl) (by decide) (of_decide_eq_true (by kernel_rfl)) rd5
theorem rd22 {H : Type} {enc : TypeId × Value → H} {w : World} {base : Nat} {spare : Nat → Bool} {held : Bool} : Rd enc Try.prog w base spare held 22 (rSl (rSl rU8)) (SmL (SmL SmT)) := Rd_slice Try.underlying22 (by kernel_rfl) (by decide) (of_decide_eq_true (by kernel_rfl)) rd41
def smXWrite (d : XWrite) : Prop := (InK .i64) d.at_ ∧ (SmL SmT) d.data
theorem rd73 {H : Type} {enc : TypeId × Value → H} {w : World} {base : Nat} {spare : Nat → Bool} {held : Bool} : Rd enc Try.prog w base spare held 73 rXWrite smXWrite := by
  refine ⟨by kernel_rfl, fun fuel cs y h => ?_⟩
  obtain ⟨xs, n, _, hy, hl, hlen, hf⟩ := DataW.trod_struct Try.underlying73 h
  obtain ⟨x0, h0, s0⟩ := fld Try.underlying73 hf hlen hy (i := 0) rfl rd3
  obtain ⟨x1, h1, s1⟩ := fld Try.underlying73 hf hlen hy (i := 1) rfl rd41
  have hc : Try.prog.cellsOf 73 = 2 := by kernel_rfl
  refine ⟨⟨x0, x1⟩, ?_, fun hw => ⟨s0 hw, s1 hw⟩⟩
  exact rd_all (q := (rPair (rInt .i64) (rSl rU8))) (rd_pair h0 h1) (hl.trans hc)
theorem rd23 {H : Type} {enc : TypeId × Value → H} {w : World} {base : Nat} {spare : Nat → Bool} {held : Bool} : Rd enc Try.prog w base spare held 23 (rSl rXWrite) (SmL smXWrite) := Rd_slice Try.underlying23 (by kernel_rfl) (by decide) (of_decide_eq_true (by kernel_rfl)) rd73
theorem rd4 {H : Type} {enc : TypeId × Value → H} {w : World} {base : Nat} {spare : Nat → Bool} {held : Bool} : Rd enc Try.prog w base spare held 4 rBool SmT := Rd_bool Try.underlying4 (by kernel_rfl)
def smXDisk (d : XDisk) : Prop := (SmL (SmL SmT)) d.sectors ∧ (SmL smXWrite) d.pending ∧ (InK .i64) d.left ∧ SmT d.stopped
theorem rd25 {H : Type} {enc : TypeId × Value → H} {w : World} {base : Nat} {spare : Nat → Bool} {held : Bool} : Rd enc Try.prog w base spare held 25 rXDisk smXDisk := by
  refine ⟨by kernel_rfl, fun fuel cs y h => ?_⟩
  obtain ⟨xs, n, _, hy, hl, hlen, hf⟩ := DataW.trod_struct Try.underlying25 h
  obtain ⟨x0, h0, s0⟩ := fld Try.underlying25 hf hlen hy (i := 0) rfl rd22
  obtain ⟨x1, h1, s1⟩ := fld Try.underlying25 hf hlen hy (i := 1) rfl rd23
  obtain ⟨x2, h2, s2⟩ := fld Try.underlying25 hf hlen hy (i := 2) rfl rd3
  obtain ⟨x3, h3, s3⟩ := fld Try.underlying25 hf hlen hy (i := 3) rfl rd4
  have hc : Try.prog.cellsOf 25 = 4 := by kernel_rfl
  refine ⟨⟨x0, x1, x2, x3⟩, ?_, fun hw => ⟨s0 hw, s1 hw, s2 hw, s3 hw⟩⟩
  exact rd_all (q := (rPair (rSl (rSl rU8)) (rPair (rSl rXWrite) (rPair (rInt .i64) rBool)))) (rd_pair h0 (rd_pair h1 (rd_pair h2 h3))) (hl.trans hc)
def smXAct (d : XAct) : Prop := SmT d.sync ∧ SmT d.at_ ∧ SmT d.byte
theorem rd39 {H : Type} {enc : TypeId × Value → H} {w : World} {base : Nat} {spare : Nat → Bool} {held : Bool} : Rd enc Try.prog w base spare held 39 rXAct smXAct := by
  refine ⟨by kernel_rfl, fun fuel cs y h => ?_⟩
  obtain ⟨xs, n, _, hy, hl, hlen, hf⟩ := DataW.trod_struct Try.underlying39 h
  obtain ⟨x0, h0, s0⟩ := fld Try.underlying39 hf hlen hy (i := 0) rfl rd4
  obtain ⟨x1, h1, s1⟩ := fld Try.underlying39 hf hlen hy (i := 1) rfl rd5
  obtain ⟨x2, h2, s2⟩ := fld Try.underlying39 hf hlen hy (i := 2) rfl rd5
  have hc : Try.prog.cellsOf 39 = 3 := by kernel_rfl
  refine ⟨⟨x0, x1, x2⟩, ?_, fun hw => ⟨s0 hw, s1 hw, s2 hw⟩⟩
  exact rd_all (q := (rPair rBool (rPair rU8 rU8))) (rd_pair h0 (rd_pair h1 h2)) (hl.trans hc)
theorem rd35 {H : Type} {enc : TypeId × Value → H} {w : World} {base : Nat} {spare : Nat → Bool} {held : Bool} : Rd enc Try.prog w base spare held 35 (rSl rXAct) (SmL smXAct) := Rd_slice Try.underlying35 (by kernel_rfl) (by decide) (of_decide_eq_true (by kernel_rfl)) rd39
end Go.Fx


set_option linter.unusedVariables false
set_option linter.unusedSimpArgs false
set_option maxRecDepth 100000
set_option maxHeartbeats 0
namespace Go.Fx
open Go Go.RowKit Go.Proofs
def m73_bits_Mul32 (x_ : Int) (y : Int) : Option (Int × Int) :=
  some ((IntKind.wrap .u32 ((IntKind.wrap .u64 ((IntKind.wrap .u64 x_) * (IntKind.wrap .u64 y))) / 2 ^ min 32 (IntKind.bits .u64))), (IntKind.wrap .u32 (IntKind.wrap .u64 ((IntKind.wrap .u64 x_) * (IntKind.wrap .u64 y)))))

theorem c73_bits_Mul32 {w : World} {O : List Nat} {x_ : Int} {y : Int} (hO : ∀ k ∈ O, k < w.heap.size) (r_x_ : InK .u32 x_) (r_y : InK .u32 y) {x : Int × Int} (hm : m73_bits_Mul32 x_ y = some x) :
    Ok Try.prog 73 [(Value.int .u32 x_), (Value.int .u32 y)] w O (vT2 (vI .u32) (vI .u32)) x := by
  unfold m73_bits_Mul32 at hm
  refine Fn_of_Wp (n := 17) (xs := [.tmp 4, .tmp 5]) Try.func73 rfl Try.ntmps73 Try.results73 rfl ?_
  have hs := St.start hO
  refine Wp_seq ?_
  refine Wp_region ?_  -- 0 bits.go:459
  refine Rg_op rfl (op_assign (v := (Value.int .u32 0)) rfl ?_)
  refine Rg_op rfl (op_assign (v := (Value.int .u32 0)) rfl ?_)
  refine Rg_nil ?_
  refine Wp_seq ?_
  refine Wp_region ?_  -- 1 bits.go:460
  refine Rg_op rfl (op_move (v := (Value.int .u32 x_)) rfl ?_)
  refine Rg_op rfl (op_conv Try.underlying107 Try.underlying93 rfl ?_)
  refine Rg_op rfl (op_move (v := (Value.int .u32 y)) rfl ?_)
  refine Rg_op rfl (op_conv Try.underlying107 Try.underlying93 rfl ?_)
  refine Rg_op rfl (op_mulw rfl rfl ?_)
  refine Rg_op rfl (op_assign (v := (Value.int .u64 (IntKind.wrap .u64 ((IntKind.wrap .u64 x_) * (IntKind.wrap .u64 y))))) rfl ?_)
  refine Rg_nil ?_
  refine Wp_seq ?_
  refine Wp_region ?_  -- 2 bits.go:461
  refine Rg_op rfl (op_move (v := (Value.int .u64 (IntKind.wrap .u64 ((IntKind.wrap .u64 x_) * (IntKind.wrap .u64 y))))) rfl ?_)
  refine Rg_op rfl (op_shr rfl rfl (by decide) ?_)
  refine Rg_op rfl (op_conv Try.underlying93 Try.underlying107 rfl ?_)
  refine Rg_op rfl (op_move (v := (Value.int .u64 (IntKind.wrap .u64 ((IntKind.wrap .u64 x_) * (IntKind.wrap .u64 y))))) rfl ?_)
  refine Rg_op rfl (op_conv Try.underlying93 Try.underlying107 rfl ?_)
  refine Rg_op rfl (op_assign (v := (Value.int .u32 (IntKind.wrap .u32 ((IntKind.wrap .u64 ((IntKind.wrap .u64 x_) * (IntKind.wrap .u64 y))) / 2 ^ min 32 (IntKind.bits .u64))))) rfl ?_)
  refine Rg_op rfl (op_assign (v := (Value.int .u32 (IntKind.wrap .u32 (IntKind.wrap .u64 ((IntKind.wrap .u64 x_) * (IntKind.wrap .u64 y)))))) rfl ?_)
  refine Rg_nil ?_
  refine Wp_ret ?_
  have hz := step_all hs
  refine ⟨_, (show Closes [] _ _ from rfl), [(Value.int .u32 (IntKind.wrap .u32 ((IntKind.wrap .u64 ((IntKind.wrap .u64 x_) * (IntKind.wrap .u64 y))) / 2 ^ min 32 (IntKind.bits .u64)))), (Value.int .u32 (IntKind.wrap .u32 (IntKind.wrap .u64 ((IntKind.wrap .u64 x_) * (IntKind.wrap .u64 y)))))], ⟨rfl, rfl, trivial⟩, hs.ext, ?_⟩
  exact Vr.eq (a := (vT2 (vI .u32) (vI .u32))) (x := ((IntKind.wrap .u32 ((IntKind.wrap .u64 ((IntKind.wrap .u64 x_) * (IntKind.wrap .u64 y))) / 2 ^ min 32 (IntKind.bits .u64))), (IntKind.wrap .u32 (IntKind.wrap .u64 ((IntKind.wrap .u64 x_) * (IntKind.wrap .u64 y)))))) (mkT2 ⟨rfl, (inK_wrap .u32 _)⟩ ⟨rfl, (inK_wrap .u32 _)⟩) (Option.some.inj hm)

end Go.Fx


set_option linter.unusedVariables false
set_option linter.unusedSimpArgs false
set_option maxRecDepth 100000
set_option maxHeartbeats 0
namespace Go.Fx
open Go Go.RowKit Go.Proofs
def m74_bits_Mul64 (x_ : Int) (y : Int) : Option (Int × Int) :=
  some ((IntKind.wrap .u64 ((IntKind.wrap .u64 ((IntKind.wrap .u64 ((x_ / 2 ^ min 32 (IntKind.bits .u64)) * (y / 2 ^ min 32 (IntKind.bits .u64)))) + ((IntKind.wrap .u64 ((IntKind.wrap .u64 ((x_ / 2 ^ min 32 (IntKind.bits .u64)) * (Go.bits .and .u64 y 4294967295))) + ((IntKind.wrap .u64 ((Go.bits .and .u64 x_ 4294967295) * (Go.bits .and .u64 y 4294967295))) / 2 ^ min 32 (IntKind.bits .u64)))) / 2 ^ min 32 (IntKind.bits .u64)))) + ((IntKind.wrap .u64 ((Go.bits .and .u64 (IntKind.wrap .u64 ((IntKind.wrap .u64 ((x_ / 2 ^ min 32 (IntKind.bits .u64)) * (Go.bits .and .u64 y 4294967295))) + ((IntKind.wrap .u64 ((Go.bits .and .u64 x_ 4294967295) * (Go.bits .and .u64 y 4294967295))) / 2 ^ min 32 (IntKind.bits .u64)))) 4294967295) + (IntKind.wrap .u64 ((Go.bits .and .u64 x_ 4294967295) * (y / 2 ^ min 32 (IntKind.bits .u64)))))) / 2 ^ min 32 (IntKind.bits .u64)))), (IntKind.wrap .u64 (x_ * y)))

theorem c74_bits_Mul64 {w : World} {O : List Nat} {x_ : Int} {y : Int} (hO : ∀ k ∈ O, k < w.heap.size) (r_x_ : InK .u64 x_) (r_y : InK .u64 y) {x : Int × Int} (hm : m74_bits_Mul64 x_ y = some x) :
    Ok Try.prog 74 [(Value.int .u64 x_), (Value.int .u64 y)] w O (vT2 (vI .u64) (vI .u64)) x := by
  unfold m74_bits_Mul64 at hm
  refine Fn_of_Wp (n := 51) (xs := [.tmp 4, .tmp 5]) Try.func74 rfl Try.ntmps74 Try.results74 rfl ?_
  have hs := St.start hO
  refine Wp_seq ?_
  refine Wp_region ?_  -- 0 bits.go:470
  refine Rg_op rfl (op_assign (v := (Value.int .u64 0)) rfl ?_)
  refine Rg_op rfl (op_assign (v := (Value.int .u64 0)) rfl ?_)
  refine Rg_nil ?_
  refine Wp_seq ?_
  refine Wp_region ?_  -- 1 bits.go:472
  refine Rg_op rfl (op_move (v := (Value.int .u64 x_)) rfl ?_)
  refine Rg_op rfl (op_and rfl rfl ?_)
  refine Rg_op rfl (op_assign (v := (Value.int .u64 (Go.bits .and .u64 x_ 4294967295))) rfl ?_)
  refine Rg_nil ?_
  refine Wp_seq ?_
  refine Wp_region ?_  -- 2 bits.go:473
  refine Rg_op rfl (op_move (v := (Value.int .u64 x_)) rfl ?_)
  refine Rg_op rfl (op_shr rfl rfl (by decide) ?_)
  refine Rg_op rfl (op_assign (v := (Value.int .u64 (x_ / 2 ^ min 32 (IntKind.bits .u64)))) rfl ?_)
  refine Rg_nil ?_
  refine Wp_seq ?_
  refine Wp_region ?_  -- 3 bits.go:474
  refine Rg_op rfl (op_move (v := (Value.int .u64 y)) rfl ?_)
  refine Rg_op rfl (op_and rfl rfl ?_)
  refine Rg_op rfl (op_assign (v := (Value.int .u64 (Go.bits .and .u64 y 4294967295))) rfl ?_)
  refine Rg_nil ?_
  refine Wp_seq ?_
  refine Wp_region ?_  -- 4 bits.go:475
  refine Rg_op rfl (op_move (v := (Value.int .u64 y)) rfl ?_)
  refine Rg_op rfl (op_shr rfl rfl (by decide) ?_)
  refine Rg_op rfl (op_assign (v := (Value.int .u64 (y / 2 ^ min 32 (IntKind.bits .u64)))) rfl ?_)
  refine Rg_nil ?_
  refine Wp_seq ?_
  refine Wp_region ?_  -- 5 bits.go:476
  refine Rg_op rfl (op_move (v := (Value.int .u64 (Go.bits .and .u64 x_ 4294967295))) rfl ?_)
  refine Rg_op rfl (op_move (v := (Value.int .u64 (Go.bits .and .u64 y 4294967295))) rfl ?_)
  refine Rg_op rfl (op_mulw rfl rfl ?_)
  refine Rg_op rfl (op_assign (v := (Value.int .u64 (IntKind.wrap .u64 ((Go.bits .and .u64 x_ 4294967295) * (Go.bits .and .u64 y 4294967295))))) rfl ?_)
  refine Rg_nil ?_
  refine Wp_seq ?_
  refine Wp_region ?_  -- 6 bits.go:477
  refine Rg_op rfl (op_move (v := (Value.int .u64 (x_ / 2 ^ min 32 (IntKind.bits .u64)))) rfl ?_)
  refine Rg_op rfl (op_move (v := (Value.int .u64 (Go.bits .and .u64 y 4294967295))) rfl ?_)
  refine Rg_op rfl (op_mulw rfl rfl ?_)
  refine Rg_op rfl (op_move (v := (Value.int .u64 (IntKind.wrap .u64 ((Go.bits .and .u64 x_ 4294967295) * (Go.bits .and .u64 y 4294967295))))) rfl ?_)
  refine Rg_op rfl (op_shr rfl rfl (by decide) ?_)
  refine Rg_op rfl (op_addw rfl rfl ?_)
  refine Rg_op rfl (op_assign (v := (Value.int .u64 (IntKind.wrap .u64 ((IntKind.wrap .u64 ((x_ / 2 ^ min 32 (IntKind.bits .u64)) * (Go.bits .and .u64 y 4294967295))) + ((IntKind.wrap .u64 ((Go.bits .and .u64 x_ 4294967295) * (Go.bits .and .u64 y 4294967295))) / 2 ^ min 32 (IntKind.bits .u64)))))) rfl ?_)
  refine Rg_nil ?_
  refine Wp_seq ?_
  refine Wp_reset [] [(0, (Value.int .u64 x_)), (1, (Value.int .u64 y)), (6, (Value.int .u64 (Go.bits .and .u64 x_ 4294967295))), (7, (Value.int .u64 (x_ / 2 ^ min 32 (IntKind.bits .u64)))), (9, (Value.int .u64 (y / 2 ^ min 32 (IntKind.bits .u64)))), (11, (Value.int .u64 (IntKind.wrap .u64 ((IntKind.wrap .u64 ((x_ / 2 ^ min 32 (IntKind.bits .u64)) * (Go.bits .and .u64 y 4294967295))) + ((IntKind.wrap .u64 ((Go.bits .and .u64 x_ 4294967295) * (Go.bits .and .u64 y 4294967295))) / 2 ^ min 32 (IntKind.bits .u64))))))] rfl ⟨rfl, rfl, rfl, rfl, rfl, rfl, trivial⟩ fun ξ1 => ?_
  refine Wp_region ?_  -- 7 bits.go:478
  refine Rg_op rfl (op_move (v := (Value.int .u64 (IntKind.wrap .u64 ((IntKind.wrap .u64 ((x_ / 2 ^ min 32 (IntKind.bits .u64)) * (Go.bits .and .u64 y 4294967295))) + ((IntKind.wrap .u64 ((Go.bits .and .u64 x_ 4294967295) * (Go.bits .and .u64 y 4294967295))) / 2 ^ min 32 (IntKind.bits .u64)))))) rfl ?_)
  refine Rg_op rfl (op_and rfl rfl ?_)
  refine Rg_op rfl (op_assign (v := (Value.int .u64 (Go.bits .and .u64 (IntKind.wrap .u64 ((IntKind.wrap .u64 ((x_ / 2 ^ min 32 (IntKind.bits .u64)) * (Go.bits .and .u64 y 4294967295))) + ((IntKind.wrap .u64 ((Go.bits .and .u64 x_ 4294967295) * (Go.bits .and .u64 y 4294967295))) / 2 ^ min 32 (IntKind.bits .u64)))) 4294967295))) rfl ?_)
  refine Rg_nil ?_
  refine Wp_seq ?_
  refine Wp_region ?_  -- 8 bits.go:479
  refine Rg_op rfl (op_move (v := (Value.int .u64 (IntKind.wrap .u64 ((IntKind.wrap .u64 ((x_ / 2 ^ min 32 (IntKind.bits .u64)) * (Go.bits .and .u64 y 4294967295))) + ((IntKind.wrap .u64 ((Go.bits .and .u64 x_ 4294967295) * (Go.bits .and .u64 y 4294967295))) / 2 ^ min 32 (IntKind.bits .u64)))))) rfl ?_)
  refine Rg_op rfl (op_shr rfl rfl (by decide) ?_)
  refine Rg_op rfl (op_assign (v := (Value.int .u64 ((IntKind.wrap .u64 ((IntKind.wrap .u64 ((x_ / 2 ^ min 32 (IntKind.bits .u64)) * (Go.bits .and .u64 y 4294967295))) + ((IntKind.wrap .u64 ((Go.bits .and .u64 x_ 4294967295) * (Go.bits .and .u64 y 4294967295))) / 2 ^ min 32 (IntKind.bits .u64)))) / 2 ^ min 32 (IntKind.bits .u64)))) rfl ?_)
  refine Rg_nil ?_
  refine Wp_seq ?_
  refine Wp_region ?_  -- 9 bits.go:480
  refine Rg_op rfl (op_move (v := (Value.int .u64 (Go.bits .and .u64 (IntKind.wrap .u64 ((IntKind.wrap .u64 ((x_ / 2 ^ min 32 (IntKind.bits .u64)) * (Go.bits .and .u64 y 4294967295))) + ((IntKind.wrap .u64 ((Go.bits .and .u64 x_ 4294967295) * (Go.bits .and .u64 y 4294967295))) / 2 ^ min 32 (IntKind.bits .u64)))) 4294967295))) rfl ?_)
  refine Rg_op rfl (op_move (v := (Value.int .u64 (Go.bits .and .u64 x_ 4294967295))) rfl ?_)
  refine Rg_op rfl (op_move (v := (Value.int .u64 (y / 2 ^ min 32 (IntKind.bits .u64)))) rfl ?_)
  refine Rg_op rfl (op_mulw rfl rfl ?_)
  refine Rg_op rfl (op_addw rfl rfl ?_)
  refine Rg_op rfl (op_assign (v := (Value.int .u64 (IntKind.wrap .u64 ((Go.bits .and .u64 (IntKind.wrap .u64 ((IntKind.wrap .u64 ((x_ / 2 ^ min 32 (IntKind.bits .u64)) * (Go.bits .and .u64 y 4294967295))) + ((IntKind.wrap .u64 ((Go.bits .and .u64 x_ 4294967295) * (Go.bits .and .u64 y 4294967295))) / 2 ^ min 32 (IntKind.bits .u64)))) 4294967295) + (IntKind.wrap .u64 ((Go.bits .and .u64 x_ 4294967295) * (y / 2 ^ min 32 (IntKind.bits .u64)))))))) rfl ?_)
  refine Rg_nil ?_
  refine Wp_seq ?_
  refine Wp_region ?_  -- 10 bits.go:481
  refine Rg_op rfl (op_move (v := (Value.int .u64 (x_ / 2 ^ min 32 (IntKind.bits .u64)))) rfl ?_)
  refine Rg_op rfl (op_move (v := (Value.int .u64 (y / 2 ^ min 32 (IntKind.bits .u64)))) rfl ?_)
  refine Rg_op rfl (op_mulw rfl rfl ?_)
  refine Rg_op rfl (op_move (v := (Value.int .u64 ((IntKind.wrap .u64 ((IntKind.wrap .u64 ((x_ / 2 ^ min 32 (IntKind.bits .u64)) * (Go.bits .and .u64 y 4294967295))) + ((IntKind.wrap .u64 ((Go.bits .and .u64 x_ 4294967295) * (Go.bits .and .u64 y 4294967295))) / 2 ^ min 32 (IntKind.bits .u64)))) / 2 ^ min 32 (IntKind.bits .u64)))) rfl ?_)
  refine Rg_op rfl (op_addw rfl rfl ?_)
  refine Rg_op rfl (op_move (v := (Value.int .u64 (IntKind.wrap .u64 ((Go.bits .and .u64 (IntKind.wrap .u64 ((IntKind.wrap .u64 ((x_ / 2 ^ min 32 (IntKind.bits .u64)) * (Go.bits .and .u64 y 4294967295))) + ((IntKind.wrap .u64 ((Go.bits .and .u64 x_ 4294967295) * (Go.bits .and .u64 y 4294967295))) / 2 ^ min 32 (IntKind.bits .u64)))) 4294967295) + (IntKind.wrap .u64 ((Go.bits .and .u64 x_ 4294967295) * (y / 2 ^ min 32 (IntKind.bits .u64)))))))) rfl ?_)
  refine Rg_op rfl (op_shr rfl rfl (by decide) ?_)
  refine Rg_op rfl (op_addw rfl rfl ?_)
  refine Rg_op rfl (op_assign (v := (Value.int .u64 (IntKind.wrap .u64 ((IntKind.wrap .u64 ((IntKind.wrap .u64 ((x_ / 2 ^ min 32 (IntKind.bits .u64)) * (y / 2 ^ min 32 (IntKind.bits .u64)))) + ((IntKind.wrap .u64 ((IntKind.wrap .u64 ((x_ / 2 ^ min 32 (IntKind.bits .u64)) * (Go.bits .and .u64 y 4294967295))) + ((IntKind.wrap .u64 ((Go.bits .and .u64 x_ 4294967295) * (Go.bits .and .u64 y 4294967295))) / 2 ^ min 32 (IntKind.bits .u64)))) / 2 ^ min 32 (IntKind.bits .u64)))) + ((IntKind.wrap .u64 ((Go.bits .and .u64 (IntKind.wrap .u64 ((IntKind.wrap .u64 ((x_ / 2 ^ min 32 (IntKind.bits .u64)) * (Go.bits .and .u64 y 4294967295))) + ((IntKind.wrap .u64 ((Go.bits .and .u64 x_ 4294967295) * (Go.bits .and .u64 y 4294967295))) / 2 ^ min 32 (IntKind.bits .u64)))) 4294967295) + (IntKind.wrap .u64 ((Go.bits .and .u64 x_ 4294967295) * (y / 2 ^ min 32 (IntKind.bits .u64)))))) / 2 ^ min 32 (IntKind.bits .u64)))))) rfl ?_)
  refine Rg_nil ?_
  refine Wp_seq ?_
  refine Wp_region ?_  -- 11 bits.go:482
  refine Rg_op rfl (op_move (v := (Value.int .u64 x_)) rfl ?_)
  refine Rg_op rfl (op_move (v := (Value.int .u64 y)) rfl ?_)
  refine Rg_op rfl (op_mulw rfl rfl ?_)
  refine Rg_op rfl (op_assign (v := (Value.int .u64 (IntKind.wrap .u64 (x_ * y)))) rfl ?_)
  refine Rg_nil ?_
  refine Wp_ret ?_
  have hz := step_all hs
  refine ⟨_, (show Closes [] _ _ from rfl), [(Value.int .u64 (IntKind.wrap .u64 ((IntKind.wrap .u64 ((IntKind.wrap .u64 ((x_ / 2 ^ min 32 (IntKind.bits .u64)) * (y / 2 ^ min 32 (IntKind.bits .u64)))) + ((IntKind.wrap .u64 ((IntKind.wrap .u64 ((x_ / 2 ^ min 32 (IntKind.bits .u64)) * (Go.bits .and .u64 y 4294967295))) + ((IntKind.wrap .u64 ((Go.bits .and .u64 x_ 4294967295) * (Go.bits .and .u64 y 4294967295))) / 2 ^ min 32 (IntKind.bits .u64)))) / 2 ^ min 32 (IntKind.bits .u64)))) + ((IntKind.wrap .u64 ((Go.bits .and .u64 (IntKind.wrap .u64 ((IntKind.wrap .u64 ((x_ / 2 ^ min 32 (IntKind.bits .u64)) * (Go.bits .and .u64 y 4294967295))) + ((IntKind.wrap .u64 ((Go.bits .and .u64 x_ 4294967295) * (Go.bits .and .u64 y 4294967295))) / 2 ^ min 32 (IntKind.bits .u64)))) 4294967295) + (IntKind.wrap .u64 ((Go.bits .and .u64 x_ 4294967295) * (y / 2 ^ min 32 (IntKind.bits .u64)))))) / 2 ^ min 32 (IntKind.bits .u64))))), (Value.int .u64 (IntKind.wrap .u64 (x_ * y)))], ⟨rfl, rfl, trivial⟩, hs.ext, ?_⟩
  exact Vr.eq (a := (vT2 (vI .u64) (vI .u64))) (x := ((IntKind.wrap .u64 ((IntKind.wrap .u64 ((IntKind.wrap .u64 ((x_ / 2 ^ min 32 (IntKind.bits .u64)) * (y / 2 ^ min 32 (IntKind.bits .u64)))) + ((IntKind.wrap .u64 ((IntKind.wrap .u64 ((x_ / 2 ^ min 32 (IntKind.bits .u64)) * (Go.bits .and .u64 y 4294967295))) + ((IntKind.wrap .u64 ((Go.bits .and .u64 x_ 4294967295) * (Go.bits .and .u64 y 4294967295))) / 2 ^ min 32 (IntKind.bits .u64)))) / 2 ^ min 32 (IntKind.bits .u64)))) + ((IntKind.wrap .u64 ((Go.bits .and .u64 (IntKind.wrap .u64 ((IntKind.wrap .u64 ((x_ / 2 ^ min 32 (IntKind.bits .u64)) * (Go.bits .and .u64 y 4294967295))) + ((IntKind.wrap .u64 ((Go.bits .and .u64 x_ 4294967295) * (Go.bits .and .u64 y 4294967295))) / 2 ^ min 32 (IntKind.bits .u64)))) 4294967295) + (IntKind.wrap .u64 ((Go.bits .and .u64 x_ 4294967295) * (y / 2 ^ min 32 (IntKind.bits .u64)))))) / 2 ^ min 32 (IntKind.bits .u64)))), (IntKind.wrap .u64 (x_ * y)))) (mkT2 ⟨rfl, (inK_wrap .u64 _)⟩ ⟨rfl, (inK_wrap .u64 _)⟩) (Option.some.inj hm)

end Go.Fx


set_option linter.unusedVariables false
set_option linter.unusedSimpArgs false
set_option maxRecDepth 100000
set_option maxHeartbeats 0
namespace Go.Fx
open Go Go.RowKit Go.Proofs
def m64_bits_Mul (x_ : Int) (y : Int) : Option (Int × Int) :=
  (m74_bits_Mul64 x_ y).bind fun mul64_1 =>
  some (mul64_1.1, mul64_1.2)

theorem c64_bits_Mul {w : World} {O : List Nat} {x_ : Int} {y : Int} (hO : ∀ k ∈ O, k < w.heap.size) (r_x_ : InK .u64 x_) (r_y : InK .u64 y) {x : Int × Int} (hm : m64_bits_Mul x_ y = some x) :
    Ok Try.prog 64 [(Value.int .u64 x_), (Value.int .u64 y)] w O (vT2 (vI .u64) (vI .u64)) x := by
  unfold m64_bits_Mul at hm
  refine Fn_of_Wp (n := 30) (xs := [.tmp 4, .tmp 5]) Try.func64 rfl Try.ntmps64 Try.results64 rfl ?_
  have hs := St.start hO
  refine Wp_seq ?_
  refine Wp_region ?_  -- 0 bits.go:445
  refine Rg_op rfl (op_assign (v := (Value.int .u64 0)) rfl ?_)
  refine Rg_op rfl (op_assign (v := (Value.int .u64 0)) rfl ?_)
  refine Rg_nil ?_
  refine Wp_seq ?_
  refine Wp_cond_f rfl ?_
  refine Wp_skip ?_
  refine Wp_seq ?_
  refine Wp_region ?_  -- 3 bits.go:450
  refine Rg_op rfl (op_move (v := (Value.int .u64 x_)) rfl ?_)
  refine Rg_op rfl (op_move (v := (Value.int .u64 y)) rfl ?_)
  replace hm := bd hm; obtain ⟨mul64_1, hv1, hm⟩ := hm
  refine Rg_op rfl (op_call Try.call74 (c74_bits_Mul64 (x_ := x_) (y := y) hs.ltw r_x_ r_y hv1) rfl ?_)
  rintro v2 w3 ⟨hx4, h5⟩
  have hs6 := hs.call hx4
  have p7 := Step.ext (O := ks [] O) hx4
  clear hx4
  clear p7
  obtain ⟨v8, v9, rfl, h10, h11⟩ := h5
  obtain ⟨rfl, r_y12⟩ := h10
  obtain ⟨rfl, r_y13⟩ := h11
  refine Rg_op rfl (op_move (v := (Value.tuple [(Value.int .u64 mul64_1.1), (Value.int .u64 mul64_1.2)].toArray)) rfl ?_)
  refine Rg_op rfl (op_extract (v := (Value.int .u64 mul64_1.1)) rfl rfl ?_)
  refine Rg_op rfl (op_extract (v := (Value.int .u64 mul64_1.2)) rfl rfl ?_)
  refine Rg_op rfl (op_assign (v := (Value.int .u64 mul64_1.1)) rfl ?_)
  refine Rg_op rfl (op_assign (v := (Value.int .u64 mul64_1.2)) rfl ?_)
  refine Rg_nil ?_
  refine Wp_seq ?_
  refine Wp_region ?_  -- 4 bits.go:451
  refine Rg_op rfl (op_move (v := (Value.int .u64 mul64_1.1)) rfl ?_)
  refine Rg_op rfl (op_move (v := (Value.int .u64 mul64_1.2)) rfl ?_)
  refine Rg_op rfl (op_assign (v := (Value.int .u64 mul64_1.1)) rfl ?_)
  refine Rg_op rfl (op_assign (v := (Value.int .u64 mul64_1.2)) rfl ?_)
  refine Rg_nil ?_
  refine Wp_ret ?_
  have hz := step_all hs6
  refine ⟨_, (show Closes [] _ _ from rfl), [(Value.int .u64 mul64_1.1), (Value.int .u64 mul64_1.2)], ⟨rfl, rfl, trivial⟩, hs6.ext, ?_⟩
  exact Vr.eq (a := (vT2 (vI .u64) (vI .u64))) (x := (mul64_1.1, mul64_1.2)) (mkT2 ⟨rfl, r_y12⟩ ⟨rfl, r_y13⟩) (Option.some.inj hm)

end Go.Fx


set_option linter.unusedVariables false
set_option linter.unusedSimpArgs false
set_option maxRecDepth 100000
set_option maxHeartbeats 0
namespace Go.Fx
open Go Go.RowKit Go.Proofs
def m41_slices_Repeatbyte_byte__B0 (sf42 : (List (List UInt8)) → Int → Option (List (List UInt8))) (newslice_1 : List (List UInt8)) (n_1 : Int) : Option (List (List UInt8)) :=
  bif (decide (n_1 < (newslice_1.length : Int))) then
    ck ((0 : Int) ≤ n_1 ∧ n_1 < (newslice_1.length : Int) ∧ (newslice_1.length : Int) ≤ (newslice_1.length : Int)) <|
    ck ((0 : Int) ≤ (0 : Int) ∧ (0 : Int) < n_1 ∧ n_1 ≤ (newslice_1.length : Int)) <|
    ck (n_1.toNat < newslice_1.length) <|
    sf42 (newslice_1.take n_1.toNat ++ (((newslice_1.drop 0).take (n_1.toNat - 0)).take (newslice_1.length - n_1.toNat) ++ (newslice_1.drop n_1.toNat).drop (min ((newslice_1.drop 0).take (n_1.toNat - 0)).length (newslice_1.length - n_1.toNat)))) (IntKind.wrap .i64 (n_1 + ((min ((newslice_1.drop 0).take (n_1.toNat - 0)).length (newslice_1.length - n_1.toNat) : Nat) : Int)))
  else
    some newslice_1

def m41_slices_Repeatbyte_byte_ (x_ : List (List UInt8)) (count : Int) : Option (List (List UInt8)) :=
  bif (decide (count < 0)) then
    none
  else
    (m64_bits_Mul (IntKind.wrap .u64 (x_.length : Int)) (IntKind.wrap .u64 count)).bind fun mul_1 =>
    jn (fun (v_1 : Bool) =>
      bif v_1 then
        none
      else
        ck ((0 : Int) ≤ (IntKind.wrap .i64 mul_1.2) ∧ (IntKind.wrap .i64 mul_1.2) ≤ (IntKind.wrap .i64 mul_1.2) ∧ (24 : Int) * (IntKind.wrap .i64 mul_1.2) ≤ 281474976710656 ∧ (IntKind.wrap .i64 mul_1.2) ≤ 281474976710656) <|
        ck (0 < (List.replicate (IntKind.wrap .i64 mul_1.2).toNat ([] : List UInt8)).length) <|
        loop2 m41_slices_Repeatbyte_byte__B0 (1000000) (x_.take (List.replicate (IntKind.wrap .i64 mul_1.2).toNat ([] : List UInt8)).length ++ (List.replicate (IntKind.wrap .i64 mul_1.2).toNat ([] : List UInt8)).drop x_.length) ((min x_.length (List.replicate (IntKind.wrap .i64 mul_1.2).toNat ([] : List UInt8)).length : Nat) : Int))
    (fun k17 =>
      bif (decide (0 < mul_1.1)) then
        k17 true
      else
        k17 (decide (9223372036854775807 < mul_1.2)))

theorem g41_slices_Repeatbyte_byte_ {w : World} {O : List Nat} {x_ : List (List UInt8)} {count : Int} {a_x_ : Option Addr} {c_x_ : Nat} (hO : ∀ k ∈ O, k < w.heap.size) (f_x_ : SlR (rSl rU8) w O a_x_ c_x_ x_) (r_count : InK .i64 count) {x : (List (List UInt8))} (hm : m41_slices_Repeatbyte_byte_ x_ count = some x) :
    OkG Try.prog 41 [(Value.slice a_x_ x_.length c_x_), (Value.int .i64 count)] w O (rSl rU8) 41 x := by
  unfold m41_slices_Repeatbyte_byte_ at hm
  refine Fn_of_Wp (n := 48) (xs := [.tmp 4]) Try.func41 rfl Try.ntmps41 Try.results41 rfl ?_
  have hs := St.start hO
  refine Wp_seq ?_
  refine Wp_region ?_  -- 0 slices.go:514
  refine Rg_op rfl (op_assign (v := (Value.slice none 0 0)) rfl ?_)
  refine Rg_nil ?_
  refine Wp_seq ?_
  refine Wp_seq ?_
  refine Wp_region ?_  -- 1 slices.go:515
  refine Rg_op rfl (op_move (v := (Value.int .i64 count)) rfl ?_)
  refine Rg_op rfl (op_lss rfl rfl ?_)
  refine Rg_nil ?_
  refine Wp_cond rfl (fun hc1 => ?_) (fun hc1 => ?_)
  ·
    replace hm := bif_t hm hc1
    refine Wp_region ?_  -- 2 slices.go:516
    cases hm
  ·
    replace hm := bif_f hm hc1
    refine Wp_skip ?_
    refine Wp_seq ?_
    refine Wp_region ?_  -- 3 slices.go:520
    refine Rg_op rfl (op_move (v := (Value.slice a_x_ x_.length c_x_)) rfl ?_)
    refine Rg_op rfl (op_len Try.underlying22 rfl ?_)
    refine Rg_op rfl (op_conv Try.underlying3 Try.underlying65 rfl ?_)
    refine Rg_op rfl (op_move (v := (Value.int .i64 count)) rfl ?_)
    refine Rg_op rfl (op_conv Try.underlying3 Try.underlying65 rfl ?_)
    replace hm := bd hm; obtain ⟨mul_1, hv2, hm⟩ := hm
    refine Rg_op rfl (op_call Try.call64 (c64_bits_Mul (x_ := (IntKind.wrap .u64 (x_.length : Int))) (y := (IntKind.wrap .u64 count)) hs.ltw (inK_wrap .u64 _) (inK_wrap .u64 _) hv2) rfl ?_)
    rintro v3 w4 ⟨hx5, h6⟩
    have hs7 := hs.call hx5
    have p8 := Step.ext (O := ks [] O) hx5
    clear hx5
    replace f_x_ := f_x_.step p8
    clear p8
    obtain ⟨v9, v10, rfl, h11, h12⟩ := h6
    obtain ⟨rfl, r_y13⟩ := h11
    obtain ⟨rfl, r_y14⟩ := h12
    refine Rg_op rfl (op_move (v := (Value.tuple [(Value.int .u64 mul_1.1), (Value.int .u64 mul_1.2)].toArray)) rfl ?_)
    refine Rg_op rfl (op_extract (v := (Value.int .u64 mul_1.1)) rfl rfl ?_)
    refine Rg_op rfl (op_extract (v := (Value.int .u64 mul_1.2)) rfl rfl ?_)
    refine Rg_op rfl (op_assign (v := (Value.int .u64 mul_1.1)) rfl ?_)
    refine Rg_op rfl (op_assign (v := (Value.int .u64 mul_1.2)) rfl ?_)
    refine Rg_nil ?_
    refine Wp_seq ?_
    refine Wp_reset [] [(0, (Value.slice a_x_ x_.length c_x_)), (5, (Value.int .u64 mul_1.1)), (6, (Value.int .u64 mul_1.2))] rfl ⟨rfl, rfl, rfl, trivial⟩ fun ξ15 => ?_
    replace hm := jn_elim hm; obtain ⟨k17, hk18, hm⟩ := hm
    refine Wp_seqJ [21, 22, 23, 24, 25, 26] (fun fr w' => ∃ (v_1 : Bool) (Ebs : Ents), Ebs = [] ∧ fr [] [(26, (Value.bool v_1))] ∧ Step (ks [] O) w4 (ks Ebs O) w' ∧ St ⟨w, [], []⟩ O w' Ebs ∧ k17 v_1 = some x) ?_ ?_
    ·
      rintro ρ24 w20 ⟨v_1, Ebs, hEbs, hfr23, hst22, hs21, hm⟩
      replace hm := jnE1 hk18 hm
      subst hEbs; rw [hfr23.eq]; clear hfr23
      replace f_x_ := f_x_.step hst22
      clear hst22 hs7
      refine Wp_cond rfl (fun hc25 => ?_) (fun hc25 => ?_)
      ·
        replace hm := bif_t hm hc25
        refine Wp_region ?_  -- 5 slices.go:522
        cases hm
      ·
        replace hm := bif_f hm hc25
        refine Wp_skip ?_
        refine Wp_seq ?_
        refine Wp_region ?_  -- 6 slices.go:525
        refine Rg_op rfl (op_move (v := (Value.int .u64 mul_1.2)) rfl ?_)
        refine Rg_op rfl (op_conv Try.underlying65 Try.underlying3 rfl ?_)
        replace hm := ck_some hm; obtain ⟨hc26, hm⟩ := hm
        refine Rg_op rfl (op_makeSliceI (q := (rSl rU8)) (v := (Value.slice none 0 0)) (x0 := ([] : List UInt8)) ty22 ty41 hs21 rfl rfl hc26 rfl (fun _ _ => (mk_sl SlR.nil_)) ?_)
        intro b27 w28 hx32 p29 hs30 f31
        replace f_x_ := f_x_.step p29
        clear p29 hs21
        refine Rg_op rfl (op_assign (v := (Value.slice (some ⟨b27, 0, none⟩) (List.replicate (IntKind.wrap .i64 mul_1.2).toNat ([] : List UInt8)).length ((IntKind.wrap .i64 mul_1.2).toNat))) rfl ?_)
        refine Rg_nil ?_
        refine Wp_seq ?_
        refine Wp_region ?_  -- 7 slices.go:526
        refine Rg_op rfl (op_move (v := (Value.slice (some ⟨b27, 0, none⟩) (List.replicate (IntKind.wrap .i64 mul_1.2).toNat ([] : List UInt8)).length ((IntKind.wrap .i64 mul_1.2).toNat))) rfl ?_)
        refine Rg_op rfl (op_move (v := (Value.slice a_x_ x_.length c_x_)) rfl ?_)
        replace hm := ck_some hm; obtain ⟨hc34, hm⟩ := hm
        refine Rg_op rfl (op_copyG (p := (rSl rU8)) (i := 0) ty22 ty41 rfl hs30 rfl rfl f31 rfl f_x_ hc34 ?_)
        intro o38 w35 p36 hs37 f39
        replace f_x_ := f_x_.step p36
        clear p36 hs30
        refine Rg_op rfl (op_assign (v := (Value.int .i64 ((min x_.length (List.replicate (IntKind.wrap .i64 mul_1.2).toNat ([] : List UInt8)).length : Nat) : Int))) rfl ?_)
        refine Rg_nil ?_
        refine Wp_seq ?_
        refine Wp_block ?_
        refine Wp_loopM [7, 8, 34, 35, 36, 37, 38, 39, 40, 41, 42, 43, 44, 45, 46] (fun m fr w' => ∃ (newslice_1 : List (List UInt8)) (n_1 : Int) (a_g40 : Option Addr) (c_g40 : Nat) (k_g40 : Option Nat) (o_g40 : Obj) (Ebs : Ents), Ebs = [(k_g40, o_g40)] ∧ fr [] [(7, (Value.slice a_g40 newslice_1.length c_g40)), (8, (Value.int .i64 n_1))] ∧ Step (ks [(some b27, o38)] O) w35 (ks Ebs O) w' ∧ St ⟨w, [], []⟩ O w' Ebs ∧ Gs (rSl rU8) 41 w' (ks Ebs O) a_g40 c_g40 newslice_1 k_g40 o_g40 ∧ InK .i64 n_1 ∧ loop2 m41_slices_Repeatbyte_byte__B0 m newslice_1 n_1 = some x) (1000000) ⟨(x_.take (List.replicate (IntKind.wrap .i64 mul_1.2).toNat ([] : List UInt8)).length ++ (List.replicate (IntKind.wrap .i64 mul_1.2).toNat ([] : List UInt8)).drop x_.length), ((min x_.length (List.replicate (IntKind.wrap .i64 mul_1.2).toNat ([] : List UInt8)).length : Nat) : Int), (some ⟨b27, 0, none⟩), (IntKind.wrap .i64 mul_1.2).toNat, (some b27), o38, _, rfl, ⟨Out.refl _ _, rfl, (eqlenV (show (List.replicate (IntKind.wrap .i64 mul_1.2).toNat ([] : List UInt8)).length = (x_.take (List.replicate (IntKind.wrap .i64 mul_1.2).toNat ([] : List UInt8)).length ++ (List.replicate (IntKind.wrap .i64 mul_1.2).toNat ([] : List UInt8)).drop x_.length).length from by first | (simp; done) | (simp; omega))), rfl, trivial⟩, Step.refl _ _, hs37, f39, (inK_minlen f_x_), hm⟩ ?_ ?_
        · rintro _ _ ⟨_, _, _, _, _, _, _, _, _, _, _, _, _, hm⟩; exact loop2_z hm
        · rintro m45 K44 hK44 ρ50 w46 ⟨newslice_1, n_1, a_g40, c_g40, k_g40, o_g40, Ebs, hEbs, hfr49, hst48, hs47, f_g40, r_y41, hm⟩
          obtain ⟨sf42, hsf43, hm⟩ := loop2_s hm; unfold m41_slices_Repeatbyte_byte__B0 at hm
          subst hEbs; rw [hfr49.eq]; clear hfr49
          replace f_x_ := f_x_.step hst48
          replace f39 := f39.step hst48
          have ch51 := hst48
          refine Wp_seq ?_
          refine Wp_seq ?_
          clear f_x_ f39
          refine Wp_region ?_  -- 8 slices.go:527
          refine Rg_op rfl (op_move (v := (Value.int .i64 n_1)) rfl ?_)
          refine Rg_op rfl (op_move (v := (Value.slice a_g40 newslice_1.length c_g40)) rfl ?_)
          refine Rg_op rfl (op_len Try.underlying22 rfl ?_)
          refine Rg_op rfl (op_lss rfl rfl ?_)
          refine Rg_nil ?_
          refine Wp_cond rfl (fun hc52 => ?_) (fun hc52 => ?_)
          ·
            replace hm := bif_t hm hc52
            refine Wp_skip ?_
            refine Wp_block ?_
            refine Wp_drawR (g0 := []) (m := 7) (fl := [0]) (TS_inv hs47) (.inl rfl) rfl (by decide +kernel) ?_  -- 9
            refine Dw_eq (Value.int .i64 n_1) (fun ρ53 w54 g hle hi ht => ?_) ?_
            ·
              obtain ⟨-, hst, -⟩ := hle
              refine StepOp_plain (op_move (v := (Value.int .i64 n_1)) (ht 8 rfl) ?_)
              exact Goes.same hi rfl
            refine Dw_eq (Value.slice a_g40 newslice_1.length c_g40) (fun ρ56 w57 g hle hi ht => ?_) ?_
            ·
              obtain ⟨-, hst, -⟩ := hle
              refine StepOp_plain (op_move (v := (Value.slice a_g40 newslice_1.length c_g40)) (ht 7 rfl) ?_)
              exact Goes.same hi rfl
            refine Dw_eq (Value.int .i64 n_1) (fun ρ59 w60 g hle hi ht => ?_) ?_
            ·
              obtain ⟨-, hst, -⟩ := hle
              refine StepOp_plain (op_move (v := (Value.int .i64 n_1)) (ht 8 rfl) ?_)
              exact Goes.same hi rfl
            replace hm := ck_some hm; obtain ⟨hc65, hm⟩ := hm
            obtain ⟨b66, rfl, rfl⟩ := f_g40.at_ (by omega)
            refine Dw_eq (Value.slice (some ⟨b66, if c_g40 = n_1.toNat then 0 else 0 + n_1.toNat * 1, none⟩) (newslice_1.length - n_1.toNat) (c_g40 - n_1.toNat)) (fun ρ62 w63 g hle hi ht => ?_) ?_
            ·
              obtain ⟨-, hst, -⟩ := hle
              replace f_g40 := f_g40.step hst
              refine StepOp_plain (op_sliceO (l := n_1.toNat) (h := newslice_1.length) (m := c_g40) ty22 ty41 (ht 39 rfl) (bndI (ht 40 rfl) (by omega)) rfl rfl (by decide) (by omega) (by have := f_g40.le; omega) (Nat.le_refl _) ?_)
              exact Goes.same hi rfl
            refine Dw_eq (Value.slice (some ⟨b66, 0, none⟩) newslice_1.length c_g40) (fun ρ67 w68 g hle hi ht => ?_) ?_
            ·
              obtain ⟨-, hst, -⟩ := hle
              refine StepOp_plain (op_move (v := (Value.slice (some ⟨b66, 0, none⟩) newslice_1.length c_g40)) (ht 7 rfl) ?_)
              exact Goes.same hi rfl
            refine Dw_eq (Value.int .i64 n_1) (fun ρ70 w71 g hle hi ht => ?_) ?_
            ·
              obtain ⟨-, hst, -⟩ := hle
              refine StepOp_plain (op_move (v := (Value.int .i64 n_1)) (ht 8 rfl) ?_)
              exact Goes.same hi rfl
            replace hm := ck_some hm; obtain ⟨hc76, hm⟩ := hm
            refine Dw_eq (Value.slice (some ⟨b66, if c_g40 = 0 then 0 else 0 + 0 * 1, none⟩) (n_1.toNat - 0) (c_g40 - 0)) (fun ρ73 w74 g hle hi ht => ?_) ?_
            ·
              obtain ⟨-, hst, -⟩ := hle
              replace f_g40 := f_g40.step hst
              refine StepOp_plain (op_sliceO (l := 0) (h := n_1.toNat) (m := c_g40) ty22 ty41 (ht 42 rfl) rfl (bndI (ht 43 rfl) (by omega)) rfl (by decide) (by omega) (by have := f_g40.le; omega) (Nat.le_refl _) ?_)
              exact Goes.same hi rfl
            refine Dw_nil fun w81 g82 hl83 hi84 => ?_
            obtain ⟨-, hst85, -⟩ := hl83
            obtain ⟨hs87, p86⟩ := Step.nx hi84
            rintro _ rfl
            rintro _ rfl
            rintro _ rfl
            rintro _ rfl
            rintro _ rfl
            rintro _ rfl
            rintro _ rfl
            have p88 : Step (ks [(some b66, o_g40)] O) w46 (ks [(some b66, o_g40)] O) w81 := hst85.trans p86
            replace f_g40 := f_g40.step p88
            replace ch51 := ch51.trans p88
            clear p88 hs47
            replace hm := ck_some hm; obtain ⟨hc89, hm⟩ := hm
            obtain ⟨ns90, he91, hr92⟩ := Gs.win (i := 0) (l := 0) (h := n_1.toNat) rfl hs87 rfl f_g40 (by omega) (by omega)
            refine Rg_op rfl (op_copyW (p := (rSl rU8)) (i := 0) (l := n_1.toNat) (h := newslice_1.length) ty22 ty41 rfl hs87 rfl rfl f_g40 (eqlen rfl (show n_1.toNat - 0 = ((newslice_1.drop 0).take (n_1.toNat - 0)).length from by simp; omega)) he91 hr92 hc89 (by omega) ?_)
            intro o96 w93 p94 hs95 f97
            replace ch51 := ch51.trans p94
            clear p94 hs87
            have r98 : InK .i64 ((min ((newslice_1.drop 0).take (n_1.toNat - 0)).length (newslice_1.length - n_1.toNat) : Nat) : Int) := inK_of (by have := f97.le; have hm : maxLen = 9223372036854775807 := rfl; simp at this ⊢; omega)
            refine Rg_op rfl (op_addw rfl rfl ?_)
            refine Rg_op rfl (op_assign (v := (Value.int .i64 (IntKind.wrap .i64 (n_1 + ((min ((newslice_1.drop 0).take (n_1.toNat - 0)).length (newslice_1.length - n_1.toNat) : Nat) : Int))))) rfl ?_)
            refine Rg_nil ?_
            exact hK44 _ _ ⟨(newslice_1.take n_1.toNat ++ (((newslice_1.drop 0).take (n_1.toNat - 0)).take (newslice_1.length - n_1.toNat) ++ (newslice_1.drop n_1.toNat).drop (min ((newslice_1.drop 0).take (n_1.toNat - 0)).length (newslice_1.length - n_1.toNat)))), (IntKind.wrap .i64 (n_1 + ((min ((newslice_1.drop 0).take (n_1.toNat - 0)).length (newslice_1.length - n_1.toNat) : Nat) : Int))), (some ⟨b66, 0, none⟩), c_g40, (some b66), o96, _, rfl, ⟨(by repeat (first | with_reducible exact Out.refl _ _ | refine Out.upd ?_ rfl | refine Out.updL ?_ rfl | refine Out.mix' ?_ rfl | exact Out.refl _ _)), rfl, (eqlenV (show newslice_1.length = (newslice_1.take n_1.toNat ++ (((newslice_1.drop 0).take (n_1.toNat - 0)).take (newslice_1.length - n_1.toNat) ++ (newslice_1.drop n_1.toNat).drop (min ((newslice_1.drop 0).take (n_1.toNat - 0)).length (newslice_1.length - n_1.toNat)))).length from by first | (simp; done) | (simp; omega))), rfl, trivial⟩, ch51, hs95, f97, (inK_wrap .i64 _), jnE2 hsf43 hm⟩
          ·
            replace hm := bif_f hm hc52
            refine Wp_exit ?_
            refine Wp_seq ?_
            refine Wp_region ?_  -- 10 slices.go:530
            refine Rg_op rfl (op_move (v := (Value.slice a_g40 newslice_1.length c_g40)) rfl ?_)
            refine Rg_op rfl (op_assign (v := (Value.slice a_g40 newslice_1.length c_g40)) rfl ?_)
            refine Rg_nil ?_
            refine Wp_ret ?_
            refine ⟨_, (show Closes [] _ _ from rfl), [(Value.slice a_g40 newslice_1.length c_g40)], ⟨rfl, trivial⟩, hs47.ext, ?_⟩
            exact OkG.mk (i := 0) hs47 rfl f_g40 (Option.some.inj hm)
    ·
      intro K19 hK19
      have ch99 := Step.refl (ks [] O) w4
      refine Wp_region ?_  -- 4 slices.go:521
      refine Rg_op rfl (op_move (v := (Value.int .u64 mul_1.1)) rfl ?_)
      refine Rg_op rfl (op_gtr rfl rfl ?_)
      refine Rg_op rfl (op_move (v := (Value.bool (decide (0 < mul_1.1)))) rfl ?_)
      refine Rg_case (fun hg100 => ?_) (fun hg100 => ?_)
      ·
        replace hm := bif_t hm hg100
        refine Rg_opx rfl (asB_ne rfl rfl) rfl ?_
        refine Rg_opx rfl (asB_ne rfl rfl) rfl ?_
        refine Rg_op rfl (op_pick_t (v := (Value.bool true)) rfl rfl ?_)
        refine Rg_nil ?_
        exact hK19 _ _ ⟨true, _, rfl, ⟨(by repeat (first | with_reducible exact Out.refl _ _ | refine Out.upd ?_ rfl | refine Out.updL ?_ rfl | refine Out.mix' ?_ rfl | exact Out.refl _ _)), rfl, rfl, trivial⟩, ch99, hs7, hm⟩
      ·
        replace hm := bif_f hm hg100
        refine Rg_opg rfl rfl rfl (op_move (v := (Value.int .u64 mul_1.2)) rfl ?_)
        refine Rg_opg rfl rfl rfl (op_gtr rfl rfl ?_)
        refine Rg_op rfl (op_pick_f (v := (Value.bool (decide (9223372036854775807 < mul_1.2)))) rfl rfl ?_)
        refine Rg_nil ?_
        exact hK19 _ _ ⟨(decide (9223372036854775807 < mul_1.2)), _, rfl, ⟨(by repeat (first | with_reducible exact Out.refl _ _ | refine Out.upd ?_ rfl | refine Out.updL ?_ rfl | refine Out.mix' ?_ rfl | exact Out.refl _ _)), rfl, rfl, trivial⟩, ch99, hs7, hm⟩
theorem c41_slices_Repeatbyte_byte_ {w : World} {O : List Nat} {x_ : List (List UInt8)} {count : Int} {a_x_ : Option Addr} {c_x_ : Nat} (hO : ∀ k ∈ O, k < w.heap.size) (f_x_ : SlR (rSl rU8) w O a_x_ c_x_ x_) (r_count : InK .i64 count) {x : (List (List UInt8))} (hm : m41_slices_Repeatbyte_byte_ x_ count = some x) :
    Ok Try.prog 41 [(Value.slice a_x_ x_.length c_x_), (Value.int .i64 count)] w O (vC (rSl (rSl rU8))) x :=
  (g41_slices_Repeatbyte_byte_ hO f_x_ r_count hm).ok hO

end Go.Fx


set_option linter.unusedVariables false
set_option linter.unusedSimpArgs false
set_option maxRecDepth 100000
set_option maxHeartbeats 0
namespace Go.Fx
open Go Go.RowKit Go.Proofs
def m15_disk_New (sectors : Int) : Option (XDisk × Int) :=
  jn (fun (v_1 : Bool) =>
    bif v_1 then
      some ((⟨([] : List (List UInt8)), ([] : List XWrite), 0, false⟩ : XDisk), 1)
    else
      ck ((0 : Int) ≤ (128 : Int) ∧ (128 : Int) ≤ (128 : Int) ∧ (1 : Int) * 128 ≤ 281474976710656 ∧ (128 : Int) ≤ 281474976710656) <|
      (m41_slices_Repeatbyte_byte_ [(List.replicate 128 (0 : UInt8))] sectors).bind fun repeat_1 =>
      some ((⟨repeat_1, ([] : List XWrite), (-1), false⟩ : XDisk), 0))
  (fun k8 =>
    bif (decide (sectors < 1)) then
      k8 true
    else
      k8 (decide (4096 < sectors)))

theorem c15_disk_New {w : World} {O : List Nat} {sectors : Int} (hO : ∀ k ∈ O, k < w.heap.size) (r_sectors : InK .i64 sectors) {x : XDisk × Int} (hm : m15_disk_New sectors = some x) :
    Ok Try.prog 15 [(Value.int .i64 sectors)] w O (vT2 (vA rXDisk) (vI .i64)) x := by
  unfold m15_disk_New at hm
  refine Fn_of_Wp (n := 18) (xs := [.cell 2 25, .tmp 3]) Try.func15 rfl Try.ntmps15 Try.results15 rfl ?_
  have hs := St.start hO
  refine Wp_seq ?_
  refine Wp_region ?_  -- 0 disk.go:16
  refine Rg_op rfl (op_alloc ty25 hs ?_)
  intro b1 w2 _ p3 hs4
  clear p3
  refine Rg_op rfl (op_assign (v := (Value.int .i64 0)) rfl ?_)
  refine Rg_nil ?_
  refine Wp_seq ?_
  refine Wp_reset [] [(0, (Value.int .i64 sectors)), (2, (Value.pointer (some ⟨b1, 0, none⟩)))] rfl ⟨rfl, rfl, trivial⟩ fun ξ6 => ?_
  replace hm := jn_elim hm; obtain ⟨k8, hk9, hm⟩ := hm
  refine Wp_seqJ [5, 6, 7, 8, 9, 10] (fun fr w' => ∃ (v_1 : Bool) (Ebs : Ents), Ebs = [(some b1, Obj.cells [(Value.slice none 0 0), (Value.slice none 0 0), (Value.int .i64 0), (Value.bool false)].toArray 25)] ∧ fr [] [(10, (Value.bool v_1))] ∧ Step (ks [(some b1, Obj.cells [(Value.slice none 0 0), (Value.slice none 0 0), (Value.int .i64 0), (Value.bool false)].toArray 25)] O) w2 (ks Ebs O) w' ∧ St ⟨w, [], []⟩ O w' Ebs ∧ k8 v_1 = some x) ?_ ?_
  ·
    rintro ρ15 w11 ⟨v_1, Ebs, hEbs, hfr14, hst13, hs12, hm⟩
    replace hm := jnE1 hk9 hm
    subst hEbs; rw [hfr14.eq]; clear hfr14
    clear hst13 hs4
    refine Wp_cond rfl (fun hc16 => ?_) (fun hc16 => ?_)
    ·
      replace hm := bif_t hm hc16
      refine Wp_seq ?_
      refine Wp_region ?_  -- 2 disk.go:18
      refine Rg_op rfl (op_loadA (cs := [(Value.slice none 0 0), (Value.slice none 0 0), (Value.int .i64 0), (Value.bool false)]) (vs := [(Value.slice none 0 0), (Value.slice none 0 0), (Value.int .i64 0), (Value.bool false)]) (i := 0) ty25 hs12 rfl rfl rfl rfl ?_)
      refine Rg_op_ (op_store (cs := [(Value.slice none 0 0), (Value.slice none 0 0), (Value.int .i64 0), (Value.bool false)]) (vs := [(Value.slice none 0 0), (Value.slice none 0 0), (Value.int .i64 0), (Value.bool false)]) (cs' := [(Value.slice none 0 0), (Value.slice none 0 0), (Value.int .i64 0), (Value.bool false)]) (bs' := [(some b1, Obj.cells [(Value.slice none 0 0), (Value.slice none 0 0), (Value.int .i64 0), (Value.bool false)].toArray 25)]) (i := 0) ty25 hs12 rfl rfl rfl rfl rfl (le_lit rfl) rfl rfl rfl ?_)
      intro w17 p18 hs19
      clear p18 hs12
      refine Rg_op rfl (op_assign (v := (Value.int .i64 1)) rfl ?_)
      refine Rg_nil ?_
      refine Wp_ret ?_
      have hz := step_all hs19
      refine ⟨_, (show Closes [] _ _ from rfl), [(Value.agg [(Value.slice none 0 0), (Value.slice none 0 0), (Value.int .i64 0), (Value.bool false)].toArray), (Value.int .i64 1)], ⟨resA (cs := [(Value.slice none 0 0), (Value.slice none 0 0), (Value.int .i64 0), (Value.bool false)]) (vs := [(Value.slice none 0 0), (Value.slice none 0 0), (Value.int .i64 0), (Value.bool false)]) ty25 (i := 0) hs19 rfl rfl rfl rfl, rfl, trivial⟩, hs19.ext, ?_⟩
      exact Vr.eq (a := (vT2 (vA rXDisk) (vI .i64))) (x := ((⟨([] : List (List UInt8)), ([] : List XWrite), 0, false⟩ : XDisk), 1)) (mkT2 (mkA (mkVia (mk_pair (mk_sl SlR.nil_) (mk_pair (mk_sl SlR.nil_) (mk_pair (mk_int (show InK .i64 0 from by decide)) mkBool))))) ⟨rfl, (show InK .i64 1 from by decide)⟩) (Option.some.inj hm)
    ·
      replace hm := bif_f hm hc16
      refine Wp_skip ?_
      refine Wp_seq ?_
      refine Wp_region ?_  -- 3 disk.go:20
      replace hm := ck_some hm; obtain ⟨hc20, hm⟩ := hm
      refine Rg_op rfl (op_makeSliceI (q := rU8) (v := (Value.int .u8 0)) (x0 := (0 : UInt8)) ty41 ty5 hs12 rfl rfl hc20 rfl (fun _ _ => (mk_u8 (show InK .u8 0 from by decide))) ?_)
      intro b21 w22 hx26 p23 hs24 f25
      clear p23 hs12
      refine Rg_op rfl (op_assign (v := (Value.slice (some ⟨b21, 0, none⟩) (List.replicate 128 (0 : UInt8)).length 128)) rfl ?_)
      refine Rg_nil ?_
      refine Wp_seq ?_
      refine Wp_region ?_  -- 4 disk.go:21
      refine Rg_op rfl (op_move (v := (Value.slice (some ⟨b21, 0, none⟩) (List.replicate 128 (0 : UInt8)).length 128)) rfl ?_)
      obtain ⟨hs29, p30, f28⟩ := Gs.publish (i := 0) hs24 rfl f25
      clear p30 hs24
      refine Rg_op rfl (op_buildSlice (cs := [(Value.slice (some ⟨b21, 0, none⟩) (List.replicate 128 (0 : UInt8)).length 128)]) (parts := [(0, .tmp 13)]) ty22 ty41 hs29 (by decide) rfl ?_)
      intro b31 w32 hx35 p33 hs34
      replace f28 := f28.step p33
      clear p33 hs29
      refine Rg_op rfl (op_move (v := (Value.int .i64 sectors)) rfl ?_)
      obtain ⟨hs38, p39, f37⟩ := St.publish (i := 0) (o := 0) (c := 1) (xs := [(List.replicate 128 (0 : UInt8))]) hs34 rfl (show Els (rSl rU8) _ _ [(Value.slice (some ⟨b21, 0, none⟩) (List.replicate 128 (0 : UInt8)).length 128)] [(List.replicate 128 (0 : UInt8))] from ⟨_, _, rfl, (mk_sl f28), Els.nil⟩) (le_lit rfl) (le_lit rfl) (le_lit rfl)
      replace f28 := f28.step p39
      clear p39 hs34
      replace hm := bd hm; obtain ⟨repeat_1, hv40, hm⟩ := hm
      refine Rg_op rfl (op_call Try.call41 (g41_slices_Repeatbyte_byte_ (x_ := [(List.replicate 128 (0 : UInt8))]) (count := sectors) hs38.ltw f37 r_sectors hv40) rfl ?_)
      rintro _ w42 ⟨hx43, a46, c47, k48, o49, rfl, hk50, f51⟩
      obtain ⟨hs45, p52⟩ := hs38.callG (o := o49) hx43 hk50
      rw [← ks_cons (o := o49)] at f51
      replace f28 := f28.step p52
      replace f37 := f37.step p52
      clear p52 hs38
      refine Rg_op rfl (op_build (vs := [(Value.slice a46 repeat_1.length c47), (Value.slice none 0 0), (Value.int .i64 (-1)), (Value.bool false)]) (parts := [(0, .tmp 16), (2, .const (.int .i64 (-1)))]) ty25 pl25 rfl ?_)
      refine Rg_op_ (op_store (cs := [(Value.slice none 0 0), (Value.slice none 0 0), (Value.int .i64 0), (Value.bool false)]) (vs := [(Value.slice a46 repeat_1.length c47), (Value.slice none 0 0), (Value.int .i64 (-1)), (Value.bool false)]) (cs' := [(Value.slice a46 repeat_1.length c47), (Value.slice none 0 0), (Value.int .i64 (-1)), (Value.bool false)]) (bs' := [(k48, o49), (some b1, Obj.cells [(Value.slice a46 repeat_1.length c47), (Value.slice none 0 0), (Value.int .i64 (-1)), (Value.bool false)].toArray 25)]) (i := 1) ty25 hs45 rfl rfl rfl rfl rfl (le_lit rfl) rfl rfl rfl ?_)
      intro w54 p55 hs56
      replace f28 := f28.step p55
      replace f37 := f37.step p55
      replace f51 := f51.step p55
      clear p55 hs45
      refine Rg_op rfl (op_assign (v := (Value.int .i64 0)) rfl ?_)
      refine Rg_nil ?_
      refine Wp_ret ?_
      obtain ⟨hs58, p59, f57⟩ := Gs.publish (i := 0) hs56 rfl f51
      replace f28 := f28.step p59
      replace f37 := f37.step p59
      clear p59 hs56
      have hz := step_all hs58
      replace f28 := f28.step hz
      replace f37 := f37.step hz
      replace f57 := f57.step hz
      refine ⟨_, (show Closes [] _ _ from rfl), [(Value.agg [(Value.slice a46 repeat_1.length c47), (Value.slice none 0 0), (Value.int .i64 (-1)), (Value.bool false)].toArray), (Value.int .i64 0)], ⟨resA (cs := [(Value.slice a46 repeat_1.length c47), (Value.slice none 0 0), (Value.int .i64 (-1)), (Value.bool false)]) (vs := [(Value.slice a46 repeat_1.length c47), (Value.slice none 0 0), (Value.int .i64 (-1)), (Value.bool false)]) ty25 (i := 0) hs58 rfl rfl rfl rfl, rfl, trivial⟩, hs58.ext, ?_⟩
      exact Vr.eq (a := (vT2 (vA rXDisk) (vI .i64))) (x := ((⟨repeat_1, ([] : List XWrite), (-1), false⟩ : XDisk), 0)) (mkT2 (mkA (mkVia (mk_pair (mk_sl f57) (mk_pair (mk_sl SlR.nil_) (mk_pair (mk_int (show InK .i64 (-1) from by decide)) mkBool))))) ⟨rfl, (show InK .i64 0 from by decide)⟩) (Option.some.inj hm)
  ·
    intro K10 hK10
    have ch60 := Step.refl (ks [(some b1, Obj.cells [(Value.slice none 0 0), (Value.slice none 0 0), (Value.int .i64 0), (Value.bool false)].toArray 25)] O) w2
    refine Wp_region ?_  -- 1 disk.go:17
    refine Rg_op rfl (op_move (v := (Value.int .i64 sectors)) rfl ?_)
    refine Rg_op rfl (op_lss rfl rfl ?_)
    refine Rg_op rfl (op_move (v := (Value.bool (decide (sectors < 1)))) rfl ?_)
    refine Rg_case (fun hg61 => ?_) (fun hg61 => ?_)
    ·
      replace hm := bif_t hm hg61
      refine Rg_opx rfl (asB_ne rfl rfl) rfl ?_
      refine Rg_opx rfl (asB_ne rfl rfl) rfl ?_
      refine Rg_op rfl (op_pick_t (v := (Value.bool true)) rfl rfl ?_)
      refine Rg_nil ?_
      exact hK10 _ _ ⟨true, _, rfl, ⟨(by repeat (first | with_reducible exact Out.refl _ _ | refine Out.upd ?_ rfl | refine Out.updL ?_ rfl | refine Out.mix' ?_ rfl | exact Out.refl _ _)), rfl, rfl, trivial⟩, ch60, hs4, hm⟩
    ·
      replace hm := bif_f hm hg61
      refine Rg_opg rfl rfl rfl (op_move (v := (Value.int .i64 sectors)) rfl ?_)
      refine Rg_opg rfl rfl rfl (op_gtr rfl rfl ?_)
      refine Rg_op rfl (op_pick_f (v := (Value.bool (decide (4096 < sectors)))) rfl rfl ?_)
      refine Rg_nil ?_
      exact hK10 _ _ ⟨(decide (4096 < sectors)), _, rfl, ⟨(by repeat (first | with_reducible exact Out.refl _ _ | refine Out.upd ?_ rfl | refine Out.updL ?_ rfl | refine Out.mix' ?_ rfl | exact Out.refl _ _)), rfl, rfl, trivial⟩, ch60, hs4, hm⟩

end Go.Fx


set_option linter.unusedVariables false
set_option linter.unusedSimpArgs false
set_option maxRecDepth 100000
set_option maxHeartbeats 0
namespace Go.Fx
open Go Go.RowKit Go.Proofs
def m43_disk_isSector (b : List UInt8) : Option Bool :=
  some (decide ((b.length : Int) = 128))

theorem c43_disk_isSector {w : World} {O : List Nat} {b : List UInt8} {a_b : Option Addr} {c_b : Nat} (hO : ∀ k ∈ O, k < w.heap.size) (f_b : SlR rU8 w O a_b c_b b) {x : Bool} (hm : m43_disk_isSector b = some x) :
    Ok Try.prog 43 [(Value.slice a_b b.length c_b)] w O vB x := by
  unfold m43_disk_isSector at hm
  refine Fn_of_Wp (n := 6) (xs := [.tmp 2]) Try.func43 rfl Try.ntmps43 Try.results43 rfl ?_
  have hs := St.start hO
  refine Wp_seq ?_
  refine Wp_region ?_  -- 0 disk.go:24
  refine Rg_op rfl (op_assign (v := (Value.bool false)) rfl ?_)
  refine Rg_nil ?_
  refine Wp_seq ?_
  refine Wp_region ?_  -- 1 disk.go:24
  refine Rg_op rfl (op_move (v := (Value.slice a_b b.length c_b)) rfl ?_)
  refine Rg_op rfl (op_len Try.underlying41 rfl ?_)
  refine Rg_op rfl (op_eql rfl rfl ?_)
  refine Rg_op rfl (op_assign (v := (Value.bool (decide ((b.length : Int) = 128)))) rfl ?_)
  refine Rg_nil ?_
  refine Wp_ret ?_
  have hz := step_all hs
  replace f_b := f_b.step hz
  refine ⟨_, (show Closes [] _ _ from rfl), [(Value.bool (decide ((b.length : Int) = 128)))], ⟨rfl, trivial⟩, hs.ext, ?_⟩
  exact Vr.eq (a := vB) (x := (decide ((b.length : Int) = 128))) rfl (Option.some.inj hm)

end Go.Fx


set_option linter.unusedVariables false
set_option linter.unusedSimpArgs false
set_option maxRecDepth 100000
set_option maxHeartbeats 0
namespace Go.Fx
open Go Go.RowKit Go.Proofs
def m42_disk_Check_1 (w_ : XWrite) (fv0_ : Int) : Option Bool :=
  bif (decide (w_.at_ < 0)) then
    some true
  else
    bif (decide (fv0_ ≤ w_.at_)) then
      some true
    else
      (m43_disk_isSector w_.data).bind fun issector_1 =>
      some (!issector_1)

theorem c42_disk_Check_1 {w : World} {O : List Nat} {w_ : XWrite} {fv0_ : Int} {a_w__data : Option Addr} {c_w__data : Nat} {p_fv0_ : Addr} (hO : ∀ k ∈ O, k < w.heap.size) (r_w__at_ : InK .i64 w_.at_) (f_w__data : SlR rU8 w O a_w__data c_w__data w_.data) (f_fv0_ : PtR (rInt .i64) w O p_fv0_ fv0_) {x : Bool} (hm : m42_disk_Check_1 w_ fv0_ = some x) :
    Ok Try.prog 42 [(Value.agg [(Value.int .i64 w_.at_), (Value.slice a_w__data w_.data.length c_w__data)].toArray), (Value.pointer (some p_fv0_))] w O vB x := by
  unfold m42_disk_Check_1 at hm
  refine Fn_of_Wp (n := 19) (xs := [.tmp 3]) Try.func42 rfl Try.ntmps42 Try.results42 rfl ?_
  have hs := St.start hO
  refine Wp_seq ?_
  refine Wp_region ?_  -- 0 disk.go:29
  refine Rg_op rfl (op_box (cs := [(Value.int .i64 w_.at_), (Value.slice a_w__data w_.data.length c_w__data)]) hs rfl rfl ?_)
  intro b1 w2 _ p3 hs4
  replace f_w__data := f_w__data.step p3
  replace f_fv0_ := f_fv0_.step p3
  clear p3
  refine Rg_op rfl (op_assign (v := (Value.bool false)) rfl ?_)
  refine Rg_nil ?_
  refine Wp_seq ?_
  refine Wp_region ?_  -- 1 disk.go:29
  refine Rg_op rfl (op_fieldAddr ty73 rfl ty3 (by decide) rfl (rfl : _ = (⟨_, 0, none⟩ : Addr)) ?_)
  refine Rg_op rfl (op_load (cs := [(Value.int .i64 w_.at_), (Value.slice a_w__data w_.data.length c_w__data)]) (i := 0) ty3 hs4 rfl rfl rfl ?_)
  refine Rg_op rfl (op_lss rfl rfl ?_)
  refine Rg_op rfl (op_move (v := (Value.bool (decide (w_.at_ < 0)))) rfl ?_)
  refine Rg_case (fun hg6 => ?_) (fun hg6 => ?_)
  ·
    replace hm := bif_t hm hg6
    refine Rg_opx rfl (asB_ne rfl rfl) rfl ?_
    refine Rg_opx rfl (asB_ne rfl rfl) rfl ?_
    refine Rg_opx rfl (asB_ne rfl rfl) rfl ?_
    refine Rg_opx rfl (asB_ne rfl rfl) rfl ?_
    refine Rg_op rfl (op_pick_t (v := (Value.bool true)) rfl rfl ?_)
    refine Rg_op rfl (op_move (v := (Value.bool true)) rfl ?_)
    refine Rg_opx rfl (asB_ne rfl rfl) rfl ?_
    refine Rg_opx rfl (asB_ne rfl rfl) rfl ?_
    refine Rg_opx rfl (asB_ne rfl rfl) rfl ?_
    refine Rg_opx rfl (asB_ne rfl rfl) rfl ?_
    refine Rg_op rfl (op_pick_t (v := (Value.bool true)) rfl rfl ?_)
    refine Rg_op rfl (op_assign (v := (Value.bool true)) rfl ?_)
    refine Rg_nil ?_
    refine Wp_ret ?_
    have hz := step_all hs4
    replace f_w__data := f_w__data.step hz
    replace f_fv0_ := f_fv0_.step hz
    refine ⟨_, (show Closes [] _ _ from rfl), [(Value.bool true)], ⟨rfl, trivial⟩, hs4.ext, ?_⟩
    exact Vr.eq (a := vB) (x := true) rfl (Option.some.inj hm)
  ·
    replace hm := bif_f hm hg6
    refine Rg_opg rfl rfl rfl (op_fieldAddr ty73 rfl ty3 (by decide) rfl (rfl : _ = (⟨_, 0, none⟩ : Addr)) ?_)
    refine Rg_opg rfl rfl rfl (op_load (cs := [(Value.int .i64 w_.at_), (Value.slice a_w__data w_.data.length c_w__data)]) (i := 0) ty3 hs4 rfl rfl rfl ?_)
    refine Rg_opg rfl rfl rfl (op_loadP ty3 rfl f_fv0_ rfl ?_)
    intro v7 h8
    obtain ⟨rfl, r_y9⟩ := un_int h8
    refine Rg_opg rfl rfl rfl (op_geq rfl rfl ?_)
    refine Rg_op rfl (op_pick_f (v := (Value.bool (decide (fv0_ ≤ w_.at_)))) rfl rfl ?_)
    refine Rg_op rfl (op_move (v := (Value.bool (decide (fv0_ ≤ w_.at_)))) rfl ?_)
    refine Rg_case (fun hg10 => ?_) (fun hg10 => ?_)
    ·
      replace hm := bif_t hm hg10
      refine Rg_opx rfl (asB_ne rfl rfl) rfl ?_
      refine Rg_opx rfl (asB_ne rfl rfl) rfl ?_
      refine Rg_opx rfl (asB_ne rfl rfl) rfl ?_
      refine Rg_opx rfl (asB_ne rfl rfl) rfl ?_
      refine Rg_op rfl (op_pick_t (v := (Value.bool true)) rfl rfl ?_)
      refine Rg_op rfl (op_assign (v := (Value.bool true)) rfl ?_)
      refine Rg_nil ?_
      refine Wp_ret ?_
      have hz := step_all hs4
      replace f_w__data := f_w__data.step hz
      replace f_fv0_ := f_fv0_.step hz
      refine ⟨_, (show Closes [] _ _ from rfl), [(Value.bool true)], ⟨rfl, trivial⟩, hs4.ext, ?_⟩
      exact Vr.eq (a := vB) (x := true) rfl (Option.some.inj hm)
    ·
      replace hm := bif_f hm hg10
      refine Rg_opg rfl rfl rfl (op_fieldAddr ty73 rfl ty41 (by decide) rfl (rfl : _ = (⟨_, 1, none⟩ : Addr)) ?_)
      refine Rg_opg rfl rfl rfl (op_load (cs := [(Value.int .i64 w_.at_), (Value.slice a_w__data w_.data.length c_w__data)]) (i := 0) ty41 hs4 rfl rfl rfl ?_)
      replace hm := bd hm; obtain ⟨issector_1, hv11, hm⟩ := hm
      refine Rg_opg rfl rfl rfl (op_call Try.call43 (c43_disk_isSector (b := w_.data) hs4.ltw f_w__data hv11) rfl ?_)
      rintro v12 w13 ⟨hx14, h15⟩
      have hs16 := hs4.call hx14
      have p17 := Step.ext (O := ks [(some b1, Obj.cells [(Value.int .i64 w_.at_), (Value.slice a_w__data w_.data.length c_w__data)].toArray 73)] O) hx14
      clear hx14
      replace f_w__data := f_w__data.step p17
      replace f_fv0_ := f_fv0_.step p17
      clear p17 hs4
      obtain rfl := h15
      refine Rg_opg rfl rfl rfl (op_not rfl ?_)
      refine Rg_op rfl (op_pick_f (v := (Value.bool (!issector_1))) rfl rfl ?_)
      refine Rg_op rfl (op_assign (v := (Value.bool (!issector_1))) rfl ?_)
      refine Rg_nil ?_
      refine Wp_ret ?_
      have hz := step_all hs16
      replace f_w__data := f_w__data.step hz
      replace f_fv0_ := f_fv0_.step hz
      refine ⟨_, (show Closes [] _ _ from rfl), [(Value.bool (!issector_1))], ⟨rfl, trivial⟩, hs16.ext, ?_⟩
      exact Vr.eq (a := vB) (x := (!issector_1)) rfl (Option.some.inj hm)

end Go.Fx


set_option linter.unusedVariables false
set_option linter.unusedSimpArgs false
set_option maxRecDepth 100000
set_option maxHeartbeats 0
namespace Go.Fx
open Go Go.RowKit Go.Proofs
def m65_api_Write__B0 (s : List XWrite) (f : XWrite → Option Bool) (sf3 : Int → Option Int) (v_1 : Int) : Option Int :=
  bif (decide (v_1 < (s.length : Int))) then
    ck ((0 : Int) ≤ v_1 ∧ v_1 < (s.length : Int)) <|
    (f (s.getD v_1.toNat default)).bind fun r_1 =>
    bif r_1 then
      some v_1
    else
      sf3 (IntKind.wrap .i64 (v_1 + 1))
  else
    some (-1)

def m65_api_Write_ (s : List XWrite) (f : XWrite → Option Bool) : Option Int :=
  loop1 (m65_api_Write__B0 s f) (((s.length : Int) - 0).toNat + 1) 0

theorem c65_api_Write_ {w : World} {O : List Nat} {s : List XWrite} {f : XWrite → Option Bool} {a_s : Option Addr} {c_s : Nat} {v_f : Value} (hO : ∀ k ∈ O, k < w.heap.size) (f_s : SlR rXWrite w O a_s c_s s) (F_f : CallsTo1 Try.prog w O v_f (vA rXWrite) vB f) {x : Int} (hm : m65_api_Write_ s f = some x) :
    Ok Try.prog 65 [(Value.slice a_s s.length c_s), v_f] w O (vI .i64) x := by
  unfold m65_api_Write_ at hm
  refine Fn_of_Wp (n := 19) (xs := [.tmp 4]) Try.func65 rfl Try.ntmps65 Try.results65 rfl ?_
  have hs := St.start hO
  refine Wp_seq ?_
  refine Wp_region ?_  -- 0 slices.go:107
  refine Rg_op rfl (op_assign (v := (Value.int .i64 0)) rfl ?_)
  refine Rg_nil ?_
  refine Wp_seq ?_
  refine Wp_seq ?_
  refine Wp_region ?_  -- 1 slices.go:108
  refine Rg_op rfl (op_move (v := (Value.slice a_s s.length c_s)) rfl ?_)
  refine Rg_op rfl (op_len Try.underlying23 rfl ?_)
  refine Rg_op rfl (op_move (v := (Value.int .i64 0)) rfl ?_)
  refine Rg_nil ?_
  refine Wp_block ?_
  refine Wp_reset [] [(0, (Value.slice a_s s.length c_s)), (1, v_f), (7, (Value.int .i64 (s.length : Int))), (8, (Value.int .i64 0))] rfl ⟨rfl, rfl, rfl, rfl, trivial⟩ fun ξ2 => ?_
  refine Wp_loopM [4, 5, 8, 9, 10, 11, 12, 13, 14, 15, 16, 17, 18] (fun m fr w' => ∃ (v_1 : Int) (Ebs : Ents), Ebs = [] ∧ fr [] [(8, (Value.int .i64 v_1))] ∧ Step (ks [] O) w (ks Ebs O) w' ∧ St ⟨w, [], []⟩ O w' Ebs ∧ InK .i64 v_1 ∧ loop1 (m65_api_Write__B0 s f) m v_1 = some x) (((s.length : Int) - 0).toNat + 1) ⟨0, _, rfl, ⟨Out.refl _ _, rfl, rfl, trivial⟩, Step.refl _ _, hs, (show InK .i64 0 from by decide), hm⟩ ?_ ?_
  · rintro _ _ ⟨_, _, _, _, _, _, _, hm⟩; exact loop1_z hm
  · rintro m6 K5 hK5 ρ11 w7 ⟨v_1, Ebs, hEbs, hfr10, hst9, hs8, r_y1, hm⟩
    obtain ⟨sf3, hsf4, hm⟩ := loop1_s hm; unfold m65_api_Write__B0 at hm
    subst hEbs; rw [hfr10.eq]; clear hfr10
    replace f_s := f_s.step hst9
    replace F_f := F_f.step hst9
    have ch12 := hst9
    refine Wp_seq ?_
    refine Wp_region ?_  -- 2 slices.go:108
    refine Rg_op rfl (op_lss rfl rfl ?_)
    refine Rg_nil ?_
    refine Wp_seq ?_
    refine Wp_cond rfl (fun hc13 => ?_) (fun hc13 => ?_)
    ·
      replace hm := bif_t hm hc13
      refine Wp_skip ?_
      refine Wp_seq ?_
      refine Wp_block ?_
      refine Wp_seq ?_
      refine Wp_region ?_  -- 3 slices.go:108
      refine Rg_op rfl (op_move (v := (Value.int .i64 v_1)) rfl ?_)
      refine Rg_op rfl (op_assign (v := (Value.int .i64 v_1)) rfl ?_)
      refine Rg_nil ?_
      refine Wp_seq ?_
      refine Wp_region ?_  -- 4 slices.go:109
      refine Rg_op rfl (op_move (v := v_f) rfl ?_)
      refine Rg_op rfl (op_move (v := (Value.slice a_s s.length c_s)) rfl ?_)
      refine Rg_op rfl (op_move (v := (Value.int .i64 v_1)) rfl ?_)
      replace hm := ck_some hm; obtain ⟨hc14, hm⟩ := hm
      refine Rg_op rfl (op_indexAddr (q := rXWrite) ty23 ty73 rfl rfl f_s rfl hc14.1 hc14.2 ?_)
      intro p15 f16
      refine Rg_op rfl (op_loadPA ty73 rfl f16 rfl ?_)
      intro vs17 h18
      obtain ⟨_, _, rfl, ⟨rfl, r_y19_at_⟩, ⟨a_y19_data, c_y19_data, rfl, f_y19_data⟩⟩ := h18
      replace hm := bd hm; obtain ⟨r_1, hv20, hm⟩ := hm
      refine Rg_op rfl (op_callF rfl (F_f.call hs8.ltw (mkA (mkVia (mk_pair (mk_int r_y19_at_) (mk_sl f_y19_data)))) hv20) rfl ?_)
      rintro v21 w22 ⟨hx23, h24⟩
      have hs25 := hs8.call hx23
      have p26 := Step.ext (O := ks [] O) hx23
      clear hx23
      replace f_s := f_s.step p26
      replace F_f := F_f.step p26
      replace f16 := f16.step p26
      replace f_y19_data := f_y19_data.step p26
      replace ch12 := ch12.trans p26
      clear p26 hs8
      obtain rfl := h24
      refine Rg_nil ?_
      refine Wp_cond rfl (fun hc28 => ?_) (fun hc28 => ?_)
      ·
        replace hm := bif_t hm hc28
        refine Wp_seq ?_
        clear f_s F_f f16 f_y19_data
        refine Wp_region ?_  -- 5 slices.go:110
        refine Rg_op rfl (op_move (v := (Value.int .i64 v_1)) rfl ?_)
        refine Rg_op rfl (op_assign (v := (Value.int .i64 v_1)) rfl ?_)
        refine Rg_nil ?_
        refine Wp_ret ?_
        have hz := step_all hs25
        refine ⟨_, (show Closes [] _ _ from rfl), [(Value.int .i64 v_1)], ⟨rfl, trivial⟩, hs25.ext, ?_⟩
        exact Vr.eq (a := (vI .i64)) (x := v_1) ⟨rfl, r_y1⟩ (Option.some.inj hm)
      ·
        replace hm := bif_f hm hc28
        refine Wp_skip ?_
        clear f16 f_y19_data
        refine Wp_region ?_  -- 6 slices.go:108
        refine Rg_op rfl (op_addw rfl rfl ?_)
        refine Rg_op rfl (op_move (v := (Value.int .i64 (IntKind.wrap .i64 (v_1 + 1)))) rfl ?_)
        refine Rg_nil ?_
        exact hK5 _ _ ⟨(IntKind.wrap .i64 (v_1 + 1)), _, rfl, ⟨(by repeat (first | with_reducible exact Out.refl _ _ | refine Out.upd ?_ rfl | refine Out.updL ?_ rfl | refine Out.mix' ?_ rfl | exact Out.refl _ _)), rfl, rfl, trivial⟩, ch12, hs25, (inK_wrap .i64 _), jnE1 hsf4 hm⟩
    ·
      replace hm := bif_f hm hc13
      refine Wp_exit ?_
      refine Wp_seq ?_
      clear f_s F_f
      refine Wp_region ?_  -- 7 slices.go:113
      refine Rg_op rfl (op_assign (v := (Value.int .i64 (-1))) rfl ?_)
      refine Rg_nil ?_
      refine Wp_ret ?_
      have hz := step_all hs8
      refine ⟨_, (show Closes [] _ _ from rfl), [(Value.int .i64 (-1))], ⟨rfl, trivial⟩, hs8.ext, ?_⟩
      exact Vr.eq (a := (vI .i64)) (x := (-1)) ⟨rfl, (show InK .i64 (-1) from by decide)⟩ (Option.some.inj hm)

end Go.Fx


set_option linter.unusedVariables false
set_option linter.unusedSimpArgs false
set_option maxRecDepth 100000
set_option maxHeartbeats 0
namespace Go.Fx
open Go Go.RowKit Go.Proofs
def m44_api_Write_ (s : List XWrite) (f : XWrite → Option Bool) : Option Bool :=
  (m65_api_Write_ s f).bind fun write_1 =>
  some (decide (0 ≤ write_1))

theorem c44_api_Write_ {w : World} {O : List Nat} {s : List XWrite} {f : XWrite → Option Bool} {a_s : Option Addr} {c_s : Nat} {v_f : Value} (hO : ∀ k ∈ O, k < w.heap.size) (f_s : SlR rXWrite w O a_s c_s s) (F_f : CallsTo1 Try.prog w O v_f (vA rXWrite) vB f) {x : Bool} (hm : m44_api_Write_ s f = some x) :
    Ok Try.prog 44 [(Value.slice a_s s.length c_s), v_f] w O vB x := by
  unfold m44_api_Write_ at hm
  refine Fn_of_Wp (n := 9) (xs := [.tmp 4]) Try.func44 rfl Try.ntmps44 Try.results44 rfl ?_
  have hs := St.start hO
  refine Wp_seq ?_
  refine Wp_region ?_  -- 0 slices.go:124
  refine Rg_op rfl (op_assign (v := (Value.bool false)) rfl ?_)
  refine Rg_nil ?_
  refine Wp_seq ?_
  refine Wp_region ?_  -- 1 slices.go:125
  refine Rg_op rfl (op_move (v := (Value.slice a_s s.length c_s)) rfl ?_)
  refine Rg_op rfl (op_move (v := v_f) rfl ?_)
  replace hm := bd hm; obtain ⟨write_1, hv1, hm⟩ := hm
  refine Rg_op rfl (op_call Try.call65 (c65_api_Write_ (s := s) (f := f) hs.ltw f_s F_f hv1) rfl ?_)
  rintro v2 w3 ⟨hx4, h5⟩
  have hs6 := hs.call hx4
  have p7 := Step.ext (O := ks [] O) hx4
  clear hx4
  replace f_s := f_s.step p7
  replace F_f := F_f.step p7
  clear p7
  obtain ⟨rfl, r_y8⟩ := h5
  refine Rg_op rfl (op_geq rfl rfl ?_)
  refine Rg_op rfl (op_assign (v := (Value.bool (decide (0 ≤ write_1)))) rfl ?_)
  refine Rg_nil ?_
  refine Wp_ret ?_
  have hz := step_all hs6
  replace f_s := f_s.step hz
  replace F_f := F_f.step hz
  refine ⟨_, (show Closes [] _ _ from rfl), [(Value.bool (decide (0 ≤ write_1)))], ⟨rfl, trivial⟩, hs6.ext, ?_⟩
  exact Vr.eq (a := vB) (x := (decide (0 ≤ write_1))) rfl (Option.some.inj hm)

end Go.Fx


set_option linter.unusedVariables false
set_option linter.unusedSimpArgs false
set_option maxRecDepth 100000
set_option maxHeartbeats 0
namespace Go.Fx
open Go Go.RowKit Go.Proofs
def m66_slices_IndexFuncbyte_byte__B0 (s : List (List UInt8)) (f : (List UInt8) → Option Bool) (sf3 : Int → Option Int) (v_1 : Int) : Option Int :=
  bif (decide (v_1 < (s.length : Int))) then
    ck ((0 : Int) ≤ v_1 ∧ v_1 < (s.length : Int)) <|
    (f (s.getD v_1.toNat default)).bind fun r_1 =>
    bif r_1 then
      some v_1
    else
      sf3 (IntKind.wrap .i64 (v_1 + 1))
  else
    some (-1)

def m66_slices_IndexFuncbyte_byte_ (s : List (List UInt8)) (f : (List UInt8) → Option Bool) : Option Int :=
  loop1 (m66_slices_IndexFuncbyte_byte__B0 s f) (((s.length : Int) - 0).toNat + 1) 0

theorem c66_slices_IndexFuncbyte_byte_ {w : World} {O : List Nat} {s : List (List UInt8)} {f : (List UInt8) → Option Bool} {a_s : Option Addr} {c_s : Nat} {v_f : Value} (hO : ∀ k ∈ O, k < w.heap.size) (f_s : SlR (rSl rU8) w O a_s c_s s) (F_f : CallsTo1 Try.prog w O v_f (vC (rSl rU8)) vB f) {x : Int} (hm : m66_slices_IndexFuncbyte_byte_ s f = some x) :
    Ok Try.prog 66 [(Value.slice a_s s.length c_s), v_f] w O (vI .i64) x := by
  unfold m66_slices_IndexFuncbyte_byte_ at hm
  refine Fn_of_Wp (n := 19) (xs := [.tmp 4]) Try.func66 rfl Try.ntmps66 Try.results66 rfl ?_
  have hs := St.start hO
  refine Wp_seq ?_
  refine Wp_region ?_  -- 0 slices.go:107
  refine Rg_op rfl (op_assign (v := (Value.int .i64 0)) rfl ?_)
  refine Rg_nil ?_
  refine Wp_seq ?_
  refine Wp_seq ?_
  refine Wp_region ?_  -- 1 slices.go:108
  refine Rg_op rfl (op_move (v := (Value.slice a_s s.length c_s)) rfl ?_)
  refine Rg_op rfl (op_len Try.underlying22 rfl ?_)
  refine Rg_op rfl (op_move (v := (Value.int .i64 0)) rfl ?_)
  refine Rg_nil ?_
  refine Wp_block ?_
  refine Wp_reset [] [(0, (Value.slice a_s s.length c_s)), (1, v_f), (7, (Value.int .i64 (s.length : Int))), (8, (Value.int .i64 0))] rfl ⟨rfl, rfl, rfl, rfl, trivial⟩ fun ξ2 => ?_
  refine Wp_loopM [4, 5, 8, 9, 10, 11, 12, 13, 14, 15, 16, 17, 18] (fun m fr w' => ∃ (v_1 : Int) (Ebs : Ents), Ebs = [] ∧ fr [] [(8, (Value.int .i64 v_1))] ∧ Step (ks [] O) w (ks Ebs O) w' ∧ St ⟨w, [], []⟩ O w' Ebs ∧ InK .i64 v_1 ∧ loop1 (m66_slices_IndexFuncbyte_byte__B0 s f) m v_1 = some x) (((s.length : Int) - 0).toNat + 1) ⟨0, _, rfl, ⟨Out.refl _ _, rfl, rfl, trivial⟩, Step.refl _ _, hs, (show InK .i64 0 from by decide), hm⟩ ?_ ?_
  · rintro _ _ ⟨_, _, _, _, _, _, _, hm⟩; exact loop1_z hm
  · rintro m6 K5 hK5 ρ11 w7 ⟨v_1, Ebs, hEbs, hfr10, hst9, hs8, r_y1, hm⟩
    obtain ⟨sf3, hsf4, hm⟩ := loop1_s hm; unfold m66_slices_IndexFuncbyte_byte__B0 at hm
    subst hEbs; rw [hfr10.eq]; clear hfr10
    replace f_s := f_s.step hst9
    replace F_f := F_f.step hst9
    have ch12 := hst9
    refine Wp_seq ?_
    refine Wp_region ?_  -- 2 slices.go:108
    refine Rg_op rfl (op_lss rfl rfl ?_)
    refine Rg_nil ?_
    refine Wp_seq ?_
    refine Wp_cond rfl (fun hc13 => ?_) (fun hc13 => ?_)
    ·
      replace hm := bif_t hm hc13
      refine Wp_skip ?_
      refine Wp_seq ?_
      refine Wp_block ?_
      refine Wp_seq ?_
      refine Wp_region ?_  -- 3 slices.go:108
      refine Rg_op rfl (op_move (v := (Value.int .i64 v_1)) rfl ?_)
      refine Rg_op rfl (op_assign (v := (Value.int .i64 v_1)) rfl ?_)
      refine Rg_nil ?_
      refine Wp_seq ?_
      refine Wp_region ?_  -- 4 slices.go:109
      refine Rg_op rfl (op_move (v := v_f) rfl ?_)
      refine Rg_op rfl (op_move (v := (Value.slice a_s s.length c_s)) rfl ?_)
      refine Rg_op rfl (op_move (v := (Value.int .i64 v_1)) rfl ?_)
      replace hm := ck_some hm; obtain ⟨hc14, hm⟩ := hm
      refine Rg_op rfl (op_indexAddr (q := (rSl rU8)) ty22 ty41 rfl rfl f_s rfl hc14.1 hc14.2 ?_)
      intro p15 f16
      refine Rg_op rfl (op_loadP ty41 rfl f16 rfl ?_)
      intro v17 h18
      obtain ⟨a_y19, c_y19, rfl, f_y19⟩ := un_sl h18
      replace hm := bd hm; obtain ⟨r_1, hv20, hm⟩ := hm
      refine Rg_op rfl (op_callF rfl (F_f.call hs8.ltw (mkC (mk_sl f_y19)) hv20) rfl ?_)
      rintro v21 w22 ⟨hx23, h24⟩
      have hs25 := hs8.call hx23
      have p26 := Step.ext (O := ks [] O) hx23
      clear hx23
      replace f_s := f_s.step p26
      replace F_f := F_f.step p26
      replace f16 := f16.step p26
      replace f_y19 := f_y19.step p26
      replace ch12 := ch12.trans p26
      clear p26 hs8
      obtain rfl := h24
      refine Rg_nil ?_
      refine Wp_cond rfl (fun hc28 => ?_) (fun hc28 => ?_)
      ·
        replace hm := bif_t hm hc28
        refine Wp_seq ?_
        clear f_s F_f f16 f_y19
        refine Wp_region ?_  -- 5 slices.go:110
        refine Rg_op rfl (op_move (v := (Value.int .i64 v_1)) rfl ?_)
        refine Rg_op rfl (op_assign (v := (Value.int .i64 v_1)) rfl ?_)
        refine Rg_nil ?_
        refine Wp_ret ?_
        have hz := step_all hs25
        refine ⟨_, (show Closes [] _ _ from rfl), [(Value.int .i64 v_1)], ⟨rfl, trivial⟩, hs25.ext, ?_⟩
        exact Vr.eq (a := (vI .i64)) (x := v_1) ⟨rfl, r_y1⟩ (Option.some.inj hm)
      ·
        replace hm := bif_f hm hc28
        refine Wp_skip ?_
        clear f16 f_y19
        refine Wp_region ?_  -- 6 slices.go:108
        refine Rg_op rfl (op_addw rfl rfl ?_)
        refine Rg_op rfl (op_move (v := (Value.int .i64 (IntKind.wrap .i64 (v_1 + 1)))) rfl ?_)
        refine Rg_nil ?_
        exact hK5 _ _ ⟨(IntKind.wrap .i64 (v_1 + 1)), _, rfl, ⟨(by repeat (first | with_reducible exact Out.refl _ _ | refine Out.upd ?_ rfl | refine Out.updL ?_ rfl | refine Out.mix' ?_ rfl | exact Out.refl _ _)), rfl, rfl, trivial⟩, ch12, hs25, (inK_wrap .i64 _), jnE1 hsf4 hm⟩
    ·
      replace hm := bif_f hm hc13
      refine Wp_exit ?_
      refine Wp_seq ?_
      clear f_s F_f
      refine Wp_region ?_  -- 7 slices.go:113
      refine Rg_op rfl (op_assign (v := (Value.int .i64 (-1))) rfl ?_)
      refine Rg_nil ?_
      refine Wp_ret ?_
      have hz := step_all hs8
      refine ⟨_, (show Closes [] _ _ from rfl), [(Value.int .i64 (-1))], ⟨rfl, trivial⟩, hs8.ext, ?_⟩
      exact Vr.eq (a := (vI .i64)) (x := (-1)) ⟨rfl, (show InK .i64 (-1) from by decide)⟩ (Option.some.inj hm)

end Go.Fx


set_option linter.unusedVariables false
set_option linter.unusedSimpArgs false
set_option maxRecDepth 100000
set_option maxHeartbeats 0
namespace Go.Fx
open Go Go.RowKit Go.Proofs
def m45_slices_ContainsFuncbyte_byte_ (s : List (List UInt8)) (f : (List UInt8) → Option Bool) : Option Bool :=
  (m66_slices_IndexFuncbyte_byte_ s f).bind fun indexfunc_1 =>
  some (decide (0 ≤ indexfunc_1))

theorem c45_slices_ContainsFuncbyte_byte_ {w : World} {O : List Nat} {s : List (List UInt8)} {f : (List UInt8) → Option Bool} {a_s : Option Addr} {c_s : Nat} {v_f : Value} (hO : ∀ k ∈ O, k < w.heap.size) (f_s : SlR (rSl rU8) w O a_s c_s s) (F_f : CallsTo1 Try.prog w O v_f (vC (rSl rU8)) vB f) {x : Bool} (hm : m45_slices_ContainsFuncbyte_byte_ s f = some x) :
    Ok Try.prog 45 [(Value.slice a_s s.length c_s), v_f] w O vB x := by
  unfold m45_slices_ContainsFuncbyte_byte_ at hm
  refine Fn_of_Wp (n := 9) (xs := [.tmp 4]) Try.func45 rfl Try.ntmps45 Try.results45 rfl ?_
  have hs := St.start hO
  refine Wp_seq ?_
  refine Wp_region ?_  -- 0 slices.go:124
  refine Rg_op rfl (op_assign (v := (Value.bool false)) rfl ?_)
  refine Rg_nil ?_
  refine Wp_seq ?_
  refine Wp_region ?_  -- 1 slices.go:125
  refine Rg_op rfl (op_move (v := (Value.slice a_s s.length c_s)) rfl ?_)
  refine Rg_op rfl (op_move (v := v_f) rfl ?_)
  replace hm := bd hm; obtain ⟨indexfunc_1, hv1, hm⟩ := hm
  refine Rg_op rfl (op_call Try.call66 (c66_slices_IndexFuncbyte_byte_ (s := s) (f := f) hs.ltw f_s F_f hv1) rfl ?_)
  rintro v2 w3 ⟨hx4, h5⟩
  have hs6 := hs.call hx4
  have p7 := Step.ext (O := ks [] O) hx4
  clear hx4
  replace f_s := f_s.step p7
  replace F_f := F_f.step p7
  clear p7
  obtain ⟨rfl, r_y8⟩ := h5
  refine Rg_op rfl (op_geq rfl rfl ?_)
  refine Rg_op rfl (op_assign (v := (Value.bool (decide (0 ≤ indexfunc_1)))) rfl ?_)
  refine Rg_nil ?_
  refine Wp_ret ?_
  have hz := step_all hs6
  replace f_s := f_s.step hz
  replace F_f := F_f.step hz
  refine ⟨_, (show Closes [] _ _ from rfl), [(Value.bool (decide (0 ≤ indexfunc_1)))], ⟨rfl, trivial⟩, hs6.ext, ?_⟩
  exact Vr.eq (a := vB) (x := (decide (0 ≤ indexfunc_1))) rfl (Option.some.inj hm)

end Go.Fx


set_option linter.unusedVariables false
set_option linter.unusedSimpArgs false
set_option maxRecDepth 100000
set_option maxHeartbeats 0
namespace Go.Fx
open Go Go.RowKit Go.Proofs
def m46_disk_Check_2 (b : List UInt8) : Option Bool :=
  (m43_disk_isSector b).bind fun issector_1 =>
  some (!issector_1)

theorem c46_disk_Check_2 {w : World} {O : List Nat} {b : List UInt8} {a_b : Option Addr} {c_b : Nat} (hO : ∀ k ∈ O, k < w.heap.size) (f_b : SlR rU8 w O a_b c_b b) {x : Bool} (hm : m46_disk_Check_2 b = some x) :
    Ok Try.prog 46 [(Value.slice a_b b.length c_b)] w O vB x := by
  unfold m46_disk_Check_2 at hm
  refine Fn_of_Wp (n := 6) (xs := [.tmp 2]) Try.func46 rfl Try.ntmps46 Try.results46 rfl ?_
  have hs := St.start hO
  refine Wp_seq ?_
  refine Wp_region ?_  -- 0 disk.go:33
  refine Rg_op rfl (op_assign (v := (Value.bool false)) rfl ?_)
  refine Rg_nil ?_
  refine Wp_seq ?_
  refine Wp_region ?_  -- 1 disk.go:33
  refine Rg_op rfl (op_move (v := (Value.slice a_b b.length c_b)) rfl ?_)
  replace hm := bd hm; obtain ⟨issector_1, hv1, hm⟩ := hm
  refine Rg_op rfl (op_call Try.call43 (c43_disk_isSector (b := b) hs.ltw f_b hv1) rfl ?_)
  rintro v2 w3 ⟨hx4, h5⟩
  have hs6 := hs.call hx4
  have p7 := Step.ext (O := ks [] O) hx4
  clear hx4
  replace f_b := f_b.step p7
  clear p7
  obtain rfl := h5
  refine Rg_op rfl (op_not rfl ?_)
  refine Rg_op rfl (op_assign (v := (Value.bool (!issector_1))) rfl ?_)
  refine Rg_nil ?_
  refine Wp_ret ?_
  have hz := step_all hs6
  replace f_b := f_b.step hz
  refine ⟨_, (show Closes [] _ _ from rfl), [(Value.bool (!issector_1))], ⟨rfl, trivial⟩, hs6.ext, ?_⟩
  exact Vr.eq (a := vB) (x := (!issector_1)) rfl (Option.some.inj hm)

end Go.Fx


set_option linter.unusedVariables false
set_option linter.unusedSimpArgs false
set_option maxRecDepth 100000
set_option maxHeartbeats 0
namespace Go.Fx
open Go Go.RowKit Go.Proofs
def m18_disk_Check (d : XDisk) : Option Int :=
  jn (fun (v_1 : Bool) =>
    bif v_1 then
      some 440
    else
      (m45_slices_ContainsFuncbyte_byte_ d.sectors (fun x41 => m46_disk_Check_2 x41)).bind fun containsfunc_1 =>
      bif containsfunc_1 then
        some 440
      else
        some 0)
  (fun k30 =>
    bif (decide ((d.sectors.length : Int) < 1)) then
      k30 true
    else
      bif (decide (4096 < (d.sectors.length : Int))) then
        k30 true
      else
        bif (decide (4096 < (d.pending.length : Int))) then
          k30 true
        else
          bif (decide (d.left < (-1))) then
            k30 true
          else
            bif (decide (65536 < d.left)) then
              k30 true
            else
              (m44_api_Write_ d.pending (fun x17 => m42_disk_Check_1 x17 (d.sectors.length : Int))).bind fun write_1 =>
              k30 write_1)

theorem c18_disk_Check {w : World} {O : List Nat} {d : XDisk} {a_d_sectors : Option Addr} {c_d_sectors : Nat} {a_d_pending : Option Addr} {c_d_pending : Nat} (hO : ∀ k ∈ O, k < w.heap.size) (f_d_sectors : SlR (rSl rU8) w O a_d_sectors c_d_sectors d.sectors) (f_d_pending : SlR rXWrite w O a_d_pending c_d_pending d.pending) (r_d_left : InK .i64 d.left) {x : Int} (hm : m18_disk_Check d = some x) :
    Ok Try.prog 18 [(Value.agg [(Value.slice a_d_sectors d.sectors.length c_d_sectors), (Value.slice a_d_pending d.pending.length c_d_pending), (Value.int .i64 d.left), (Value.bool d.stopped)].toArray)] w O (vI .i64) x := by
  unfold m18_disk_Check at hm
  refine Fn_of_Wp (n := 40) (xs := [.tmp 2]) Try.func18 rfl Try.ntmps18 Try.results18 rfl ?_
  have hs := St.start hO
  refine Wp_seq ?_
  refine Wp_region ?_  -- 0 disk.go:27
  refine Rg_op rfl (op_box (cs := [(Value.slice a_d_sectors d.sectors.length c_d_sectors), (Value.slice a_d_pending d.pending.length c_d_pending), (Value.int .i64 d.left), (Value.bool d.stopped)]) hs rfl rfl ?_)
  intro b1 w2 _ p3 hs4
  replace f_d_sectors := f_d_sectors.step p3
  replace f_d_pending := f_d_pending.step p3
  clear p3
  refine Rg_op rfl (op_assign (v := (Value.int .i64 0)) rfl ?_)
  refine Rg_nil ?_
  refine Wp_seq ?_
  refine Wp_region ?_  -- 1 disk.go:28
  refine Rg_op rfl (op_fieldAddr ty25 rfl ty22 (by decide) rfl (rfl : _ = (⟨_, 0, none⟩ : Addr)) ?_)
  refine Rg_op rfl (op_load (cs := [(Value.slice a_d_sectors d.sectors.length c_d_sectors), (Value.slice a_d_pending d.pending.length c_d_pending), (Value.int .i64 d.left), (Value.bool d.stopped)]) (i := 0) ty22 hs4 rfl rfl rfl ?_)
  refine Rg_op rfl (op_len Try.underlying22 rfl ?_)
  refine Rg_op rfl (op_alloc ty3 hs4 ?_)
  intro b6 w7 _ p8 hs9
  replace f_d_sectors := f_d_sectors.step p8
  replace f_d_pending := f_d_pending.step p8
  clear p8 hs4
  refine Rg_op_ (op_store (cs := [(Value.int .i64 0)]) (vs := [(Value.int .i64 (d.sectors.length : Int))]) (cs' := [(Value.int .i64 (d.sectors.length : Int))]) (bs' := [(some b6, Obj.cells [(Value.int .i64 (d.sectors.length : Int))].toArray 3), (some b1, Obj.cells [(Value.slice a_d_sectors d.sectors.length c_d_sectors), (Value.slice a_d_pending d.pending.length c_d_pending), (Value.int .i64 d.left), (Value.bool d.stopped)].toArray 25)]) (i := 0) ty3 hs9 rfl rfl rfl rfl rfl (le_lit rfl) rfl rfl rfl ?_)
  intro w11 p12 hs13
  replace f_d_sectors := f_d_sectors.step p12
  replace f_d_pending := f_d_pending.step p12
  clear p12 hs9
  refine Rg_nil ?_
  refine Wp_seq ?_
  refine Wp_region ?_  -- 2 disk.go:29
  obtain ⟨hs15, p16, f14⟩ := St.publishP (p := (rInt .i64)) (i := 0) (x := (d.sectors.length : Int)) hs13 rfl (mk_int (inK_len f_d_sectors))
  replace f_d_sectors := f_d_sectors.step p16
  replace f_d_pending := f_d_pending.step p16
  clear p16 hs13
  refine Rg_op rfl (op_makeFunc' (a' := []) (c' := [(Value.pointer (some (⟨b6, 0, none⟩ : Addr)))]) rfl rfl ?_)
  have F18 : CallsTo1 Try.prog w11 (ks [(some b1, Obj.cells [(Value.slice a_d_sectors d.sectors.length c_d_sectors), (Value.slice a_d_pending d.pending.length c_d_pending), (Value.int .i64 d.left), (Value.bool d.stopped)].toArray 25)] O) (Value.func (.func 42) #[] #[(Value.pointer (some (⟨b6, 0, none⟩ : Addr)))]) (vA rXWrite) vB (fun x17 => m42_disk_Check_1 x17 (d.sectors.length : Int)) := by
    intro w19 O20 st21 hO22 v25 x17 y23 h26 hy24
    obtain ⟨_, rfl, ⟨_, _, rfl, ⟨rfl, r_y27_at_⟩, ⟨a_y27_data, c_y27_data, rfl, f_y27_data⟩⟩⟩ := h26
    exact ⟨42, #[], #[(Value.pointer (some (⟨b6, 0, none⟩ : Addr)))], rfl, Try.call42, c42_disk_Check_1 (w_ := x17) hO22 r_y27_at_ f_y27_data (f14.step st21) hy24⟩
  refine Rg_op rfl (op_assign (v := (Value.func (.func 42) #[] #[(Value.pointer (some (⟨b6, 0, none⟩ : Addr)))])) rfl ?_)
  refine Rg_nil ?_
  refine Wp_seq ?_
  refine Wp_reset [] [(1, (Value.pointer (some ⟨b1, 0, none⟩))), (3, (Value.pointer (some (⟨b6, 0, none⟩ : Addr)))), (4, (Value.func (.func 42) #[] #[(Value.pointer (some (⟨b6, 0, none⟩ : Addr)))]))] rfl ⟨rfl, rfl, rfl, trivial⟩ fun ξ28 => ?_
  replace hm := jn_elim hm; obtain ⟨k30, hk31, hm⟩ := hm
  refine Wp_seqJ [9, 10, 11, 12, 13, 14, 15, 16, 17, 18, 19, 20, 21, 22, 23, 24, 25, 26, 27, 28, 29, 30, 31, 32, 33, 34, 35, 36] (fun fr w' => ∃ (v_1 : Bool) (Ebs : Ents), Ebs = [(some b1, Obj.cells [(Value.slice a_d_sectors d.sectors.length c_d_sectors), (Value.slice a_d_pending d.pending.length c_d_pending), (Value.int .i64 d.left), (Value.bool d.stopped)].toArray 25)] ∧ fr [] [(36, (Value.bool v_1))] ∧ Step (ks [(some b1, Obj.cells [(Value.slice a_d_sectors d.sectors.length c_d_sectors), (Value.slice a_d_pending d.pending.length c_d_pending), (Value.int .i64 d.left), (Value.bool d.stopped)].toArray 25)] O) w11 (ks Ebs O) w' ∧ St ⟨w, [], []⟩ O w' Ebs ∧ k30 v_1 = some x) ?_ ?_
  ·
    rintro ρ37 w33 ⟨v_1, Ebs, hEbs, hfr36, hst35, hs34, hm⟩
    replace hm := jnE1 hk31 hm
    subst hEbs; rw [hfr36.eq]; clear hfr36
    replace f_d_sectors := f_d_sectors.step hst35
    replace f_d_pending := f_d_pending.step hst35
    replace f14 := f14.step hst35
    replace F18 := F18.step hst35
    clear hst35 hs15
    refine Wp_cond rfl (fun hc38 => ?_) (fun hc38 => ?_)
    ·
      replace hm := bif_t hm hc38
      refine Wp_seq ?_
      obtain ⟨hs39, p40⟩ := hs34.sub (bs' := []) (.cons _ List.Sublist.slnil)
      clear f_d_sectors f_d_pending f14 F18
      clear p40 hs34
      refine Wp_region ?_  -- 4 disk.go:31
      refine Rg_op rfl (op_assign (v := (Value.int .i64 440)) rfl ?_)
      refine Rg_nil ?_
      refine Wp_ret ?_
      have hz := step_all hs39
      refine ⟨_, (show Closes [] _ _ from rfl), [(Value.int .i64 440)], ⟨rfl, trivial⟩, hs39.ext, ?_⟩
      exact Vr.eq (a := (vI .i64)) (x := 440) ⟨rfl, (show InK .i64 440 from by decide)⟩ (Option.some.inj hm)
    ·
      replace hm := bif_f hm hc38
      refine Wp_skip ?_
      refine Wp_seq ?_
      refine Wp_seq ?_
      clear f14 F18
      refine Wp_region ?_  -- 5 disk.go:33
      refine Rg_op rfl (op_fieldAddr ty25 rfl ty22 (by decide) rfl (rfl : _ = (⟨_, 0, none⟩ : Addr)) ?_)
      refine Rg_op rfl (op_load (cs := [(Value.slice a_d_sectors d.sectors.length c_d_sectors), (Value.slice a_d_pending d.pending.length c_d_pending), (Value.int .i64 d.left), (Value.bool d.stopped)]) (i := 0) ty22 hs34 rfl rfl rfl ?_)
      have F42 : CallsTo1 Try.prog w33 (ks [(some b1, Obj.cells [(Value.slice a_d_sectors d.sectors.length c_d_sectors), (Value.slice a_d_pending d.pending.length c_d_pending), (Value.int .i64 d.left), (Value.bool d.stopped)].toArray 25)] O) (Value.func (.func 46) #[] #[]) (vC (rSl rU8)) vB (fun x41 => m46_disk_Check_2 x41) := by
        intro w43 O44 st45 hO46 v49 x41 y47 h50 hy48
        obtain ⟨a_y51, c_y51, rfl, f_y51⟩ := un_sl h50
        exact ⟨46, #[], #[], rfl, Try.call46, c46_disk_Check_2 (b := x41) hO46 f_y51 hy48⟩
      replace hm := bd hm; obtain ⟨containsfunc_1, hv52, hm⟩ := hm
      have F59 : CallsTo1 Try.prog w33 (ks [(some b1, Obj.cells [(Value.slice a_d_sectors d.sectors.length c_d_sectors), (Value.slice a_d_pending d.pending.length c_d_pending), (Value.int .i64 d.left), (Value.bool d.stopped)].toArray 25)] O) (Value.func (.func 46) #[] #[]) (vC (rSl rU8)) vB (fun x58 => m46_disk_Check_2 x58) := by
        intro w60 O61 st62 hO63 v66 x58 y64 h67 hy65
        obtain ⟨a_y68, c_y68, rfl, f_y68⟩ := un_sl h67
        exact ⟨46, #[], #[], rfl, Try.call46, c46_disk_Check_2 (b := x58) hO63 f_y68 hy65⟩
      refine Rg_op rfl (op_call Try.call45 (c45_slices_ContainsFuncbyte_byte_ (s := d.sectors) (f := (fun x41 => m46_disk_Check_2 x41)) hs34.ltw f_d_sectors F42 hv52) rfl ?_)
      rintro v53 w54 ⟨hx55, h56⟩
      have hs57 := hs34.call hx55
      have p69 := Step.ext (O := ks [(some b1, Obj.cells [(Value.slice a_d_sectors d.sectors.length c_d_sectors), (Value.slice a_d_pending d.pending.length c_d_pending), (Value.int .i64 d.left), (Value.bool d.stopped)].toArray 25)] O) hx55
      clear hx55
      replace f_d_sectors := f_d_sectors.step p69
      replace f_d_pending := f_d_pending.step p69
      replace F42 := F42.step p69
      replace F59 := F59.step p69
      clear p69 hs34
      obtain rfl := h56
      refine Rg_nil ?_
      refine Wp_cond rfl (fun hc71 => ?_) (fun hc71 => ?_)
      ·
        replace hm := bif_t hm hc71
        refine Wp_seq ?_
        obtain ⟨hs72, p73⟩ := hs57.sub (bs' := []) (.cons _ List.Sublist.slnil)
        clear f_d_sectors f_d_pending F42 F59
        clear p73 hs57
        refine Wp_region ?_  -- 6 disk.go:34
        refine Rg_op rfl (op_assign (v := (Value.int .i64 440)) rfl ?_)
        refine Rg_nil ?_
        refine Wp_ret ?_
        have hz := step_all hs72
        refine ⟨_, (show Closes [] _ _ from rfl), [(Value.int .i64 440)], ⟨rfl, trivial⟩, hs72.ext, ?_⟩
        exact Vr.eq (a := (vI .i64)) (x := 440) ⟨rfl, (show InK .i64 440 from by decide)⟩ (Option.some.inj hm)
      ·
        replace hm := bif_f hm hc71
        refine Wp_skip ?_
        refine Wp_seq ?_
        obtain ⟨hs74, p75⟩ := hs57.sub (bs' := []) (.cons _ List.Sublist.slnil)
        clear f_d_sectors f_d_pending F42 F59
        clear p75 hs57
        refine Wp_region ?_  -- 7 disk.go:36
        refine Rg_op rfl (op_assign (v := (Value.int .i64 0)) rfl ?_)
        refine Rg_nil ?_
        refine Wp_ret ?_
        have hz := step_all hs74
        refine ⟨_, (show Closes [] _ _ from rfl), [(Value.int .i64 0)], ⟨rfl, trivial⟩, hs74.ext, ?_⟩
        exact Vr.eq (a := (vI .i64)) (x := 0) ⟨rfl, (show InK .i64 0 from by decide)⟩ (Option.some.inj hm)
  ·
    intro K32 hK32
    have ch76 := Step.refl (ks [(some b1, Obj.cells [(Value.slice a_d_sectors d.sectors.length c_d_sectors), (Value.slice a_d_pending d.pending.length c_d_pending), (Value.int .i64 d.left), (Value.bool d.stopped)].toArray 25)] O) w11
    refine Wp_region ?_  -- 3 disk.go:30
    refine Rg_op rfl (op_loadP ty3 rfl f14 rfl ?_)
    intro v77 h78
    obtain ⟨rfl, r_y79⟩ := un_int h78
    refine Rg_op rfl (op_lss rfl rfl ?_)
    refine Rg_op rfl (op_move (v := (Value.bool (decide ((d.sectors.length : Int) < 1)))) rfl ?_)
    refine Rg_case (fun hg80 => ?_) (fun hg80 => ?_)
    ·
      replace hm := bif_t hm hg80
      refine Rg_opx rfl (asB_ne rfl rfl) rfl ?_
      refine Rg_opx rfl (asB_ne rfl rfl) rfl ?_
      refine Rg_op rfl (op_pick_t (v := (Value.bool true)) rfl rfl ?_)
      refine Rg_op rfl (op_move (v := (Value.bool true)) rfl ?_)
      refine Rg_opx rfl (asB_ne rfl rfl) rfl ?_
      refine Rg_opx rfl (asB_ne rfl rfl) rfl ?_
      refine Rg_opx rfl (asB_ne rfl rfl) rfl ?_
      refine Rg_opx rfl (asB_ne rfl rfl) rfl ?_
      refine Rg_op rfl (op_pick_t (v := (Value.bool true)) rfl rfl ?_)
      refine Rg_op rfl (op_move (v := (Value.bool true)) rfl ?_)
      refine Rg_opx rfl (asB_ne rfl rfl) rfl ?_
      refine Rg_opx rfl (asB_ne rfl rfl) rfl ?_
      refine Rg_opx rfl (asB_ne rfl rfl) rfl ?_
      refine Rg_op rfl (op_pick_t (v := (Value.bool true)) rfl rfl ?_)
      refine Rg_op rfl (op_move (v := (Value.bool true)) rfl ?_)
      refine Rg_opx rfl (asB_ne rfl rfl) rfl ?_
      refine Rg_opx rfl (asB_ne rfl rfl) rfl ?_
      refine Rg_opx rfl (asB_ne rfl rfl) rfl ?_
      refine Rg_op rfl (op_pick_t (v := (Value.bool true)) rfl rfl ?_)
      refine Rg_op rfl (op_move (v := (Value.bool true)) rfl ?_)
      refine Rg_opx rfl (asB_ne rfl rfl) rfl ?_
      refine Rg_opx rfl (asB_ne rfl rfl) rfl ?_
      refine Rg_opx rfl (asB_ne rfl rfl) rfl ?_
      refine Rg_opx rfl (asB_ne rfl rfl) rfl ?_
      refine Rg_op rfl (op_pick_t (v := (Value.bool true)) rfl rfl ?_)
      refine Rg_nil ?_
      exact hK32 _ _ ⟨true, _, rfl, ⟨(by repeat (first | with_reducible exact Out.refl _ _ | refine Out.upd ?_ rfl | refine Out.updL ?_ rfl | refine Out.mix' ?_ rfl | exact Out.refl _ _)), rfl, rfl, trivial⟩, ch76, hs15, hm⟩
    ·
      replace hm := bif_f hm hg80
      refine Rg_opg rfl rfl rfl (op_loadP ty3 rfl f14 rfl ?_)
      intro v81 h82
      obtain ⟨rfl, r_y83⟩ := un_int h82
      refine Rg_opg rfl rfl rfl (op_gtr rfl rfl ?_)
      refine Rg_op rfl (op_pick_f (v := (Value.bool (decide (4096 < (d.sectors.length : Int))))) rfl rfl ?_)
      refine Rg_op rfl (op_move (v := (Value.bool (decide (4096 < (d.sectors.length : Int))))) rfl ?_)
      refine Rg_case (fun hg84 => ?_) (fun hg84 => ?_)
      ·
        replace hm := bif_t hm hg84
        refine Rg_opx rfl (asB_ne rfl rfl) rfl ?_
        refine Rg_opx rfl (asB_ne rfl rfl) rfl ?_
        refine Rg_opx rfl (asB_ne rfl rfl) rfl ?_
        refine Rg_opx rfl (asB_ne rfl rfl) rfl ?_
        refine Rg_op rfl (op_pick_t (v := (Value.bool true)) rfl rfl ?_)
        refine Rg_op rfl (op_move (v := (Value.bool true)) rfl ?_)
        refine Rg_opx rfl (asB_ne rfl rfl) rfl ?_
        refine Rg_opx rfl (asB_ne rfl rfl) rfl ?_
        refine Rg_opx rfl (asB_ne rfl rfl) rfl ?_
        refine Rg_op rfl (op_pick_t (v := (Value.bool true)) rfl rfl ?_)
        refine Rg_op rfl (op_move (v := (Value.bool true)) rfl ?_)
        refine Rg_opx rfl (asB_ne rfl rfl) rfl ?_
        refine Rg_opx rfl (asB_ne rfl rfl) rfl ?_
        refine Rg_opx rfl (asB_ne rfl rfl) rfl ?_
        refine Rg_op rfl (op_pick_t (v := (Value.bool true)) rfl rfl ?_)
        refine Rg_op rfl (op_move (v := (Value.bool true)) rfl ?_)
        refine Rg_opx rfl (asB_ne rfl rfl) rfl ?_
        refine Rg_opx rfl (asB_ne rfl rfl) rfl ?_
        refine Rg_opx rfl (asB_ne rfl rfl) rfl ?_
        refine Rg_opx rfl (asB_ne rfl rfl) rfl ?_
        refine Rg_op rfl (op_pick_t (v := (Value.bool true)) rfl rfl ?_)
        refine Rg_nil ?_
        exact hK32 _ _ ⟨true, _, rfl, ⟨(by repeat (first | with_reducible exact Out.refl _ _ | refine Out.upd ?_ rfl | refine Out.updL ?_ rfl | refine Out.mix' ?_ rfl | exact Out.refl _ _)), rfl, rfl, trivial⟩, ch76, hs15, hm⟩
      ·
        replace hm := bif_f hm hg84
        refine Rg_opg rfl rfl rfl (op_fieldAddr ty25 rfl ty23 (by decide) rfl (rfl : _ = (⟨_, 1, none⟩ : Addr)) ?_)
        refine Rg_opg rfl rfl rfl (op_load (cs := [(Value.slice a_d_sectors d.sectors.length c_d_sectors), (Value.slice a_d_pending d.pending.length c_d_pending), (Value.int .i64 d.left), (Value.bool d.stopped)]) (i := 0) ty23 hs15 rfl rfl rfl ?_)
        refine Rg_opg rfl rfl rfl (op_len Try.underlying23 rfl ?_)
        refine Rg_opg rfl rfl rfl (op_gtr rfl rfl ?_)
        refine Rg_op rfl (op_pick_f (v := (Value.bool (decide (4096 < (d.pending.length : Int))))) rfl rfl ?_)
        refine Rg_op rfl (op_move (v := (Value.bool (decide (4096 < (d.pending.length : Int))))) rfl ?_)
        refine Rg_case (fun hg85 => ?_) (fun hg85 => ?_)
        ·
          replace hm := bif_t hm hg85
          refine Rg_opx rfl (asB_ne rfl rfl) rfl ?_
          refine Rg_opx rfl (asB_ne rfl rfl) rfl ?_
          refine Rg_opx rfl (asB_ne rfl rfl) rfl ?_
          refine Rg_op rfl (op_pick_t (v := (Value.bool true)) rfl rfl ?_)
          refine Rg_op rfl (op_move (v := (Value.bool true)) rfl ?_)
          refine Rg_opx rfl (asB_ne rfl rfl) rfl ?_
          refine Rg_opx rfl (asB_ne rfl rfl) rfl ?_
          refine Rg_opx rfl (asB_ne rfl rfl) rfl ?_
          refine Rg_op rfl (op_pick_t (v := (Value.bool true)) rfl rfl ?_)
          refine Rg_op rfl (op_move (v := (Value.bool true)) rfl ?_)
          refine Rg_opx rfl (asB_ne rfl rfl) rfl ?_
          refine Rg_opx rfl (asB_ne rfl rfl) rfl ?_
          refine Rg_opx rfl (asB_ne rfl rfl) rfl ?_
          refine Rg_opx rfl (asB_ne rfl rfl) rfl ?_
          refine Rg_op rfl (op_pick_t (v := (Value.bool true)) rfl rfl ?_)
          refine Rg_nil ?_
          exact hK32 _ _ ⟨true, _, rfl, ⟨(by repeat (first | with_reducible exact Out.refl _ _ | refine Out.upd ?_ rfl | refine Out.updL ?_ rfl | refine Out.mix' ?_ rfl | exact Out.refl _ _)), rfl, rfl, trivial⟩, ch76, hs15, hm⟩
        ·
          replace hm := bif_f hm hg85
          refine Rg_opg rfl rfl rfl (op_fieldAddr ty25 rfl ty3 (by decide) rfl (rfl : _ = (⟨_, 2, none⟩ : Addr)) ?_)
          refine Rg_opg rfl rfl rfl (op_load (cs := [(Value.slice a_d_sectors d.sectors.length c_d_sectors), (Value.slice a_d_pending d.pending.length c_d_pending), (Value.int .i64 d.left), (Value.bool d.stopped)]) (i := 0) ty3 hs15 rfl rfl rfl ?_)
          refine Rg_opg rfl rfl rfl (op_lss rfl rfl ?_)
          refine Rg_op rfl (op_pick_f (v := (Value.bool (decide (d.left < (-1))))) rfl rfl ?_)
          refine Rg_op rfl (op_move (v := (Value.bool (decide (d.left < (-1))))) rfl ?_)
          refine Rg_case (fun hg86 => ?_) (fun hg86 => ?_)
          ·
            replace hm := bif_t hm hg86
            refine Rg_opx rfl (asB_ne rfl rfl) rfl ?_
            refine Rg_opx rfl (asB_ne rfl rfl) rfl ?_
            refine Rg_opx rfl (asB_ne rfl rfl) rfl ?_
            refine Rg_op rfl (op_pick_t (v := (Value.bool true)) rfl rfl ?_)
            refine Rg_op rfl (op_move (v := (Value.bool true)) rfl ?_)
            refine Rg_opx rfl (asB_ne rfl rfl) rfl ?_
            refine Rg_opx rfl (asB_ne rfl rfl) rfl ?_
            refine Rg_opx rfl (asB_ne rfl rfl) rfl ?_
            refine Rg_opx rfl (asB_ne rfl rfl) rfl ?_
            refine Rg_op rfl (op_pick_t (v := (Value.bool true)) rfl rfl ?_)
            refine Rg_nil ?_
            exact hK32 _ _ ⟨true, _, rfl, ⟨(by repeat (first | with_reducible exact Out.refl _ _ | refine Out.upd ?_ rfl | refine Out.updL ?_ rfl | refine Out.mix' ?_ rfl | exact Out.refl _ _)), rfl, rfl, trivial⟩, ch76, hs15, hm⟩
          ·
            replace hm := bif_f hm hg86
            refine Rg_opg rfl rfl rfl (op_fieldAddr ty25 rfl ty3 (by decide) rfl (rfl : _ = (⟨_, 2, none⟩ : Addr)) ?_)
            refine Rg_opg rfl rfl rfl (op_load (cs := [(Value.slice a_d_sectors d.sectors.length c_d_sectors), (Value.slice a_d_pending d.pending.length c_d_pending), (Value.int .i64 d.left), (Value.bool d.stopped)]) (i := 0) ty3 hs15 rfl rfl rfl ?_)
            refine Rg_opg rfl rfl rfl (op_gtr rfl rfl ?_)
            refine Rg_op rfl (op_pick_f (v := (Value.bool (decide (65536 < d.left)))) rfl rfl ?_)
            refine Rg_op rfl (op_move (v := (Value.bool (decide (65536 < d.left)))) rfl ?_)
            refine Rg_case (fun hg87 => ?_) (fun hg87 => ?_)
            ·
              replace hm := bif_t hm hg87
              refine Rg_opx rfl (asB_ne rfl rfl) rfl ?_
              refine Rg_opx rfl (asB_ne rfl rfl) rfl ?_
              refine Rg_opx rfl (asB_ne rfl rfl) rfl ?_
              refine Rg_opx rfl (asB_ne rfl rfl) rfl ?_
              refine Rg_op rfl (op_pick_t (v := (Value.bool true)) rfl rfl ?_)
              refine Rg_nil ?_
              exact hK32 _ _ ⟨true, _, rfl, ⟨(by repeat (first | with_reducible exact Out.refl _ _ | refine Out.upd ?_ rfl | refine Out.updL ?_ rfl | refine Out.mix' ?_ rfl | exact Out.refl _ _)), rfl, rfl, trivial⟩, ch76, hs15, hm⟩
            ·
              replace hm := bif_f hm hg87
              refine Rg_opg rfl rfl rfl (op_fieldAddr ty25 rfl ty23 (by decide) rfl (rfl : _ = (⟨_, 1, none⟩ : Addr)) ?_)
              refine Rg_opg rfl rfl rfl (op_load (cs := [(Value.slice a_d_sectors d.sectors.length c_d_sectors), (Value.slice a_d_pending d.pending.length c_d_pending), (Value.int .i64 d.left), (Value.bool d.stopped)]) (i := 0) ty23 hs15 rfl rfl rfl ?_)
              refine Rg_opg rfl rfl rfl (op_move (v := (Value.func (.func 42) #[] #[(Value.pointer (some (⟨b6, 0, none⟩ : Addr)))])) rfl ?_)
              replace hm := bd hm; obtain ⟨write_1, hv88, hm⟩ := hm
              refine Rg_opg rfl rfl rfl (op_call Try.call44 (c44_api_Write_ (s := d.pending) (f := (fun x17 => m42_disk_Check_1 x17 (d.sectors.length : Int))) hs15.ltw f_d_pending F18 hv88) rfl ?_)
              rintro v89 w90 ⟨hx91, h92⟩
              have hs93 := hs15.call hx91
              have p94 := Step.ext (O := ks [(some b1, Obj.cells [(Value.slice a_d_sectors d.sectors.length c_d_sectors), (Value.slice a_d_pending d.pending.length c_d_pending), (Value.int .i64 d.left), (Value.bool d.stopped)].toArray 25)] O) hx91
              clear hx91
              replace f_d_sectors := f_d_sectors.step p94
              replace f_d_pending := f_d_pending.step p94
              replace f14 := f14.step p94
              replace F18 := F18.step p94
              replace ch76 := ch76.trans p94
              clear p94 hs15
              obtain rfl := h92
              refine Rg_op rfl (op_pick_f (v := (Value.bool write_1)) rfl rfl ?_)
              refine Rg_nil ?_
              exact hK32 _ _ ⟨write_1, _, rfl, ⟨(by repeat (first | with_reducible exact Out.refl _ _ | refine Out.upd ?_ rfl | refine Out.updL ?_ rfl | refine Out.mix' ?_ rfl | exact Out.refl _ _)), rfl, rfl, trivial⟩, ch76, hs93, hm⟩

end Go.Fx


set_option linter.unusedVariables false
set_option linter.unusedSimpArgs false
set_option maxRecDepth 100000
set_option maxHeartbeats 0
namespace Go.Fx
open Go Go.RowKit Go.Proofs
def m20_disk_Restart (d : XDisk) : Option XDisk :=
  some (⟨d.sectors, ([] : List XWrite), (-1), false⟩ : XDisk)

theorem c20_disk_Restart {w : World} {O : List Nat} {d : XDisk} {a_d_sectors : Option Addr} {c_d_sectors : Nat} {a_d_pending : Option Addr} {c_d_pending : Nat} (hO : ∀ k ∈ O, k < w.heap.size) (f_d_sectors : SlR (rSl rU8) w O a_d_sectors c_d_sectors d.sectors) (f_d_pending : SlR rXWrite w O a_d_pending c_d_pending d.pending) (r_d_left : InK .i64 d.left) {x : XDisk} (hm : m20_disk_Restart d = some x) :
    Ok Try.prog 20 [(Value.agg [(Value.slice a_d_sectors d.sectors.length c_d_sectors), (Value.slice a_d_pending d.pending.length c_d_pending), (Value.int .i64 d.left), (Value.bool d.stopped)].toArray)] w O (vA rXDisk) x := by
  unfold m20_disk_Restart at hm
  refine Fn_of_Wp (n := 6) (xs := [.cell 2 25]) Try.func20 rfl Try.ntmps20 Try.results20 rfl ?_
  have hs := St.start hO
  refine Wp_seq ?_
  refine Wp_region ?_  -- 0 disk.go:117
  refine Rg_op rfl (op_box (cs := [(Value.slice a_d_sectors d.sectors.length c_d_sectors), (Value.slice a_d_pending d.pending.length c_d_pending), (Value.int .i64 d.left), (Value.bool d.stopped)]) hs rfl rfl ?_)
  intro b1 w2 _ p3 hs4
  replace f_d_sectors := f_d_sectors.step p3
  replace f_d_pending := f_d_pending.step p3
  clear p3
  refine Rg_op rfl (op_alloc ty25 hs4 ?_)
  intro b6 w7 _ p8 hs9
  replace f_d_sectors := f_d_sectors.step p8
  replace f_d_pending := f_d_pending.step p8
  clear p8 hs4
  refine Rg_nil ?_
  refine Wp_seq ?_
  refine Wp_region ?_  -- 1 disk.go:117
  refine Rg_op rfl (op_fieldAddr ty25 rfl ty22 (by decide) rfl (rfl : _ = (⟨_, 0, none⟩ : Addr)) ?_)
  refine Rg_op rfl (op_load (cs := [(Value.slice a_d_sectors d.sectors.length c_d_sectors), (Value.slice a_d_pending d.pending.length c_d_pending), (Value.int .i64 d.left), (Value.bool d.stopped)]) (i := 1) ty22 hs9 rfl rfl rfl ?_)
  refine Rg_op rfl (op_build (vs := [(Value.slice a_d_sectors d.sectors.length c_d_sectors), (Value.slice none 0 0), (Value.int .i64 (-1)), (Value.bool false)]) (parts := [(0, .tmp 4), (2, .const (.int .i64 (-1)))]) ty25 pl25 rfl ?_)
  refine Rg_op_ (op_store (cs := [(Value.slice none 0 0), (Value.slice none 0 0), (Value.int .i64 0), (Value.bool false)]) (vs := [(Value.slice a_d_sectors d.sectors.length c_d_sectors), (Value.slice none 0 0), (Value.int .i64 (-1)), (Value.bool false)]) (cs' := [(Value.slice a_d_sectors d.sectors.length c_d_sectors), (Value.slice none 0 0), (Value.int .i64 (-1)), (Value.bool false)]) (bs' := [(some b6, Obj.cells [(Value.slice a_d_sectors d.sectors.length c_d_sectors), (Value.slice none 0 0), (Value.int .i64 (-1)), (Value.bool false)].toArray 25), (some b1, Obj.cells [(Value.slice a_d_sectors d.sectors.length c_d_sectors), (Value.slice a_d_pending d.pending.length c_d_pending), (Value.int .i64 d.left), (Value.bool d.stopped)].toArray 25)]) (i := 0) ty25 hs9 rfl rfl rfl rfl rfl (le_lit rfl) rfl rfl rfl ?_)
  intro w11 p12 hs13
  replace f_d_sectors := f_d_sectors.step p12
  replace f_d_pending := f_d_pending.step p12
  clear p12 hs9
  refine Rg_nil ?_
  refine Wp_ret ?_
  have hz := step_all hs13
  replace f_d_sectors := f_d_sectors.step hz
  replace f_d_pending := f_d_pending.step hz
  refine ⟨_, (show Closes [] _ _ from rfl), [(Value.agg [(Value.slice a_d_sectors d.sectors.length c_d_sectors), (Value.slice none 0 0), (Value.int .i64 (-1)), (Value.bool false)].toArray)], ⟨resA (cs := [(Value.slice a_d_sectors d.sectors.length c_d_sectors), (Value.slice none 0 0), (Value.int .i64 (-1)), (Value.bool false)]) (vs := [(Value.slice a_d_sectors d.sectors.length c_d_sectors), (Value.slice none 0 0), (Value.int .i64 (-1)), (Value.bool false)]) ty25 (i := 0) hs13 rfl rfl rfl rfl, trivial⟩, hs13.ext, ?_⟩
  exact Vr.eq (a := (vA rXDisk)) (x := (⟨d.sectors, ([] : List XWrite), (-1), false⟩ : XDisk)) (mkA (mkVia (mk_pair (mk_sl f_d_sectors) (mk_pair (mk_sl SlR.nil_) (mk_pair (mk_int (show InK .i64 (-1) from by decide)) mkBool))))) (Option.some.inj hm)

end Go.Fx


set_option linter.unusedVariables false
set_option linter.unusedSimpArgs false
set_option maxRecDepth 100000
set_option maxHeartbeats 0
namespace Go.Fx
open Go Go.RowKit Go.Proofs
def m47_disk_runs (d : XDisk) : Option Bool :=
  (m18_disk_Check d).bind fun check_1 =>
  bif (decide (check_1 = 0)) then
    some (!d.stopped)
  else
    some false

theorem c47_disk_runs {w : World} {O : List Nat} {d : XDisk} {a_d_sectors : Option Addr} {c_d_sectors : Nat} {a_d_pending : Option Addr} {c_d_pending : Nat} (hO : ∀ k ∈ O, k < w.heap.size) (f_d_sectors : SlR (rSl rU8) w O a_d_sectors c_d_sectors d.sectors) (f_d_pending : SlR rXWrite w O a_d_pending c_d_pending d.pending) (r_d_left : InK .i64 d.left) {x : Bool} (hm : m47_disk_runs d = some x) :
    Ok Try.prog 47 [(Value.agg [(Value.slice a_d_sectors d.sectors.length c_d_sectors), (Value.slice a_d_pending d.pending.length c_d_pending), (Value.int .i64 d.left), (Value.bool d.stopped)].toArray)] w O vB x := by
  unfold m47_disk_runs at hm
  refine Fn_of_Wp (n := 11) (xs := [.tmp 2]) Try.func47 rfl Try.ntmps47 Try.results47 rfl ?_
  have hs := St.start hO
  refine Wp_seq ?_
  refine Wp_region ?_  -- 0 disk.go:40
  refine Rg_op rfl (op_box (cs := [(Value.slice a_d_sectors d.sectors.length c_d_sectors), (Value.slice a_d_pending d.pending.length c_d_pending), (Value.int .i64 d.left), (Value.bool d.stopped)]) hs rfl rfl ?_)
  intro b1 w2 _ p3 hs4
  replace f_d_sectors := f_d_sectors.step p3
  replace f_d_pending := f_d_pending.step p3
  clear p3
  refine Rg_op rfl (op_assign (v := (Value.bool false)) rfl ?_)
  refine Rg_nil ?_
  refine Wp_seq ?_
  refine Wp_region ?_  -- 1 disk.go:40
  refine Rg_op rfl (op_loadA (cs := [(Value.slice a_d_sectors d.sectors.length c_d_sectors), (Value.slice a_d_pending d.pending.length c_d_pending), (Value.int .i64 d.left), (Value.bool d.stopped)]) (vs := [(Value.slice a_d_sectors d.sectors.length c_d_sectors), (Value.slice a_d_pending d.pending.length c_d_pending), (Value.int .i64 d.left), (Value.bool d.stopped)]) (i := 0) ty25 hs4 rfl rfl rfl rfl ?_)
  replace hm := bd hm; obtain ⟨check_1, hv6, hm⟩ := hm
  refine Rg_op rfl (op_call Try.call18 (c18_disk_Check (d := d) hs4.ltw f_d_sectors f_d_pending r_d_left hv6) rfl ?_)
  rintro v7 w8 ⟨hx9, h10⟩
  have hs11 := hs4.call hx9
  have p12 := Step.ext (O := ks [(some b1, Obj.cells [(Value.slice a_d_sectors d.sectors.length c_d_sectors), (Value.slice a_d_pending d.pending.length c_d_pending), (Value.int .i64 d.left), (Value.bool d.stopped)].toArray 25)] O) hx9
  clear hx9
  replace f_d_sectors := f_d_sectors.step p12
  replace f_d_pending := f_d_pending.step p12
  clear p12 hs4
  obtain ⟨rfl, r_y13⟩ := h10
  refine Rg_op rfl (op_eql rfl rfl ?_)
  refine Rg_op rfl (op_move (v := (Value.bool (decide (check_1 = 0)))) rfl ?_)
  refine Rg_case (fun hg14 => ?_) (fun hg14 => ?_)
  ·
    replace hm := bif_t hm hg14
    refine Rg_opg rfl rfl rfl (op_fieldAddr ty25 rfl ty4 (by decide) rfl (rfl : _ = (⟨_, 3, none⟩ : Addr)) ?_)
    refine Rg_opg rfl rfl rfl (op_load (cs := [(Value.slice a_d_sectors d.sectors.length c_d_sectors), (Value.slice a_d_pending d.pending.length c_d_pending), (Value.int .i64 d.left), (Value.bool d.stopped)]) (i := 0) ty4 hs11 rfl rfl rfl ?_)
    refine Rg_opg rfl rfl rfl (op_not rfl ?_)
    refine Rg_op rfl (op_pick_t (v := (Value.bool (!d.stopped))) rfl rfl ?_)
    refine Rg_op rfl (op_assign (v := (Value.bool (!d.stopped))) rfl ?_)
    refine Rg_nil ?_
    refine Wp_ret ?_
    have hz := step_all hs11
    replace f_d_sectors := f_d_sectors.step hz
    replace f_d_pending := f_d_pending.step hz
    refine ⟨_, (show Closes [] _ _ from rfl), [(Value.bool (!d.stopped))], ⟨rfl, trivial⟩, hs11.ext, ?_⟩
    exact Vr.eq (a := vB) (x := (!d.stopped)) rfl (Option.some.inj hm)
  ·
    replace hm := bif_f hm hg14
    refine Rg_opx rfl (asB_ne rfl rfl) rfl ?_
    refine Rg_opx rfl (asB_ne rfl rfl) rfl ?_
    refine Rg_opx rfl (asB_ne rfl rfl) rfl ?_
    refine Rg_op rfl (op_pick_f (v := (Value.bool false)) rfl rfl ?_)
    refine Rg_op rfl (op_assign (v := (Value.bool false)) rfl ?_)
    refine Rg_nil ?_
    refine Wp_ret ?_
    have hz := step_all hs11
    replace f_d_sectors := f_d_sectors.step hz
    replace f_d_pending := f_d_pending.step hz
    refine ⟨_, (show Closes [] _ _ from rfl), [(Value.bool false)], ⟨rfl, trivial⟩, hs11.ext, ?_⟩
    exact Vr.eq (a := vB) (x := false) rfl (Option.some.inj hm)

end Go.Fx


set_option linter.unusedVariables false
set_option linter.unusedSimpArgs false
set_option maxRecDepth 100000
set_option maxHeartbeats 0
namespace Go.Fx
open Go Go.RowKit Go.Proofs
def m22_disk_Stop (d : XDisk) (left : Int) : Option (XDisk × Int) :=
  (m47_disk_runs d).bind fun runs_1 =>
  bif (!runs_1) then
    some ((⟨([] : List (List UInt8)), ([] : List XWrite), 0, false⟩ : XDisk), 440)
  else
    jn (fun (v_1 : Bool) =>
      bif v_1 then
        some ((⟨([] : List (List UInt8)), ([] : List XWrite), 0, false⟩ : XDisk), 1)
      else
        some ((⟨d.sectors, d.pending, left, d.stopped⟩ : XDisk), 0))
    (fun k27 =>
      bif (decide (left < 0)) then
        k27 true
      else
        k27 (decide (65536 < left)))

theorem c22_disk_Stop {w : World} {O : List Nat} {d : XDisk} {left : Int} {a_d_sectors : Option Addr} {c_d_sectors : Nat} {a_d_pending : Option Addr} {c_d_pending : Nat} (hO : ∀ k ∈ O, k < w.heap.size) (f_d_sectors : SlR (rSl rU8) w O a_d_sectors c_d_sectors d.sectors) (f_d_pending : SlR rXWrite w O a_d_pending c_d_pending d.pending) (r_d_left : InK .i64 d.left) (r_left : InK .i64 left) {x : XDisk × Int} (hm : m22_disk_Stop d left = some x) :
    Ok Try.prog 22 [(Value.agg [(Value.slice a_d_sectors d.sectors.length c_d_sectors), (Value.slice a_d_pending d.pending.length c_d_pending), (Value.int .i64 d.left), (Value.bool d.stopped)].toArray), (Value.int .i64 left)] w O (vT2 (vA rXDisk) (vI .i64)) x := by
  unfold m22_disk_Stop at hm
  refine Fn_of_Wp (n := 22) (xs := [.cell 4 25, .tmp 5]) Try.func22 rfl Try.ntmps22 Try.results22 rfl ?_
  have hs := St.start hO
  refine Wp_seq ?_
  refine Wp_region ?_  -- 0 disk.go:105
  refine Rg_op rfl (op_box (cs := [(Value.slice a_d_sectors d.sectors.length c_d_sectors), (Value.slice a_d_pending d.pending.length c_d_pending), (Value.int .i64 d.left), (Value.bool d.stopped)]) hs rfl rfl ?_)
  intro b1 w2 _ p3 hs4
  replace f_d_sectors := f_d_sectors.step p3
  replace f_d_pending := f_d_pending.step p3
  clear p3
  refine Rg_op rfl (op_alloc ty25 hs4 ?_)
  intro b6 w7 _ p8 hs9
  replace f_d_sectors := f_d_sectors.step p8
  replace f_d_pending := f_d_pending.step p8
  clear p8 hs4
  refine Rg_op rfl (op_assign (v := (Value.int .i64 0)) rfl ?_)
  refine Rg_nil ?_
  refine Wp_seq ?_
  refine Wp_block ?_
  refine Wp_seq ?_
  refine Wp_region ?_  -- 1 disk.go:107
  refine Rg_op rfl (op_loadA (cs := [(Value.slice a_d_sectors d.sectors.length c_d_sectors), (Value.slice a_d_pending d.pending.length c_d_pending), (Value.int .i64 d.left), (Value.bool d.stopped)]) (vs := [(Value.slice a_d_sectors d.sectors.length c_d_sectors), (Value.slice a_d_pending d.pending.length c_d_pending), (Value.int .i64 d.left), (Value.bool d.stopped)]) (i := 1) ty25 hs9 rfl rfl rfl rfl ?_)
  replace hm := bd hm; obtain ⟨runs_1, hv11, hm⟩ := hm
  refine Rg_op rfl (op_call Try.call47 (c47_disk_runs (d := d) hs9.ltw f_d_sectors f_d_pending r_d_left hv11) rfl ?_)
  rintro v12 w13 ⟨hx14, h15⟩
  have hs16 := hs9.call hx14
  have p17 := Step.ext (O := ks [(some b6, Obj.cells [(Value.slice none 0 0), (Value.slice none 0 0), (Value.int .i64 0), (Value.bool false)].toArray 25), (some b1, Obj.cells [(Value.slice a_d_sectors d.sectors.length c_d_sectors), (Value.slice a_d_pending d.pending.length c_d_pending), (Value.int .i64 d.left), (Value.bool d.stopped)].toArray 25)] O) hx14
  clear hx14
  replace f_d_sectors := f_d_sectors.step p17
  replace f_d_pending := f_d_pending.step p17
  clear p17 hs9
  obtain rfl := h15
  refine Rg_op rfl (op_not rfl ?_)
  refine Rg_op rfl (op_assign (v := (Value.bool (!runs_1))) rfl ?_)
  refine Rg_nil ?_
  refine Wp_cond rfl (fun hc19 => ?_) (fun hc19 => ?_)
  ·
    replace hm := bif_t hm hc19
    refine Wp_seq ?_
    obtain ⟨hs20, p21⟩ := hs16.sub (bs' := [(some b6, Obj.cells [(Value.slice none 0 0), (Value.slice none 0 0), (Value.int .i64 0), (Value.bool false)].toArray 25)]) (.cons_cons _ (.cons _ List.Sublist.slnil))
    clear f_d_sectors f_d_pending
    clear p21 hs16
    refine Wp_region ?_  -- 2 disk.go:108
    refine Rg_op rfl (op_loadA (cs := [(Value.slice none 0 0), (Value.slice none 0 0), (Value.int .i64 0), (Value.bool false)]) (vs := [(Value.slice none 0 0), (Value.slice none 0 0), (Value.int .i64 0), (Value.bool false)]) (i := 0) ty25 hs20 rfl rfl rfl rfl ?_)
    refine Rg_op_ (op_store (cs := [(Value.slice none 0 0), (Value.slice none 0 0), (Value.int .i64 0), (Value.bool false)]) (vs := [(Value.slice none 0 0), (Value.slice none 0 0), (Value.int .i64 0), (Value.bool false)]) (cs' := [(Value.slice none 0 0), (Value.slice none 0 0), (Value.int .i64 0), (Value.bool false)]) (bs' := [(some b6, Obj.cells [(Value.slice none 0 0), (Value.slice none 0 0), (Value.int .i64 0), (Value.bool false)].toArray 25)]) (i := 0) ty25 hs20 rfl rfl rfl rfl rfl (le_lit rfl) rfl rfl rfl ?_)
    intro w22 p23 hs24
    clear p23 hs20
    refine Rg_op rfl (op_assign (v := (Value.int .i64 440)) rfl ?_)
    refine Rg_nil ?_
    refine Wp_ret ?_
    have hz := step_all hs24
    refine ⟨_, (show Closes [] _ _ from rfl), [(Value.agg [(Value.slice none 0 0), (Value.slice none 0 0), (Value.int .i64 0), (Value.bool false)].toArray), (Value.int .i64 440)], ⟨resA (cs := [(Value.slice none 0 0), (Value.slice none 0 0), (Value.int .i64 0), (Value.bool false)]) (vs := [(Value.slice none 0 0), (Value.slice none 0 0), (Value.int .i64 0), (Value.bool false)]) ty25 (i := 0) hs24 rfl rfl rfl rfl, rfl, trivial⟩, hs24.ext, ?_⟩
    exact Vr.eq (a := (vT2 (vA rXDisk) (vI .i64))) (x := ((⟨([] : List (List UInt8)), ([] : List XWrite), 0, false⟩ : XDisk), 440)) (mkT2 (mkA (mkVia (mk_pair (mk_sl SlR.nil_) (mk_pair (mk_sl SlR.nil_) (mk_pair (mk_int (show InK .i64 0 from by decide)) mkBool))))) ⟨rfl, (show InK .i64 440 from by decide)⟩) (Option.some.inj hm)
  ·
    replace hm := bif_f hm hc19
    refine Wp_reset [] [(1, (Value.int .i64 left)), (2, (Value.pointer (some ⟨b1, 0, none⟩))), (4, (Value.pointer (some ⟨b6, 0, none⟩)))] rfl ⟨rfl, rfl, rfl, trivial⟩ fun ξ25 => ?_
    replace hm := jn_elim hm; obtain ⟨k27, hk28, hm⟩ := hm
    refine Wp_seqJ [11, 12, 13, 14, 15, 16, 17] (fun fr w' => ∃ (v_1 : Bool) (Ebs : Ents), Ebs = [(some b6, Obj.cells [(Value.slice none 0 0), (Value.slice none 0 0), (Value.int .i64 0), (Value.bool false)].toArray 25), (some b1, Obj.cells [(Value.slice a_d_sectors d.sectors.length c_d_sectors), (Value.slice a_d_pending d.pending.length c_d_pending), (Value.int .i64 d.left), (Value.bool d.stopped)].toArray 25)] ∧ fr [] [(11, (Value.bool v_1))] ∧ Step (ks [(some b6, Obj.cells [(Value.slice none 0 0), (Value.slice none 0 0), (Value.int .i64 0), (Value.bool false)].toArray 25), (some b1, Obj.cells [(Value.slice a_d_sectors d.sectors.length c_d_sectors), (Value.slice a_d_pending d.pending.length c_d_pending), (Value.int .i64 d.left), (Value.bool d.stopped)].toArray 25)] O) w13 (ks Ebs O) w' ∧ St ⟨w, [], []⟩ O w' Ebs ∧ k27 v_1 = some x) ?_ ?_
    ·
      rintro ρ34 w30 ⟨v_1, Ebs, hEbs, hfr33, hst32, hs31, hm⟩
      replace hm := jnE1 hk28 hm
      subst hEbs; rw [hfr33.eq]; clear hfr33
      replace f_d_sectors := f_d_sectors.step hst32
      replace f_d_pending := f_d_pending.step hst32
      clear hst32 hs16
      refine Wp_cond rfl (fun hc35 => ?_) (fun hc35 => ?_)
      ·
        replace hm := bif_t hm hc35
        refine Wp_seq ?_
        obtain ⟨hs36, p37⟩ := hs31.sub (bs' := [(some b6, Obj.cells [(Value.slice none 0 0), (Value.slice none 0 0), (Value.int .i64 0), (Value.bool false)].toArray 25)]) (.cons_cons _ (.cons _ List.Sublist.slnil))
        clear f_d_sectors f_d_pending
        clear p37 hs31
        refine Wp_region ?_  -- 4 disk.go:110
        refine Rg_op rfl (op_loadA (cs := [(Value.slice none 0 0), (Value.slice none 0 0), (Value.int .i64 0), (Value.bool false)]) (vs := [(Value.slice none 0 0), (Value.slice none 0 0), (Value.int .i64 0), (Value.bool false)]) (i := 0) ty25 hs36 rfl rfl rfl rfl ?_)
        refine Rg_op_ (op_store (cs := [(Value.slice none 0 0), (Value.slice none 0 0), (Value.int .i64 0), (Value.bool false)]) (vs := [(Value.slice none 0 0), (Value.slice none 0 0), (Value.int .i64 0), (Value.bool false)]) (cs' := [(Value.slice none 0 0), (Value.slice none 0 0), (Value.int .i64 0), (Value.bool false)]) (bs' := [(some b6, Obj.cells [(Value.slice none 0 0), (Value.slice none 0 0), (Value.int .i64 0), (Value.bool false)].toArray 25)]) (i := 0) ty25 hs36 rfl rfl rfl rfl rfl (le_lit rfl) rfl rfl rfl ?_)
        intro w38 p39 hs40
        clear p39 hs36
        refine Rg_op rfl (op_assign (v := (Value.int .i64 1)) rfl ?_)
        refine Rg_nil ?_
        refine Wp_ret ?_
        have hz := step_all hs40
        refine ⟨_, (show Closes [] _ _ from rfl), [(Value.agg [(Value.slice none 0 0), (Value.slice none 0 0), (Value.int .i64 0), (Value.bool false)].toArray), (Value.int .i64 1)], ⟨resA (cs := [(Value.slice none 0 0), (Value.slice none 0 0), (Value.int .i64 0), (Value.bool false)]) (vs := [(Value.slice none 0 0), (Value.slice none 0 0), (Value.int .i64 0), (Value.bool false)]) ty25 (i := 0) hs40 rfl rfl rfl rfl, rfl, trivial⟩, hs40.ext, ?_⟩
        exact Vr.eq (a := (vT2 (vA rXDisk) (vI .i64))) (x := ((⟨([] : List (List UInt8)), ([] : List XWrite), 0, false⟩ : XDisk), 1)) (mkT2 (mkA (mkVia (mk_pair (mk_sl SlR.nil_) (mk_pair (mk_sl SlR.nil_) (mk_pair (mk_int (show InK .i64 0 from by decide)) mkBool))))) ⟨rfl, (show InK .i64 1 from by decide)⟩) (Option.some.inj hm)
      ·
        replace hm := bif_f hm hc35
        refine Wp_skip ?_
        refine Wp_seq ?_
        refine Wp_region ?_  -- 5 disk.go:112
        refine Rg_op rfl (op_move (v := (Value.int .i64 left)) rfl ?_)
        refine Rg_op rfl (op_fieldAddr ty25 rfl ty3 (by decide) rfl (rfl : _ = (⟨_, 2, none⟩ : Addr)) ?_)
        refine Rg_op_ (op_store (cs := [(Value.slice a_d_sectors d.sectors.length c_d_sectors), (Value.slice a_d_pending d.pending.length c_d_pending), (Value.int .i64 d.left), (Value.bool d.stopped)]) (vs := [(Value.int .i64 left)]) (cs' := [(Value.slice a_d_sectors d.sectors.length c_d_sectors), (Value.slice a_d_pending d.pending.length c_d_pending), (Value.int .i64 left), (Value.bool d.stopped)]) (bs' := [(some b6, Obj.cells [(Value.slice none 0 0), (Value.slice none 0 0), (Value.int .i64 0), (Value.bool false)].toArray 25), (some b1, Obj.cells [(Value.slice a_d_sectors d.sectors.length c_d_sectors), (Value.slice a_d_pending d.pending.length c_d_pending), (Value.int .i64 left), (Value.bool d.stopped)].toArray 25)]) (i := 1) ty3 hs31 rfl rfl rfl rfl rfl (le_lit rfl) rfl rfl rfl ?_)
        intro w41 p42 hs43
        replace f_d_sectors := f_d_sectors.step p42
        replace f_d_pending := f_d_pending.step p42
        clear p42 hs31
        refine Rg_nil ?_
        refine Wp_seq ?_
        refine Wp_region ?_  -- 6 disk.go:113
        refine Rg_op rfl (op_loadA (cs := [(Value.slice a_d_sectors d.sectors.length c_d_sectors), (Value.slice a_d_pending d.pending.length c_d_pending), (Value.int .i64 left), (Value.bool d.stopped)]) (vs := [(Value.slice a_d_sectors d.sectors.length c_d_sectors), (Value.slice a_d_pending d.pending.length c_d_pending), (Value.int .i64 left), (Value.bool d.stopped)]) (i := 1) ty25 hs43 rfl rfl rfl rfl ?_)
        refine Rg_op_ (op_store (cs := [(Value.slice none 0 0), (Value.slice none 0 0), (Value.int .i64 0), (Value.bool false)]) (vs := [(Value.slice a_d_sectors d.sectors.length c_d_sectors), (Value.slice a_d_pending d.pending.length c_d_pending), (Value.int .i64 left), (Value.bool d.stopped)]) (cs' := [(Value.slice a_d_sectors d.sectors.length c_d_sectors), (Value.slice a_d_pending d.pending.length c_d_pending), (Value.int .i64 left), (Value.bool d.stopped)]) (bs' := [(some b6, Obj.cells [(Value.slice a_d_sectors d.sectors.length c_d_sectors), (Value.slice a_d_pending d.pending.length c_d_pending), (Value.int .i64 left), (Value.bool d.stopped)].toArray 25), (some b1, Obj.cells [(Value.slice a_d_sectors d.sectors.length c_d_sectors), (Value.slice a_d_pending d.pending.length c_d_pending), (Value.int .i64 left), (Value.bool d.stopped)].toArray 25)]) (i := 0) ty25 hs43 rfl rfl rfl rfl rfl (le_lit rfl) rfl rfl rfl ?_)
        intro w44 p45 hs46
        replace f_d_sectors := f_d_sectors.step p45
        replace f_d_pending := f_d_pending.step p45
        clear p45 hs43
        refine Rg_op rfl (op_assign (v := (Value.int .i64 0)) rfl ?_)
        refine Rg_nil ?_
        refine Wp_ret ?_
        have hz := step_all hs46
        replace f_d_sectors := f_d_sectors.step hz
        replace f_d_pending := f_d_pending.step hz
        refine ⟨_, (show Closes [] _ _ from rfl), [(Value.agg [(Value.slice a_d_sectors d.sectors.length c_d_sectors), (Value.slice a_d_pending d.pending.length c_d_pending), (Value.int .i64 left), (Value.bool d.stopped)].toArray), (Value.int .i64 0)], ⟨resA (cs := [(Value.slice a_d_sectors d.sectors.length c_d_sectors), (Value.slice a_d_pending d.pending.length c_d_pending), (Value.int .i64 left), (Value.bool d.stopped)]) (vs := [(Value.slice a_d_sectors d.sectors.length c_d_sectors), (Value.slice a_d_pending d.pending.length c_d_pending), (Value.int .i64 left), (Value.bool d.stopped)]) ty25 (i := 0) hs46 rfl rfl rfl rfl, rfl, trivial⟩, hs46.ext, ?_⟩
        exact Vr.eq (a := (vT2 (vA rXDisk) (vI .i64))) (x := ((⟨d.sectors, d.pending, left, d.stopped⟩ : XDisk), 0)) (mkT2 (mkA (mkVia (mk_pair (mk_sl f_d_sectors) (mk_pair (mk_sl f_d_pending) (mk_pair (mk_int r_left) mkBool))))) ⟨rfl, (show InK .i64 0 from by decide)⟩) (Option.some.inj hm)
    ·
      intro K29 hK29
      have ch47 := Step.refl (ks [(some b6, Obj.cells [(Value.slice none 0 0), (Value.slice none 0 0), (Value.int .i64 0), (Value.bool false)].toArray 25), (some b1, Obj.cells [(Value.slice a_d_sectors d.sectors.length c_d_sectors), (Value.slice a_d_pending d.pending.length c_d_pending), (Value.int .i64 d.left), (Value.bool d.stopped)].toArray 25)] O) w13
      refine Wp_region ?_  -- 3 disk.go:109
      refine Rg_op rfl (op_move (v := (Value.int .i64 left)) rfl ?_)
      refine Rg_op rfl (op_lss rfl rfl ?_)
      refine Rg_op rfl (op_move (v := (Value.bool (decide (left < 0)))) rfl ?_)
      refine Rg_case (fun hg48 => ?_) (fun hg48 => ?_)
      ·
        replace hm := bif_t hm hg48
        refine Rg_opx rfl (asB_ne rfl rfl) rfl ?_
        refine Rg_opx rfl (asB_ne rfl rfl) rfl ?_
        refine Rg_op rfl (op_pick_t (v := (Value.bool true)) rfl rfl ?_)
        refine Rg_op rfl (op_assign (v := (Value.bool true)) rfl ?_)
        refine Rg_nil ?_
        exact hK29 _ _ ⟨true, _, rfl, ⟨(by repeat (first | with_reducible exact Out.refl _ _ | refine Out.upd ?_ rfl | refine Out.updL ?_ rfl | refine Out.mix' ?_ rfl | exact Out.refl _ _)), rfl, rfl, trivial⟩, ch47, hs16, hm⟩
      ·
        replace hm := bif_f hm hg48
        refine Rg_opg rfl rfl rfl (op_move (v := (Value.int .i64 left)) rfl ?_)
        refine Rg_opg rfl rfl rfl (op_gtr rfl rfl ?_)
        refine Rg_op rfl (op_pick_f (v := (Value.bool (decide (65536 < left)))) rfl rfl ?_)
        refine Rg_op rfl (op_assign (v := (Value.bool (decide (65536 < left)))) rfl ?_)
        refine Rg_nil ?_
        exact hK29 _ _ ⟨(decide (65536 < left)), _, rfl, ⟨(by repeat (first | with_reducible exact Out.refl _ _ | refine Out.upd ?_ rfl | refine Out.updL ?_ rfl | refine Out.mix' ?_ rfl | exact Out.refl _ _)), rfl, rfl, trivial⟩, ch47, hs16, hm⟩

end Go.Fx


set_option linter.unusedVariables false
set_option linter.unusedSimpArgs false
set_option maxRecDepth 100000
set_option maxHeartbeats 0
namespace Go.Fx
open Go Go.RowKit Go.Proofs
def m48_disk_has (d : XDisk) (at_ : Int) : Option Bool :=
  bif (decide (0 ≤ at_)) then
    some (decide (at_ < (d.sectors.length : Int)))
  else
    some false

theorem c48_disk_has {w : World} {O : List Nat} {d : XDisk} {at_ : Int} {a_d_sectors : Option Addr} {c_d_sectors : Nat} {a_d_pending : Option Addr} {c_d_pending : Nat} (hO : ∀ k ∈ O, k < w.heap.size) (f_d_sectors : SlR (rSl rU8) w O a_d_sectors c_d_sectors d.sectors) (f_d_pending : SlR rXWrite w O a_d_pending c_d_pending d.pending) (r_d_left : InK .i64 d.left) (r_at_ : InK .i64 at_) {x : Bool} (hm : m48_disk_has d at_ = some x) :
    Ok Try.prog 48 [(Value.agg [(Value.slice a_d_sectors d.sectors.length c_d_sectors), (Value.slice a_d_pending d.pending.length c_d_pending), (Value.int .i64 d.left), (Value.bool d.stopped)].toArray), (Value.int .i64 at_)] w O vB x := by
  unfold m48_disk_has at hm
  refine Fn_of_Wp (n := 14) (xs := [.tmp 4]) Try.func48 rfl Try.ntmps48 Try.results48 rfl ?_
  have hs := St.start hO
  refine Wp_seq ?_
  refine Wp_region ?_  -- 0 disk.go:42
  refine Rg_op rfl (op_box (cs := [(Value.slice a_d_sectors d.sectors.length c_d_sectors), (Value.slice a_d_pending d.pending.length c_d_pending), (Value.int .i64 d.left), (Value.bool d.stopped)]) hs rfl rfl ?_)
  intro b1 w2 _ p3 hs4
  replace f_d_sectors := f_d_sectors.step p3
  replace f_d_pending := f_d_pending.step p3
  clear p3
  refine Rg_op rfl (op_assign (v := (Value.bool false)) rfl ?_)
  refine Rg_nil ?_
  refine Wp_seq ?_
  refine Wp_region ?_  -- 1 disk.go:42
  refine Rg_op rfl (op_move (v := (Value.int .i64 at_)) rfl ?_)
  refine Rg_op rfl (op_geq rfl rfl ?_)
  refine Rg_op rfl (op_move (v := (Value.bool (decide (0 ≤ at_)))) rfl ?_)
  refine Rg_case (fun hg6 => ?_) (fun hg6 => ?_)
  ·
    replace hm := bif_t hm hg6
    refine Rg_opg rfl rfl rfl (op_move (v := (Value.int .i64 at_)) rfl ?_)
    refine Rg_opg rfl rfl rfl (op_fieldAddr ty25 rfl ty22 (by decide) rfl (rfl : _ = (⟨_, 0, none⟩ : Addr)) ?_)
    refine Rg_opg rfl rfl rfl (op_load (cs := [(Value.slice a_d_sectors d.sectors.length c_d_sectors), (Value.slice a_d_pending d.pending.length c_d_pending), (Value.int .i64 d.left), (Value.bool d.stopped)]) (i := 0) ty22 hs4 rfl rfl rfl ?_)
    refine Rg_opg rfl rfl rfl (op_len Try.underlying22 rfl ?_)
    refine Rg_opg rfl rfl rfl (op_lss rfl rfl ?_)
    refine Rg_op rfl (op_pick_t (v := (Value.bool (decide (at_ < (d.sectors.length : Int))))) rfl rfl ?_)
    refine Rg_op rfl (op_assign (v := (Value.bool (decide (at_ < (d.sectors.length : Int))))) rfl ?_)
    refine Rg_nil ?_
    refine Wp_ret ?_
    have hz := step_all hs4
    replace f_d_sectors := f_d_sectors.step hz
    replace f_d_pending := f_d_pending.step hz
    refine ⟨_, (show Closes [] _ _ from rfl), [(Value.bool (decide (at_ < (d.sectors.length : Int))))], ⟨rfl, trivial⟩, hs4.ext, ?_⟩
    exact Vr.eq (a := vB) (x := (decide (at_ < (d.sectors.length : Int)))) rfl (Option.some.inj hm)
  ·
    replace hm := bif_f hm hg6
    refine Rg_opx rfl (asB_ne rfl rfl) rfl ?_
    refine Rg_opx rfl (asB_ne rfl rfl) rfl ?_
    refine Rg_opx rfl (asB_ne rfl rfl) rfl ?_
    refine Rg_opx rfl (asB_ne rfl rfl) rfl ?_
    refine Rg_opx rfl (asB_ne rfl rfl) rfl ?_
    refine Rg_op rfl (op_pick_f (v := (Value.bool false)) rfl rfl ?_)
    refine Rg_op rfl (op_assign (v := (Value.bool false)) rfl ?_)
    refine Rg_nil ?_
    refine Wp_ret ?_
    have hz := step_all hs4
    replace f_d_sectors := f_d_sectors.step hz
    replace f_d_pending := f_d_pending.step hz
    refine ⟨_, (show Closes [] _ _ from rfl), [(Value.bool false)], ⟨rfl, trivial⟩, hs4.ext, ?_⟩
    exact Vr.eq (a := vB) (x := false) rfl (Option.some.inj hm)

end Go.Fx


set_option linter.unusedVariables false
set_option linter.unusedSimpArgs false
set_option maxRecDepth 100000
set_option maxHeartbeats 0
namespace Go.Fx
open Go Go.RowKit Go.Proofs
def m49_api_Write_ (s : List XWrite) : Option (List XWrite) :=
  ck ((0 : Int) ≤ (s.length : Int) ∧ (s.length : Int) ≤ (s.length : Int)) <|
  some ((s.drop 0).take (s.length - 0))

theorem c49_api_Write_ {w : World} {O : List Nat} {s : List XWrite} {a_s : Option Addr} {c_s : Nat} (hO : ∀ k ∈ O, k < w.heap.size) (f_s : SlR rXWrite w O a_s c_s s) {x : (List XWrite)} (hm : m49_api_Write_ s = some x) :
    Ok Try.prog 49 [(Value.slice a_s s.length c_s)] w O (vCl rXWrite) x := by
  unfold m49_api_Write_ at hm
  refine Fn_of_Wp (n := 9) (xs := [.tmp 2]) Try.func49 rfl Try.ntmps49 Try.results49 rfl ?_
  have hs := St.start hO
  refine Wp_seq ?_
  refine Wp_region ?_  -- 0 slices.go:435
  refine Rg_op rfl (op_assign (v := (Value.slice none 0 0)) rfl ?_)
  refine Rg_nil ?_
  refine Wp_seq ?_
  refine Wp_region ?_  -- 1 slices.go:436
  refine Rg_op rfl (op_move (v := (Value.slice a_s s.length c_s)) rfl ?_)
  refine Rg_op rfl (op_move (v := (Value.slice a_s s.length c_s)) rfl ?_)
  refine Rg_op rfl (op_len Try.underlying23 rfl ?_)
  refine Rg_op rfl (op_move (v := (Value.slice a_s s.length c_s)) rfl ?_)
  refine Rg_op rfl (op_len Try.underlying23 rfl ?_)
  replace hm := ck_some hm; obtain ⟨hc1, hm⟩ := hm
  refine Rg_op rfl (op_slice (q := rXWrite) (l := 0) (h := s.length) (m := s.length) ty23 ty73 rfl f_s rfl rfl (bndI rfl (by omega)) (bndI rfl (by omega)) (by decide) (by omega) (by omega) (by have := f_s.le; omega) (by have := f_s.le; omega) ?_)
  intro a2 f3
  refine Rg_op rfl (op_assign (v := (Value.slice a2 ((s.drop 0).take (s.length - 0)).length (s.length - 0))) rfl ?_)
  refine Rg_nil ?_
  refine Wp_ret ?_
  have hz := step_all hs
  replace f_s := f_s.step hz
  replace f3 := f3.step hz
  refine ⟨_, (show Closes [] _ _ from rfl), [(Value.slice a2 ((s.drop 0).take (s.length - 0)).length (s.length - 0))], ⟨rfl, trivial⟩, hs.ext, ?_⟩
  exact Vr.eq (a := (vCl rXWrite)) (x := ((s.drop 0).take (s.length - 0))) (mkCl f3 (by simp)) (Option.some.inj hm)

end Go.Fx


set_option linter.unusedVariables false
set_option linter.unusedSimpArgs false
set_option maxRecDepth 100000
set_option maxHeartbeats 0
namespace Go.Fx
open Go Go.RowKit Go.Proofs
def m50_api_Write_ (s : List XWrite) : Option (List XWrite) :=
  ck ((([] : List XWrite).length + s.length) * 32 ≤ 140737488355328) <|
  some (([] : List XWrite) ++ s)

theorem g50_api_Write_ {w : World} {O : List Nat} {s : List XWrite} {a_s : Option Addr} {c_s : Nat} (hO : ∀ k ∈ O, k < w.heap.size) (f_s : SlR rXWrite w O a_s c_s s) {x : (List XWrite)} (hm : m50_api_Write_ s = some x) :
    OkG Try.prog 50 [(Value.slice a_s s.length c_s)] w O rXWrite 73 x := by
  unfold m50_api_Write_ at hm
  refine Fn_of_Wp (n := 8) (xs := [.tmp 2]) Try.func50 rfl Try.ntmps50 Try.results50 rfl ?_
  have hs := St.start hO
  refine Wp_seq ?_
  refine Wp_region ?_  -- 0 slices.go:355
  refine Rg_op rfl (op_assign (v := (Value.slice none 0 0)) rfl ?_)
  refine Rg_nil ?_
  refine Wp_seq ?_
  refine Wp_seq ?_
  refine Wp_region ?_  -- 1 slices.go:357
  refine Rg_op rfl (op_move (v := (Value.slice a_s s.length c_s)) rfl ?_)
  refine Rg_op rfl (op_eqnil Try.underlying23 rfl rfl ?_)
  refine Rg_nil ?_
  rcases a_s with _ | ad1
  ·
    have hnil2 := (f_s.nil rfl).1
    refine Wp_cond_t rfl ?_
    refine Wp_seq ?_
    clear f_s
    refine Wp_region ?_  -- 2 slices.go:358
    refine Rg_op rfl (op_assign (v := (Value.slice none 0 0)) rfl ?_)
    refine Rg_nil ?_
    refine Wp_ret ?_
    refine ⟨_, (show Closes [] _ _ from rfl), [(Value.slice none 0 0)], ⟨rfl, trivial⟩, hs.ext, ?_⟩
    exact OkG.mkNil (by simp [ck, hnil2] at hm; first | exact hm | (subst hm; simp [hnil2]) | simpa using hm)
  ·
    refine Wp_cond_f rfl ?_
    refine Wp_skip ?_
    refine Wp_seq ?_
    refine Wp_region ?_  -- 3 slices.go:362
    refine Rg_op rfl (op_buildSlice (cs := []) (parts := []) ty23 ty73 hs (by decide) rfl ?_)
    intro b3 w4 hx7 p5 hs6
    replace f_s := f_s.step p5
    clear p5
    refine Rg_op rfl (op_move (v := (Value.slice (some ad1) s.length c_s)) rfl ?_)
    have f9 := Gs.of_cells (p := rXWrite) (e := 73) (bl := b3) (c := 0) (w := w4) (O := ks [(some b3, Obj.cells [].toArray 73)] O) (show Els rXWrite _ _ [] [] from Els.nil) rfl (le_lit rfl)
    replace hm := ck_some hm; obtain ⟨hc10, hm⟩ := hm
    obtain ⟨ns11, he12, hr13⟩ := f_s.src
    refine Rg_op rfl (op_append (q := rXWrite) (i := 0) (xs := ([] : List XWrite)) (ys := s) (news := ns11) ty23 ty73 rfl (by decide) hs6 rfl rfl f9 rfl hr13 he12 hc10 (by have := hc10; simp only [maxLen]; omega) ?_)
    intro a17 c18 k19 o20 w14 p15 hs16 f21
    replace f_s := f_s.step p15
    clear p15 hs6
    refine Rg_op rfl (op_assign (v := (Value.slice a17 (([] : List XWrite) ++ s).length c18)) rfl ?_)
    refine Rg_nil ?_
    refine Wp_ret ?_
    refine ⟨_, (show Closes [] _ _ from rfl), [(Value.slice a17 (([] : List XWrite) ++ s).length c18)], ⟨rfl, trivial⟩, hs16.ext, ?_⟩
    exact OkG.mk (i := 0) hs16 rfl f21 (Option.some.inj hm)
theorem c50_api_Write_ {w : World} {O : List Nat} {s : List XWrite} {a_s : Option Addr} {c_s : Nat} (hO : ∀ k ∈ O, k < w.heap.size) (f_s : SlR rXWrite w O a_s c_s s) {x : (List XWrite)} (hm : m50_api_Write_ s = some x) :
    Ok Try.prog 50 [(Value.slice a_s s.length c_s)] w O (vC (rSl rXWrite)) x :=
  (g50_api_Write_ hO f_s hm).ok hO

end Go.Fx

