/- The cycles of an assignment move each flight that leaves its own slot once, and no other. -/
import Derived.Test.YtnenhpedfcngbaaMoves4
import Derived.Test.YtnenhpedfcngbaaRows
import Derived.WalkKit
import Derived.ShutString
/- Chapter 38: values, assignments, the best one. -/
set_option linter.unusedSimpArgs false
set_option linter.unusedVariables false
namespace Go.Fx
open Go Go.RowKit
/-- by the first place that differs -/
def lexC : List Int → List Int → Int
  | [], [] => 0
  | [], _ :: _ => -1
  | _ :: _, [] => 1
  | x :: s, y :: t => if x < y then -1 else if y < x then 1 else lexC s t
end Go.Fx
/- Chapter 38: the best assignment. -/
set_option linter.unusedSimpArgs false
set_option linter.unusedVariables false
namespace Go.Fx
open Go Go.RowKit
def btr (v : List Int → List Int) : Option (List Int) → List Int → Bool
  | none, _ => true
  | some y, x => decide (lexC (v x) (v y) < 0)
/-- the first of the least that are allowed -/
def pick (v : List Int → List Int) (p : List Int → Bool) : Option (List Int) → List (List Int) → Option (List Int)
  | acc, [] => acc
  | acc, x :: t => pick v p (bif btr v acc x && p x then some x else acc) t
theorem m11_eq (r : XRound) (hr : smXRound r) : m11_overflightref38_Few r = some (fewB r && (decide ((r.owners.length : Int) ≤ 5) && decide (r.slots ≤ 6))) := by
  unfold m11_overflightref38_Few
  rw [m29_eq r hr]
  cases fewB r
  · rfl
  · rw [Option.bind_some, cond_true]
    cases decide ((r.owners.length : Int) ≤ 5) <;> rfl
end Go.Fx
set_option linter.unusedVariables false
set_option linter.unusedSimpArgs false
set_option maxRecDepth 100000
set_option maxHeartbeats 0
namespace Go.Fx
open Go Go.RowKit Go.Proofs
def m59_overflightref38_flightWith_B0 (slots : List Int) (slot : Int) (sf3 : Int → Option Int) (i_1 : Int) : Option Int :=
 bif (decide (i_1 < (slots.length : Int))) then
  ck ((0 : Int) ≤ i_1 ∧ i_1 < (slots.length : Int)) <|
  bif (decide ((slots.getD i_1.toNat default) = slot)) then
   some i_1
  else
   sf3 (IntKind.wrap .i64 (i_1 + 1))
 else
  some (-1)

def m59_overflightref38_flightWith (slots : List Int) (slot : Int) : Option Int :=
 loop1 (m59_overflightref38_flightWith_B0 slots slot) (((slots.length : Int) - 0).toNat + 1) 0

def m36_overflightref38_follow_B0 (slots : List Int) (first : Int) (sf18 : (List Int) → Int → Option (List Int)) (l_1 : List Int) (next_1 : Int) : Option (List Int) :=
 jn (fun (v_1 : Bool) =>
  bif v_1 then
   ck ((l_1.length + [next_1].length) * 8 ≤ 140737488355328) <|
   (m59_overflightref38_flightWith slots next_1).bind fun flightwith_2 =>
   sf18 (l_1 ++ [next_1]) flightwith_2
  else
   some l_1)
 (fun k31 =>
  bif (decide (0 ≤ next_1)) then
   k31 (decide (next_1 ≠ first))
  else
   k31 false)

def m36_overflightref38_follow (slots : List Int) (first : Int) : Option (List Int) :=
 (m59_overflightref38_flightWith slots first).bind fun flightwith_1 =>
 loop2 (m36_overflightref38_follow_B0 slots first) (1000000) [first] flightwith_1

def m37_overflightref38_least_B0 (l : List Int) (sf10 : Int → Int → Option Int) (n_1 : Int) (i_1 : Int) : Option Int :=
 bif (decide (i_1 < (l.length : Int))) then
  ck ((0 : Int) ≤ i_1 ∧ i_1 < (l.length : Int)) <|
  sf10 (min n_1 (l.getD i_1.toNat default)) (IntKind.wrap .i64 (i_1 + 1))
 else
  some n_1

def m37_overflightref38_least (l : List Int) : Option Int :=
 ck ((0 : Int) ≤ 0 ∧ 0 < (l.length : Int)) <|
 loop2 (m37_overflightref38_least_B0 l) (((l.length : Int) - 0).toNat + 1) (l.getD 0 default) 0

def m15_overflightref38_Cycles_B1 (slots : List Int) (i_1 : Int) (sf32 : (List (List Int)) → Int → Option ((List (List Int)) × Int)) (sf47 : (List (List Int)) → Int → Option ((List (List Int)) × Int)) (out_2 : List (List Int)) (first_1 : Int) : Option ((List (List Int)) × Int) :=
 bif (decide (first_1 < (slots.length : Int))) then
  (m36_overflightref38_follow slots first_1).bind fun follow_1 =>
  ck ((0 : Int) ≤ first_1 ∧ first_1 < (slots.length : Int)) <|
  jn (fun (cycle_1 : Bool) =>
   jn (fun (v_1 : Bool) =>
    bif v_1 then
     ck ((out_2.length + [follow_1].length) * 24 ≤ 140737488355328) <|
     sf47 (out_2 ++ [follow_1]) (IntKind.wrap .i64 (first_1 + 1))
    else
     sf47 out_2 (IntKind.wrap .i64 (first_1 + 1)))
   (fun k90 =>
    (m37_overflightref38_least follow_1).bind fun least_1 =>
    bif (decide (least_1 = i_1)) then
     bif (decide ((slots.length : Int) ≤ (slots.getD first_1.toNat default))) then
      k90 true
     else
      k90 cycle_1
    else
     k90 false))
  (fun k80 =>
   ck ((0 : Int) ≤ 0 ∧ 0 < (follow_1.length : Int)) <|
   ck ((0 : Int) ≤ (follow_1.getD 0 default) ∧ (follow_1.getD 0 default) < (slots.length : Int)) <|
   ck ((0 : Int) ≤ (IntKind.wrap .i64 ((follow_1.length : Int) - 1)) ∧ (IntKind.wrap .i64 ((follow_1.length : Int) - 1)) < (follow_1.length : Int)) <|
   bif (decide ((slots.getD (follow_1.getD 0 default).toNat default) = (follow_1.getD (IntKind.wrap .i64 ((follow_1.length : Int) - 1)).toNat default))) then
    bif (decide (first_1 = i_1)) then
     k80 (decide (1 < (follow_1.length : Int)))
    else
     k80 false
   else
    k80 false)
 else
  sf32 out_2 (IntKind.wrap .i64 (i_1 + 1))

def m15_overflightref38_Cycles_B0 (slots : List Int) (sf32 : (List (List Int)) → Int → Option ((List (List Int)) × Int)) (out_1 : List (List Int)) (i_1 : Int) : Option ((List (List Int)) × Int) :=
 bif (decide (i_1 < (slots.length : Int))) then
  loop2 (m15_overflightref38_Cycles_B1 slots i_1 sf32) (((slots.length : Int) - 0).toNat + 1) out_1 0
 else
  some (out_1, 0)

end Go.Fx
/- Chapter 38: the cycles of all short assignments, by computation. -/
set_option linter.unusedSimpArgs false
set_option linter.unusedVariables false
namespace Go.Fx
open Go Go.RowKit
def core14 (s : List Int) : Option ((List (List Int)) × Int) := loop2 (m14_clearing_Cycles_B0 s) (((s.length : Int) - 0).toNat + 1) 0 ([] : List (Int × Int))
def core15 (s : List Int) : Option ((List (List Int)) × Int) := loop2 (m15_overflightref38_Cycles_B0 s) (((s.length : Int) - 0).toNat + 1) [] 0
def core7 (s : List Int) (c : (List (List Int)) × Int) : Option Bool := loop3 (m7_overflightlaw38_ClearingMoves_B0 s c) (((c.1.length : Int) - 0).toNat + 1) (-1) 0 ([] : List (Int × Bool))
def chkC (s : List Int) : Bool := match core14 s, core15 s with
  | some a, some b => a.2 == 0 && (b.2 == 0 && (m17_overflightref38_SameLists a.1 b.1 == some true && core7 s a == some true))
  | _, _ => false
def tupL (k : Nat) (b : List Int) : List (List Int) := dv [0, 1, 2, 3, 4, 5] (fun _ _ => true) k b
theorem tup0 : (tupL 0 []).all chkC = true := by decide +kernel
theorem tup1 : (tupL 1 []).all chkC = true := by decide +kernel
theorem tup2 : (tupL 2 []).all chkC = true := by decide +kernel
theorem tup3 : (tupL 3 []).all chkC = true := by decide +kernel
theorem tup4_0 : (tupL 3 [0]).all chkC = true := by decide +kernel
theorem tup4_1 : (tupL 3 [1]).all chkC = true := by decide +kernel
theorem tup4_2 : (tupL 3 [2]).all chkC = true := by decide +kernel
theorem tup4_3 : (tupL 3 [3]).all chkC = true := by decide +kernel
theorem tup4_4 : (tupL 3 [4]).all chkC = true := by decide +kernel
theorem tup4_5 : (tupL 3 [5]).all chkC = true := by decide +kernel
theorem tup5_0 : (tupL 4 [0]).all chkC = true := by decide +kernel
theorem tup5_1 : (tupL 4 [1]).all chkC = true := by decide +kernel
theorem tup5_2 : (tupL 4 [2]).all chkC = true := by decide +kernel
theorem tup5_3 : (tupL 4 [3]).all chkC = true := by decide +kernel
theorem tup5_4 : (tupL 4 [4]).all chkC = true := by decide +kernel
theorem tup5_5 : (tupL 4 [5]).all chkC = true := by decide +kernel
theorem tup_step {k : Nat} (h0 : (tupL k [0]).all chkC = true) (h1 : (tupL k [1]).all chkC = true) (h2 : (tupL k [2]).all chkC = true) (h3 : (tupL k [3]).all chkC = true) (h4 : (tupL k [4]).all chkC = true) (h5 : (tupL k [5]).all chkC = true) : (tupL (k + 1) []).all chkC = true := by
  unfold tupL at *
  unfold dv
  rw [List.all_flatMap, List.all_eq_true]
  have e : ∀ s : Int, (![].contains s) = true := fun s => rfl
  intro s hs
  simp only [List.nil_append, e, Bool.true_and, cond_true]
  rcases List.mem_cons.1 hs with rfl | hs
  · exact h0
  rcases List.mem_cons.1 hs with rfl | hs
  · exact h1
  rcases List.mem_cons.1 hs with rfl | hs
  · exact h2
  rcases List.mem_cons.1 hs with rfl | hs
  · exact h3
  rcases List.mem_cons.1 hs with rfl | hs
  · exact h4
  rcases List.mem_cons.1 hs with rfl | hs
  · exact h5
  · cases hs
theorem tup_all {n : Nat} (h : n ≤ 5) : (tupL n []).all chkC = true := by
  have hn : n = 0 ∨ n = 1 ∨ n = 2 ∨ n = 3 ∨ n = 4 ∨ n = 5 := by omega
  rcases hn with rfl | rfl | rfl | rfl | rfl | rfl
  · exact tup0
  · exact tup1
  · exact tup2
  · exact tup3
  · exact tup_step tup4_0 tup4_1 tup4_2 tup4_3 tup4_4 tup4_5
  · exact tup_step tup5_0 tup5_1 tup5_2 tup5_3 tup5_4 tup5_5
theorem chk_asg {r : XRound} {s : List Int} (h5 : r.owners.length ≤ 5) (h6 : r.slots ≤ 6) (h : asgB r s = true) : chkC s = true := by
  obtain ⟨h1, h2⟩ := asg_props h
  refine List.all_eq_true.1 (tup_all (n := s.length) (by omega)) s ?_
  unfold tupL
  rw [mem_dv]
  refine ⟨s, by simp, rfl, gd_get.2 fun i hi => ?_⟩
  obtain ⟨b1, b2, b3, b4⟩ := h2 i hi
  refine ⟨?_, rfl, by simp, b4⟩
  generalize s.getD i default = x at b1 b2
  have : x = 0 ∨ x = 1 ∨ x = 2 ∨ x = 3 ∨ x = 4 ∨ x = 5 := by omega
  rcases this with rfl | rfl | rfl | rfl | rfl | rfl <;> simp
theorem core_asg {r : XRound} {s : List Int} (h5 : r.owners.length ≤ 5) (h6 : r.slots ≤ 6) (h : asgB r s = true) :
    ∃ A B, core14 s = some (A, 0) ∧ core15 s = some (B, 0) ∧ m17_overflightref38_SameLists A B = some true ∧ core7 s (A, 0) = some true := by
  have hc := chk_asg h5 h6 h
  unfold chkC at hc
  cases h14 : core14 s with
  | none => rw [h14] at hc; cases hc
  | some a =>
    cases h15 : core15 s with
    | none => rw [h14, h15] at hc; cases hc
    | some b =>
      rw [h14, h15] at hc
      simp only [Bool.and_eq_true, beq_iff_eq] at hc
      obtain ⟨c1, c2, c3, c4⟩ := hc
      obtain ⟨a1, a2⟩ := a
      obtain ⟨b1, b2⟩ := b
      simp only at c1 c2 c3
      subst c1 c2
      exact ⟨a1, b1, rfl, rfl, c3, c4⟩
end Go.Fx
/- ClearingMoves. -/
set_option linter.unusedSimpArgs false
set_option linter.unusedVariables false
namespace Go.Fx
open Go Go.RowKit
theorem few_props' {r : XRound} (h : (fewB r && (decide ((r.owners.length : Int) ≤ 5) && decide (r.slots ≤ 6))) = true) : r.owners.length ≤ 5 ∧ r.slots ≤ 6 := by
  simp only [Bool.and_eq_true, decide_eq_true_eq] at h
  omega
theorem ClearingMoves_law (r : XRound) (s : List Int) (hr : smXRound r) (hs : SmL (InK .i64) s) : m7_overflightlaw38_ClearingMoves r s = some true := by
  have ls : s.length < 9223372036854775807 := by have := hs.1; omega
  unfold m7_overflightlaw38_ClearingMoves
  rw [sane38, m11_eq r hr]
  simp only [Option.bind_some, Bool.not_true, cond_false, jn_eq]
  cases hfew : (fewB r && (decide ((r.owners.length : Int) ≤ 5) && decide (r.slots ≤ 6)))
  · rfl
  obtain ⟨n5, n6⟩ := few_props' hfew
  simp only [Bool.not_true, cond_false]
  cases decide (20 < (s.length : Int))
  rotate_left
  · rfl
  simp only [cond_false]
  have e14 : m14_clearing_Cycles r s = bif goodB r s then core14 s else some ([], 370) := by
    unfold m14_clearing_Cycles
    rw [m22_eq r s hr ls]
    cases goodB r s <;> rfl
  rw [e14]
  cases hg : goodB r s
  · rfl
  · obtain ⟨A, B, h1, h2, h3, h4⟩ := core_asg n5 n6 (good_props hg).2
    simp only [cond_true, h1, Option.bind_some, ne_eq, not_true_eq_false, decide_false, cond_false]
    exact h4
end Go.Fx
namespace Go.Proofs.Ytnenhpedfcngbaa.lawClearingMoves
open Go Go.Proofs Go.ChangeShapes Go.WideShapes Go.ChangeAt Go.RowKit Go.Fx
open Go.ChangeMaps (open_string shut_string)
set_option linter.unusedVariables false
set_option maxRecDepth 100000
theorem own : ownKnob Try.prog.godebug = none := by kernel_rfl
theorem laidOut : laidOutB Try.prog = true := by kernel_rfl
set_option maxRecDepth 100000 in
set_option maxHeartbeats 1000000 in
theorem lifted (os : Os) (started : os.Started) (H : Type) (enc : TypeId × Value → H) :
    ReturnsInHanded {} Try.checked os 7 .any (Rows.clearingMovesSpec.pre6 enc Try.prog Try.f7 Rows.clearingMovesRow.domain false) (Rows.clearingMovesSpec.post enc Try.prog Try.f7 false true false false) := by
  refine returnsInHanded_of_change_sized (C := Try.checked) own started (by kernel_rfl) Try.func7
    (ChangeSpec.witness6 (enc := enc) (C := Try.checked) false ⟨#[], #[.agg #[(.int .i64 0), (.slice none 0 0), (.slice none 0 0)], (.slice none 0 0)], []⟩ 8 (by kernel_rfl) (by kernel_rfl) (by kernel_rfl) (by kernel_rfl)) ?_
  intro W base args ds gs before hval0 hW hcnd hsz _
  have hval : ∀ (j : Nat) t v, Try.f7.params[j]? = some t → args[j]? = some v → Value.okWide Try.prog W .any base t v := hval0
  have hW' := hW
  obtain ⟨p, q, hA0, hV, rfl, hfz, hnd⟩ := hW
  have hA : DataW.TrodAll enc Try.prog W 0 (fun _ => true) true Try.f7.params.toList args.toList ds p := hA0
  rw [Try.params7] at hA hval
  obtain ⟨v0, vs0, d0, ds0, p0, q0, hargs, rfl, rfl, h0, r0⟩ := trodAll_cons hA
  obtain ⟨v1, vs1, d1, ds1, p1, q1, rfl, rfl, rfl, h1, r1⟩ := trodAll_cons r0
  obtain ⟨rfl, rfl, rfl⟩ := trodAll_nil r1
  obtain rfl : args = #[v0, v1] := by cases args; simp_all
  obtain ⟨rfl, rfl⟩ := trodVars_none hV
  have k0 := h0
  have lt0 : ∀ x ∈ p0, x.block < W.heap.size := by obtain ⟨m, hm⟩ := k0; exact DataW.trod_lt m _ _ _ hm
  obtain ⟨fu0, hf0⟩ := h0
  obtain ⟨r_, rr0, sm0⟩ := rd25.2 _ _ _ hf0
  replace sm0 := sm0 (fun n hn => by have := List.all_eq_true.1 hsz n (DataW.weights_mem_each (j := 0) (t := 25) rfl rfl n hn); simpa using this)
  obtain ⟨⟨cs0⟩, rfl, _⟩ := okWide_struct Try.underlying25 (hval 0 25 v0 rfl rfl)
  replace rr0 : rXRound.rd W [] cs0 r_ := rr0
  obtain ⟨_, _, rfl, ⟨rfl, r_r__slots⟩, ⟨_, _, rfl, ⟨a_r__owners, c_r__owners, rfl, f_r__owners⟩, ⟨a_r__costs, c_r__costs, rfl, f_r__costs⟩⟩⟩ := rr0
  have k1 := h1
  have lt1 : ∀ x ∈ p1, x.block < W.heap.size := by obtain ⟨m, hm⟩ := k1; exact DataW.trod_lt m _ _ _ hm
  obtain ⟨fu1, hf1⟩ := h1
  obtain ⟨slots, rr1, sm1⟩ := rd22.2 _ _ _ hf1
  replace sm1 := sm1 (fun n hn => by have := List.all_eq_true.1 hsz n (DataW.weights_mem_each (j := 1) (t := 22) rfl rfl n hn); simpa using this)
  obtain ⟨b1, l1, c1, rfl⟩ := okWide_slice Try.underlying22 (hval 1 22 v1 rfl rfl)
  replace rr1 : (rSl (rInt .i64)).rd W [] [.slice b1 l1 c1] slots := rr1
  obtain ⟨a_slots, c_slots, e1, f_slots⟩ := un_sl rr1
  simp only [Value.slice.injEq] at e1
  obtain ⟨rfl, rfl, rfl⟩ := e1
  have hm : m7_overflightlaw38_ClearingMoves r_ slots = some true := ClearingMoves_law _ _ sm0 sm1
  have hc := Fn.calls (c7_overflightlaw38_ClearingMoves (r_ := r_) (slots := slots) (w := W) (O := []) (by simp) r_r__slots f_r__owners f_r__costs f_slots hm)
  clear hA0 hval0
  refine Calls.mono hc ?_
  rintro e W' ⟨v, rfl, bel, hv⟩
  replace bel := bel.below; obtain rfl : v = .bool true := hv
  exact ⟨_, rfl, _, _, _, [], _, [], hW', trodAll_mk1 (shut_bool Try.underlying4 _), (trodAll_cons_mk (Below.trod laidOut (by kernel_rfl) (of_decide_eq_true (by kernel_rfl)) k0 bel lt0) (trodAll_cons_mk (Below.trod laidOut (by kernel_rfl) (of_decide_eq_true (by kernel_rfl)) k1 bel lt1) trodAll_mk0)), rfl, bel.frame _, fun h => by cases h⟩
theorem over : Rows.clearingMovesRow.holds Try.pinned (OpenSpec.ofChange Rows.clearingMovesSpec) :=
  OpenClaim.holds_of_wide 7 Try.f7 rfl rfl rfl rfl rfl rfl rfl ⟨rfl, rfl, rfl, rfl, rfl⟩ rfl rfl rfl rfl rfl (by kernel_rfl) Try.func7 (by kernel_rfl)
    (of_decide_eq_true (by kernel_rfl)) (by unfold Func.isWrapper; first | (rw [if_pos (by decide +kernel)]; kernel_rfl) | (rw [if_neg (by decide +kernel)]; exact ⟨rfl, rfl⟩))
    (fun os started H enc _ => lifted os started H enc)
theorem proved : Rows.ClearingMovesSaid := over
end Go.Proofs.Ytnenhpedfcngbaa.lawClearingMoves
