/-
  No cell of these rows narrows 'for every input' (looked for: loops, veiled, ifaces, maps, wideKeys, modest, calm, conditions, laid).
  DERIVED. THE GIVEN ROWS OF THIS SEAT. 8 by the template 'for every input the law returns true; each argument reads behind the call as it read before'; 0 by the template 'total and deterministic' (their statements: YtolafciahogceaaTotals.lean).
  GIVEN WITH THE SEED: the statements are not yours to turn. If you find one false, say at which input.
  Laid BY PROGRAM, IN A SANDBOX (cutbox-rows.mjs): the forced cells as the released guide's own fill.sh prints them over the translation 011c1eb63831b222… (all of the seat's roots in one cut). By AI agents, Wed Nov 11 2026. No macro, syntax, notation, axiom, sorry.
-/
import Derived.Test.YtolafciahogceaaChecked
import GoSem.Claim
import GoSem.ClaimJoined
import GoSem.ClaimMapViews
import Derived.JoinedTies
import Derived.KernelRfl
namespace Go.Proofs.Ytolafciahogceaa
/- THE CELL 'sum', in the pinned program and in every row, IS THE sha256 OF THE DUMP (.gsa) THAT YtolafciahogceaaProg.lean LOADS. Nothing in Lean hashes anything: it is a label: what it is worth is what the hold of that sum in a sandbox is worth. -/
noncomputable def Try.pinned : Pinned := { name := "ytolafciahogceaa", sum := "011c1eb63831b2221e18fc099833208b884ec73986b14e49e73e5152e7e0b37b", checked := Try.checked }
namespace Rows
def none {H : Type} : Left H := { results := [], args := [] }

/-- 'overflightlaw10.ConfigsCheckSpec': WHATEVER THE INPUT: true; the input reads as it did. -/
def configsCheckSpecSpec : ChangeSpec := { name := "configsCheckSpec", fn := fun _ => fun
  | [d1, d2, d3] => { results := [.lit (.bool true)], args := [d1, d2, d3] }
  | _ => none }
def configsCheckSpecRow : OpenClaim := { program := "ytolafciahogceaa", sum := "011c1eb63831b2221e18fc099833208b884ec73986b14e49e73e5152e7e0b37b", func := "overflight/overflightlaw10.ConfigsCheckSpec", spec := "configsCheckSpec", unfollowed := true, recurses := true, apart := false }
def ConfigsCheckSpecSaid : Prop := configsCheckSpecRow.holds Try.pinned (OpenSpec.ofChange configsCheckSpecSpec)

/-- ITS FALSE NEIGHBOUR: 'it returns false'. Refute it at one input. -/
def configsCheckSpecWrong : ChangeSpec := { name := "configsCheckSpec", fn := fun _ => fun
  | [d1, d2, d3] => { results := [.lit (.bool false)], args := [d1, d2, d3] }
  | _ => none }
def ConfigsCheckSpecWrongFalsely : Prop := configsCheckSpecRow.holds Try.pinned (OpenSpec.ofChange configsCheckSpecWrong)

/-- 'overflightlaw10.ConfigsStepSpec': WHATEVER THE INPUT: true; the input reads as it did. -/
def configsStepSpecSpec : ChangeSpec := { name := "configsStepSpec", fn := fun _ => fun
  | [d1, d2, d3] => { results := [.lit (.bool true)], args := [d1, d2, d3] }
  | _ => none }
def configsStepSpecRow : OpenClaim := { program := "ytolafciahogceaa", sum := "011c1eb63831b2221e18fc099833208b884ec73986b14e49e73e5152e7e0b37b", func := "overflight/overflightlaw10.ConfigsStepSpec", spec := "configsStepSpec", unfollowed := true, recurses := true, apart := false }
def ConfigsStepSpecSaid : Prop := configsStepSpecRow.holds Try.pinned (OpenSpec.ofChange configsStepSpecSpec)

/-- ITS FALSE NEIGHBOUR: 'it returns false'. Refute it at one input. -/
def configsStepSpecWrong : ChangeSpec := { name := "configsStepSpec", fn := fun _ => fun
  | [d1, d2, d3] => { results := [.lit (.bool false)], args := [d1, d2, d3] }
  | _ => none }
def ConfigsStepSpecWrongFalsely : Prop := configsStepSpecRow.holds Try.pinned (OpenSpec.ofChange configsStepSpecWrong)

/-- 'overflightlaw10.ConfigsPathSpec': WHATEVER THE INPUT: true; the input reads as it did. -/
def configsPathSpecSpec : ChangeSpec := { name := "configsPathSpec", fn := fun _ => fun
  | [d1, d2, d3] => { results := [.lit (.bool true)], args := [d1, d2, d3] }
  | _ => none }
def configsPathSpecRow : OpenClaim := { program := "ytolafciahogceaa", sum := "011c1eb63831b2221e18fc099833208b884ec73986b14e49e73e5152e7e0b37b", func := "overflight/overflightlaw10.ConfigsPathSpec", spec := "configsPathSpec", unfollowed := true, recurses := true, apart := false }
def ConfigsPathSpecSaid : Prop := configsPathSpecRow.holds Try.pinned (OpenSpec.ofChange configsPathSpecSpec)

/-- ITS FALSE NEIGHBOUR: 'it returns false'. Refute it at one input. -/
def configsPathSpecWrong : ChangeSpec := { name := "configsPathSpec", fn := fun _ => fun
  | [d1, d2, d3] => { results := [.lit (.bool false)], args := [d1, d2, d3] }
  | _ => none }
def ConfigsPathSpecWrongFalsely : Prop := configsPathSpecRow.holds Try.pinned (OpenSpec.ofChange configsPathSpecWrong)

/-- 'overflightlaw10.ConfigsUndone': WHATEVER THE INPUT: true; the input reads as it did. -/
def configsUndoneSpec : ChangeSpec := { name := "configsUndone", fn := fun _ => fun
  | [d1, d2, d3] => { results := [.lit (.bool true)], args := [d1, d2, d3] }
  | _ => none }
def configsUndoneRow : OpenClaim := { program := "ytolafciahogceaa", sum := "011c1eb63831b2221e18fc099833208b884ec73986b14e49e73e5152e7e0b37b", func := "overflight/overflightlaw10.ConfigsUndone", spec := "configsUndone", unfollowed := true, recurses := true, apart := false }
def ConfigsUndoneSaid : Prop := configsUndoneRow.holds Try.pinned (OpenSpec.ofChange configsUndoneSpec)

/-- ITS FALSE NEIGHBOUR: 'it returns false'. Refute it at one input. -/
def configsUndoneWrong : ChangeSpec := { name := "configsUndone", fn := fun _ => fun
  | [d1, d2, d3] => { results := [.lit (.bool false)], args := [d1, d2, d3] }
  | _ => none }
def ConfigsUndoneWrongFalsely : Prop := configsUndoneRow.holds Try.pinned (OpenSpec.ofChange configsUndoneWrong)

/-- 'overflightlaw10.ConfigsWalk': WHATEVER THE INPUT: true; the input reads as it did. -/
def configsWalkSpec : ChangeSpec := { name := "configsWalk", fn := fun _ => fun
  | [d1, d2, d3] => { results := [.lit (.bool true)], args := [d1, d2, d3] }
  | _ => none }
def configsWalkRow : OpenClaim := { program := "ytolafciahogceaa", sum := "011c1eb63831b2221e18fc099833208b884ec73986b14e49e73e5152e7e0b37b", func := "overflight/overflightlaw10.ConfigsWalk", spec := "configsWalk", unfollowed := true, recurses := true, apart := false }
def ConfigsWalkSaid : Prop := configsWalkRow.holds Try.pinned (OpenSpec.ofChange configsWalkSpec)

/-- ITS FALSE NEIGHBOUR: 'it returns false'. Refute it at one input. -/
def configsWalkWrong : ChangeSpec := { name := "configsWalk", fn := fun _ => fun
  | [d1, d2, d3] => { results := [.lit (.bool false)], args := [d1, d2, d3] }
  | _ => none }
def ConfigsWalkWrongFalsely : Prop := configsWalkRow.holds Try.pinned (OpenSpec.ofChange configsWalkWrong)

/-- 'overflightlaw10.ConfigsClasses': WHATEVER THE INPUT: true; the input reads as it did. -/
def configsClassesSpec : ChangeSpec := { name := "configsClasses", fn := fun _ => fun
  | [d1, d2, d3] => { results := [.lit (.bool true)], args := [d1, d2, d3] }
  | _ => none }
def configsClassesRow : OpenClaim := { program := "ytolafciahogceaa", sum := "011c1eb63831b2221e18fc099833208b884ec73986b14e49e73e5152e7e0b37b", func := "overflight/overflightlaw10.ConfigsClasses", spec := "configsClasses", unfollowed := true, recurses := true, apart := false }
def ConfigsClassesSaid : Prop := configsClassesRow.holds Try.pinned (OpenSpec.ofChange configsClassesSpec)

/-- ITS FALSE NEIGHBOUR: 'it returns false'. Refute it at one input. -/
def configsClassesWrong : ChangeSpec := { name := "configsClasses", fn := fun _ => fun
  | [d1, d2, d3] => { results := [.lit (.bool false)], args := [d1, d2, d3] }
  | _ => none }
def ConfigsClassesWrongFalsely : Prop := configsClassesRow.holds Try.pinned (OpenSpec.ofChange configsClassesWrong)

/-- 'overflightlaw10.ConfigsStuck': WHATEVER THE INPUT: true; the input reads as it did. -/
def configsStuckSpec : ChangeSpec := { name := "configsStuck", fn := fun _ => fun
  | [d] => { results := [.lit (.bool true)], args := [d] }
  | _ => none }
def configsStuckRow : OpenClaim := { program := "ytolafciahogceaa", sum := "011c1eb63831b2221e18fc099833208b884ec73986b14e49e73e5152e7e0b37b", func := "overflight/overflightlaw10.ConfigsStuck", spec := "configsStuck", unfollowed := true, recurses := true, apart := false }
def ConfigsStuckSaid : Prop := configsStuckRow.holds Try.pinned (OpenSpec.ofChange configsStuckSpec)

/-- ITS FALSE NEIGHBOUR: 'it returns false'. Refute it at one input. -/
def configsStuckWrong : ChangeSpec := { name := "configsStuck", fn := fun _ => fun
  | [d] => { results := [.lit (.bool false)], args := [d] }
  | _ => none }
def ConfigsStuckWrongFalsely : Prop := configsStuckRow.holds Try.pinned (OpenSpec.ofChange configsStuckWrong)

/-- 'overflightlaw10.ConfigsOrder': WHATEVER THE INPUT: true; the input reads as it did. -/
def configsOrderSpec : ChangeSpec := { name := "configsOrder", fn := fun _ => fun
  | [d1, d2, d3, d4] => { results := [.lit (.bool true)], args := [d1, d2, d3, d4] }
  | _ => none }
def configsOrderRow : OpenClaim := { program := "ytolafciahogceaa", sum := "011c1eb63831b2221e18fc099833208b884ec73986b14e49e73e5152e7e0b37b", func := "overflight/overflightlaw10.ConfigsOrder", spec := "configsOrder", unfollowed := true, recurses := true, apart := false }
def ConfigsOrderSaid : Prop := configsOrderRow.holds Try.pinned (OpenSpec.ofChange configsOrderSpec)

/-- ITS FALSE NEIGHBOUR: 'it returns false'. Refute it at one input. -/
def configsOrderWrong : ChangeSpec := { name := "configsOrder", fn := fun _ => fun
  | [d1, d2, d3, d4] => { results := [.lit (.bool false)], args := [d1, d2, d3, d4] }
  | _ => none }
def ConfigsOrderWrongFalsely : Prop := configsOrderRow.holds Try.pinned (OpenSpec.ofChange configsOrderWrong)

/- THE SECOND FORM. 'bulk': how many values and letters a reading holds, each counted each time it is reached (what is shared counts as often as it is met; a slice's spare places count too). A statement '..UptoSaid' is the law's where the arguments, and the package variables that the reading takes, are together of bulk at most 1048576: NARROWER than '..Said'. Prove '..Said' where nothing that the law and all that it calls make is longer than what came in: it says more and counts as full. Else prove '..UptoSaid'. A law counts once. -/
mutual
def uptoBulk {H : Type} : DataW H → Nat
  | .lit (.string bytes) => bytes.length + 1
  | .lit _ => 1
  | .nil => 1
  | .ptr d => uptoBulk d + 1
  | .slice elems spare => uptoBulkAll elems + uptoBulkAll spare + 1
  | .agg parts => uptoBulkAll parts + 1
  | .iface _ d => uptoBulk d + 1
  | .map entries => uptoBulkEntries entries + 1
  | .held _ => 1
def uptoBulkAll {H : Type} : List (DataW H) → Nat
  | [] => 0
  | d :: r => uptoBulk d + uptoBulkAll r
def uptoBulkEntries {H : Type} : List (Lit × DataW H) → Nat
  | [] => 0
  | x :: r => uptoBulkEntry x + uptoBulkEntries r
def uptoBulkEntry {H : Type} : Lit × DataW H → Nat
  | (.string bytes, d) => bytes.length + uptoBulk d + 1
  | (_, d) => uptoBulk d + 1
 end
def uptoSmall : (H : Type) → List (DataW H) → Bool := fun _ ds => decide (uptoBulkAll ds ≤ 1048576)
def OpenSpec.upto (s : _root_.Go.ChangeSpec) : _root_.Go.OpenSpec := { _root_.Go.OpenSpec.ofChange s with cond := some uptoSmall }

/-- 'overflightlaw10.ConfigsCheckSpec', WHERE WHAT IT READS IS OF BULK AT MOST 1048576: true; the input reads as it did. -/
def configsCheckSpecUptoRow : OpenClaim := { program := "ytolafciahogceaa", sum := "011c1eb63831b2221e18fc099833208b884ec73986b14e49e73e5152e7e0b37b", func := "overflight/overflightlaw10.ConfigsCheckSpec", spec := "configsCheckSpec", unfollowed := true, recurses := true, apart := false, narrowed := true }
def ConfigsCheckSpecUptoSaid : Prop := configsCheckSpecUptoRow.holds Try.pinned (OpenSpec.upto configsCheckSpecSpec)

/-- 'overflightlaw10.ConfigsStepSpec', WHERE WHAT IT READS IS OF BULK AT MOST 1048576: true; the input reads as it did. -/
def configsStepSpecUptoRow : OpenClaim := { program := "ytolafciahogceaa", sum := "011c1eb63831b2221e18fc099833208b884ec73986b14e49e73e5152e7e0b37b", func := "overflight/overflightlaw10.ConfigsStepSpec", spec := "configsStepSpec", unfollowed := true, recurses := true, apart := false, narrowed := true }
def ConfigsStepSpecUptoSaid : Prop := configsStepSpecUptoRow.holds Try.pinned (OpenSpec.upto configsStepSpecSpec)

/-- 'overflightlaw10.ConfigsPathSpec', WHERE WHAT IT READS IS OF BULK AT MOST 1048576: true; the input reads as it did. -/
def configsPathSpecUptoRow : OpenClaim := { program := "ytolafciahogceaa", sum := "011c1eb63831b2221e18fc099833208b884ec73986b14e49e73e5152e7e0b37b", func := "overflight/overflightlaw10.ConfigsPathSpec", spec := "configsPathSpec", unfollowed := true, recurses := true, apart := false, narrowed := true }
def ConfigsPathSpecUptoSaid : Prop := configsPathSpecUptoRow.holds Try.pinned (OpenSpec.upto configsPathSpecSpec)

/-- 'overflightlaw10.ConfigsUndone', WHERE WHAT IT READS IS OF BULK AT MOST 1048576: true; the input reads as it did. -/
def configsUndoneUptoRow : OpenClaim := { program := "ytolafciahogceaa", sum := "011c1eb63831b2221e18fc099833208b884ec73986b14e49e73e5152e7e0b37b", func := "overflight/overflightlaw10.ConfigsUndone", spec := "configsUndone", unfollowed := true, recurses := true, apart := false, narrowed := true }
def ConfigsUndoneUptoSaid : Prop := configsUndoneUptoRow.holds Try.pinned (OpenSpec.upto configsUndoneSpec)

/-- 'overflightlaw10.ConfigsWalk', WHERE WHAT IT READS IS OF BULK AT MOST 1048576: true; the input reads as it did. -/
def configsWalkUptoRow : OpenClaim := { program := "ytolafciahogceaa", sum := "011c1eb63831b2221e18fc099833208b884ec73986b14e49e73e5152e7e0b37b", func := "overflight/overflightlaw10.ConfigsWalk", spec := "configsWalk", unfollowed := true, recurses := true, apart := false, narrowed := true }
def ConfigsWalkUptoSaid : Prop := configsWalkUptoRow.holds Try.pinned (OpenSpec.upto configsWalkSpec)

/-- 'overflightlaw10.ConfigsClasses', WHERE WHAT IT READS IS OF BULK AT MOST 1048576: true; the input reads as it did. -/
def configsClassesUptoRow : OpenClaim := { program := "ytolafciahogceaa", sum := "011c1eb63831b2221e18fc099833208b884ec73986b14e49e73e5152e7e0b37b", func := "overflight/overflightlaw10.ConfigsClasses", spec := "configsClasses", unfollowed := true, recurses := true, apart := false, narrowed := true }
def ConfigsClassesUptoSaid : Prop := configsClassesUptoRow.holds Try.pinned (OpenSpec.upto configsClassesSpec)

/-- 'overflightlaw10.ConfigsStuck', WHERE WHAT IT READS IS OF BULK AT MOST 1048576: true; the input reads as it did. -/
def configsStuckUptoRow : OpenClaim := { program := "ytolafciahogceaa", sum := "011c1eb63831b2221e18fc099833208b884ec73986b14e49e73e5152e7e0b37b", func := "overflight/overflightlaw10.ConfigsStuck", spec := "configsStuck", unfollowed := true, recurses := true, apart := false, narrowed := true }
def ConfigsStuckUptoSaid : Prop := configsStuckUptoRow.holds Try.pinned (OpenSpec.upto configsStuckSpec)

/-- 'overflightlaw10.ConfigsOrder', WHERE WHAT IT READS IS OF BULK AT MOST 1048576: true; the input reads as it did. -/
def configsOrderUptoRow : OpenClaim := { program := "ytolafciahogceaa", sum := "011c1eb63831b2221e18fc099833208b884ec73986b14e49e73e5152e7e0b37b", func := "overflight/overflightlaw10.ConfigsOrder", spec := "configsOrder", unfollowed := true, recurses := true, apart := false, narrowed := true }
def ConfigsOrderUptoSaid : Prop := configsOrderUptoRow.holds Try.pinned (OpenSpec.upto configsOrderSpec)

end Rows
end Go.Proofs.Ytolafciahogceaa
