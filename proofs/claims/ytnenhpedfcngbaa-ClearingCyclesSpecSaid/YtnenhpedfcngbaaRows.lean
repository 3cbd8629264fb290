/-
  No cell of these rows narrows 'for every input' (looked for: loops, veiled, ifaces, maps, wideKeys, modest, calm, conditions, laid).
  DERIVED. THE GIVEN ROWS OF THIS SEAT. 7 by the template 'for every input the law returns true; each argument reads behind the call as it read before'; 0 by the template 'total and deterministic' (their statements: YtnenhpedfcngbaaTotals.lean).
  GIVEN WITH THE SEED: the statements are not yours to turn. If you find one false, say at which input.
  Laid BY PROGRAM, IN A SANDBOX (cutbox-rows.mjs): the forced cells as the released guide's own fill.sh prints them over the translation 6879d81c4a9e0c5f… (all of the seat's roots in one cut). By AI agents, Wed Nov 11 2026. No macro, syntax, notation, axiom, sorry.
-/
import Derived.Test.YtnenhpedfcngbaaChecked
import GoSem.Claim
import GoSem.ClaimJoined
import GoSem.ClaimMapViews
import Derived.JoinedTies
import Derived.KernelRfl
namespace Go.Proofs.Ytnenhpedfcngbaa
/- THE CELL 'sum', in the pinned program and in every row, IS THE sha256 OF THE DUMP (.gsa) THAT YtnenhpedfcngbaaProg.lean LOADS. Nothing in Lean hashes anything: it is a label: what it is worth is what the hold of that sum in a sandbox is worth. -/
noncomputable def Try.pinned : Pinned := { name := "ytnenhpedfcngbaa", sum := "6879d81c4a9e0c5f63ce3a3ff365a08caca6ba065b2e0d4ab939ebb6e35cca5c", checked := Try.checked }
namespace Rows
def none {H : Type} : Left H := { results := [], args := [] }

/-- 'overflightlaw38.ClearingCyclesSpec': WHATEVER THE INPUT: true; the input reads as it did. -/
def clearingCyclesSpecSpec : ChangeSpec := { name := "clearingCyclesSpec", fn := fun _ => fun
  | [d1, d2] => { results := [.lit (.bool true)], args := [d1, d2] }
  | _ => none }
def clearingCyclesSpecRow : OpenClaim := { program := "ytnenhpedfcngbaa", sum := "6879d81c4a9e0c5f63ce3a3ff365a08caca6ba065b2e0d4ab939ebb6e35cca5c", func := "overflight/overflightlaw38.ClearingCyclesSpec", spec := "clearingCyclesSpec", unfollowed := true, recurses := true, apart := false }
def ClearingCyclesSpecSaid : Prop := clearingCyclesSpecRow.holds Try.pinned (OpenSpec.ofChange clearingCyclesSpecSpec)

/-- ITS FALSE NEIGHBOUR: 'it returns false'. Refute it at one input. -/
def clearingCyclesSpecWrong : ChangeSpec := { name := "clearingCyclesSpec", fn := fun _ => fun
  | [d1, d2] => { results := [.lit (.bool false)], args := [d1, d2] }
  | _ => none }
def ClearingCyclesSpecWrongFalsely : Prop := clearingCyclesSpecRow.holds Try.pinned (OpenSpec.ofChange clearingCyclesSpecWrong)

/-- 'overflightlaw38.ClearingBestSpec': WHATEVER THE INPUT: true; the input reads as it did. -/
def clearingBestSpecSpec : ChangeSpec := { name := "clearingBestSpec", fn := fun _ => fun
  | [d1, d2] => { results := [.lit (.bool true)], args := [d1, d2] }
  | _ => none }
def clearingBestSpecRow : OpenClaim := { program := "ytnenhpedfcngbaa", sum := "6879d81c4a9e0c5f63ce3a3ff365a08caca6ba065b2e0d4ab939ebb6e35cca5c", func := "overflight/overflightlaw38.ClearingBestSpec", spec := "clearingBestSpec", unfollowed := true, recurses := true, apart := false }
def ClearingBestSpecSaid : Prop := clearingBestSpecRow.holds Try.pinned (OpenSpec.ofChange clearingBestSpecSpec)

/-- ITS FALSE NEIGHBOUR: 'it returns false'. Refute it at one input. -/
def clearingBestSpecWrong : ChangeSpec := { name := "clearingBestSpec", fn := fun _ => fun
  | [d1, d2] => { results := [.lit (.bool false)], args := [d1, d2] }
  | _ => none }
def ClearingBestSpecWrongFalsely : Prop := clearingBestSpecRow.holds Try.pinned (OpenSpec.ofChange clearingBestSpecWrong)

/-- 'overflightlaw38.ClearingOnly': WHATEVER THE INPUT: true; the input reads as it did. -/
def clearingOnlySpec : ChangeSpec := { name := "clearingOnly", fn := fun _ => fun
  | [d1, d2, d3] => { results := [.lit (.bool true)], args := [d1, d2, d3] }
  | _ => none }
def clearingOnlyRow : OpenClaim := { program := "ytnenhpedfcngbaa", sum := "6879d81c4a9e0c5f63ce3a3ff365a08caca6ba065b2e0d4ab939ebb6e35cca5c", func := "overflight/overflightlaw38.ClearingOnly", spec := "clearingOnly", unfollowed := true, recurses := true, apart := false }
def ClearingOnlySaid : Prop := clearingOnlyRow.holds Try.pinned (OpenSpec.ofChange clearingOnlySpec)

/-- ITS FALSE NEIGHBOUR: 'it returns false'. Refute it at one input. -/
def clearingOnlyWrong : ChangeSpec := { name := "clearingOnly", fn := fun _ => fun
  | [d1, d2, d3] => { results := [.lit (.bool false)], args := [d1, d2, d3] }
  | _ => none }
def ClearingOnlyWrongFalsely : Prop := clearingOnlyRow.holds Try.pinned (OpenSpec.ofChange clearingOnlyWrong)

/-- 'overflightlaw38.ClearingSaves': WHATEVER THE INPUT: true; the input reads as it did. -/
def clearingSavesSpec : ChangeSpec := { name := "clearingSaves", fn := fun _ => fun
  | [d] => { results := [.lit (.bool true)], args := [d] }
  | _ => none }
def clearingSavesRow : OpenClaim := { program := "ytnenhpedfcngbaa", sum := "6879d81c4a9e0c5f63ce3a3ff365a08caca6ba065b2e0d4ab939ebb6e35cca5c", func := "overflight/overflightlaw38.ClearingSaves", spec := "clearingSaves", unfollowed := true, recurses := true, apart := false }
def ClearingSavesSaid : Prop := clearingSavesRow.holds Try.pinned (OpenSpec.ofChange clearingSavesSpec)

/-- ITS FALSE NEIGHBOUR: 'it returns false'. Refute it at one input. -/
def clearingSavesWrong : ChangeSpec := { name := "clearingSaves", fn := fun _ => fun
  | [d] => { results := [.lit (.bool false)], args := [d] }
  | _ => none }
def ClearingSavesWrongFalsely : Prop := clearingSavesRow.holds Try.pinned (OpenSpec.ofChange clearingSavesWrong)

/-- 'overflightlaw38.ClearingMoves': WHATEVER THE INPUT: true; the input reads as it did. -/
def clearingMovesSpec : ChangeSpec := { name := "clearingMoves", fn := fun _ => fun
  | [d1, d2] => { results := [.lit (.bool true)], args := [d1, d2] }
  | _ => none }
def clearingMovesRow : OpenClaim := { program := "ytnenhpedfcngbaa", sum := "6879d81c4a9e0c5f63ce3a3ff365a08caca6ba065b2e0d4ab939ebb6e35cca5c", func := "overflight/overflightlaw38.ClearingMoves", spec := "clearingMoves", unfollowed := true, recurses := true, apart := false }
def ClearingMovesSaid : Prop := clearingMovesRow.holds Try.pinned (OpenSpec.ofChange clearingMovesSpec)

/-- ITS FALSE NEIGHBOUR: 'it returns false'. Refute it at one input. -/
def clearingMovesWrong : ChangeSpec := { name := "clearingMoves", fn := fun _ => fun
  | [d1, d2] => { results := [.lit (.bool false)], args := [d1, d2] }
  | _ => none }
def ClearingMovesWrongFalsely : Prop := clearingMovesRow.holds Try.pinned (OpenSpec.ofChange clearingMovesWrong)

/-- 'overflightlaw38.ClearingFirst': WHATEVER THE INPUT: true; the input reads as it did. -/
def clearingFirstSpec : ChangeSpec := { name := "clearingFirst", fn := fun _ => fun
  | [d1, d2] => { results := [.lit (.bool true)], args := [d1, d2] }
  | _ => none }
def clearingFirstRow : OpenClaim := { program := "ytnenhpedfcngbaa", sum := "6879d81c4a9e0c5f63ce3a3ff365a08caca6ba065b2e0d4ab939ebb6e35cca5c", func := "overflight/overflightlaw38.ClearingFirst", spec := "clearingFirst", unfollowed := true, recurses := true, apart := false }
def ClearingFirstSaid : Prop := clearingFirstRow.holds Try.pinned (OpenSpec.ofChange clearingFirstSpec)

/-- ITS FALSE NEIGHBOUR: 'it returns false'. Refute it at one input. -/
def clearingFirstWrong : ChangeSpec := { name := "clearingFirst", fn := fun _ => fun
  | [d1, d2] => { results := [.lit (.bool false)], args := [d1, d2] }
  | _ => none }
def ClearingFirstWrongFalsely : Prop := clearingFirstRow.holds Try.pinned (OpenSpec.ofChange clearingFirstWrong)

/-- 'overflightlaw38.ClearingFair': WHATEVER THE INPUT: true; the input reads as it did. -/
def clearingFairSpec : ChangeSpec := { name := "clearingFair", fn := fun _ => fun
  | [d] => { results := [.lit (.bool true)], args := [d] }
  | _ => none }
def clearingFairRow : OpenClaim := { program := "ytnenhpedfcngbaa", sum := "6879d81c4a9e0c5f63ce3a3ff365a08caca6ba065b2e0d4ab939ebb6e35cca5c", func := "overflight/overflightlaw38.ClearingFair", spec := "clearingFair", unfollowed := true, recurses := true, apart := false }
def ClearingFairSaid : Prop := clearingFairRow.holds Try.pinned (OpenSpec.ofChange clearingFairSpec)

/-- ITS FALSE NEIGHBOUR: 'it returns false'. Refute it at one input. -/
def clearingFairWrong : ChangeSpec := { name := "clearingFair", fn := fun _ => fun
  | [d] => { results := [.lit (.bool false)], args := [d] }
  | _ => none }
def ClearingFairWrongFalsely : Prop := clearingFairRow.holds Try.pinned (OpenSpec.ofChange clearingFairWrong)

/- THE SECOND FORM. 'bulk': how many values and letters a reading holds, each counted each time it is reached (what is shared counts as often as it is met; a slice's spare places count too). A statement '..UptoSaid' is the law's where the arguments, and the package variables that the reading takes, are together of bulk at most 1048576: NARROWER than '..Said'. Prove '..Said' where nothing that the law and all that it calls make is longer than what came in: it says more and counts as full. Else prove '..UptoSaid'. A law counts once. -/
mutual
def uptoBulk {H : Type} : DataW H → Nat
  | .lit (.string bytes) => bytes.length + 1
  | .lit _ => 1
  | .nil => 1
  | .ptr d => uptoBulk d + 1
  | .slice elems spare => uptoBulkAll elems + uptoBulkAll spare + 1
  | .agg parts => uptoBulkAll parts + 1
  | .iface _ d => uptoBulk d + 1
  | .map entries => uptoBulkEntries entries + 1
  | .held _ => 1
def uptoBulkAll {H : Type} : List (DataW H) → Nat
  | [] => 0
  | d :: r => uptoBulk d + uptoBulkAll r
def uptoBulkEntries {H : Type} : List (Lit × DataW H) → Nat
  | [] => 0
  | x :: r => uptoBulkEntry x + uptoBulkEntries r
def uptoBulkEntry {H : Type} : Lit × DataW H → Nat
  | (.string bytes, d) => bytes.length + uptoBulk d + 1
  | (_, d) => uptoBulk d + 1
 end
def uptoSmall : (H : Type) → List (DataW H) → Bool := fun _ ds => decide (uptoBulkAll ds ≤ 1048576)
def OpenSpec.upto (s : _root_.Go.ChangeSpec) : _root_.Go.OpenSpec := { _root_.Go.OpenSpec.ofChange s with cond := some uptoSmall }

/-- 'overflightlaw38.ClearingCyclesSpec', WHERE WHAT IT READS IS OF BULK AT MOST 1048576: true; the input reads as it did. -/
def clearingCyclesSpecUptoRow : OpenClaim := { program := "ytnenhpedfcngbaa", sum := "6879d81c4a9e0c5f63ce3a3ff365a08caca6ba065b2e0d4ab939ebb6e35cca5c", func := "overflight/overflightlaw38.ClearingCyclesSpec", spec := "clearingCyclesSpec", unfollowed := true, recurses := true, apart := false, narrowed := true }
def ClearingCyclesSpecUptoSaid : Prop := clearingCyclesSpecUptoRow.holds Try.pinned (OpenSpec.upto clearingCyclesSpecSpec)

/-- 'overflightlaw38.ClearingBestSpec', WHERE WHAT IT READS IS OF BULK AT MOST 1048576: true; the input reads as it did. -/
def clearingBestSpecUptoRow : OpenClaim := { program := "ytnenhpedfcngbaa", sum := "6879d81c4a9e0c5f63ce3a3ff365a08caca6ba065b2e0d4ab939ebb6e35cca5c", func := "overflight/overflightlaw38.ClearingBestSpec", spec := "clearingBestSpec", unfollowed := true, recurses := true, apart := false, narrowed := true }
def ClearingBestSpecUptoSaid : Prop := clearingBestSpecUptoRow.holds Try.pinned (OpenSpec.upto clearingBestSpecSpec)

/-- 'overflightlaw38.ClearingOnly', WHERE WHAT IT READS IS OF BULK AT MOST 1048576: true; the input reads as it did. -/
def clearingOnlyUptoRow : OpenClaim := { program := "ytnenhpedfcngbaa", sum := "6879d81c4a9e0c5f63ce3a3ff365a08caca6ba065b2e0d4ab939ebb6e35cca5c", func := "overflight/overflightlaw38.ClearingOnly", spec := "clearingOnly", unfollowed := true, recurses := true, apart := false, narrowed := true }
def ClearingOnlyUptoSaid : Prop := clearingOnlyUptoRow.holds Try.pinned (OpenSpec.upto clearingOnlySpec)

/-- 'overflightlaw38.ClearingSaves', WHERE WHAT IT READS IS OF BULK AT MOST 1048576: true; the input reads as it did. -/
def clearingSavesUptoRow : OpenClaim := { program := "ytnenhpedfcngbaa", sum := "6879d81c4a9e0c5f63ce3a3ff365a08caca6ba065b2e0d4ab939ebb6e35cca5c", func := "overflight/overflightlaw38.ClearingSaves", spec := "clearingSaves", unfollowed := true, recurses := true, apart := false, narrowed := true }
def ClearingSavesUptoSaid : Prop := clearingSavesUptoRow.holds Try.pinned (OpenSpec.upto clearingSavesSpec)

/-- 'overflightlaw38.ClearingMoves', WHERE WHAT IT READS IS OF BULK AT MOST 1048576: true; the input reads as it did. -/
def clearingMovesUptoRow : OpenClaim := { program := "ytnenhpedfcngbaa", sum := "6879d81c4a9e0c5f63ce3a3ff365a08caca6ba065b2e0d4ab939ebb6e35cca5c", func := "overflight/overflightlaw38.ClearingMoves", spec := "clearingMoves", unfollowed := true, recurses := true, apart := false, narrowed := true }
def ClearingMovesUptoSaid : Prop := clearingMovesUptoRow.holds Try.pinned (OpenSpec.upto clearingMovesSpec)

/-- 'overflightlaw38.ClearingFirst', WHERE WHAT IT READS IS OF BULK AT MOST 1048576: true; the input reads as it did. -/
def clearingFirstUptoRow : OpenClaim := { program := "ytnenhpedfcngbaa", sum := "6879d81c4a9e0c5f63ce3a3ff365a08caca6ba065b2e0d4ab939ebb6e35cca5c", func := "overflight/overflightlaw38.ClearingFirst", spec := "clearingFirst", unfollowed := true, recurses := true, apart := false, narrowed := true }
def ClearingFirstUptoSaid : Prop := clearingFirstUptoRow.holds Try.pinned (OpenSpec.upto clearingFirstSpec)

/-- 'overflightlaw38.ClearingFair', WHERE WHAT IT READS IS OF BULK AT MOST 1048576: true; the input reads as it did. -/
def clearingFairUptoRow : OpenClaim := { program := "ytnenhpedfcngbaa", sum := "6879d81c4a9e0c5f63ce3a3ff365a08caca6ba065b2e0d4ab939ebb6e35cca5c", func := "overflight/overflightlaw38.ClearingFair", spec := "clearingFair", unfollowed := true, recurses := true, apart := false, narrowed := true }
def ClearingFairUptoSaid : Prop := clearingFairUptoRow.holds Try.pinned (OpenSpec.upto clearingFairSpec)

end Rows
end Go.Proofs.Ytnenhpedfcngbaa
