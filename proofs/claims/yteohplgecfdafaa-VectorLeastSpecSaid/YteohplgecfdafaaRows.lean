/-
  No cell of these rows narrows 'for every input' (looked for: loops, veiled, ifaces, maps, wideKeys, modest, calm, conditions, laid).
  DERIVED. THE GIVEN ROWS OF THIS SEAT. 8 by the template 'for every input the law returns true; each argument reads behind the call as it read before'; 0 by the template 'total and deterministic' (their statements: YteohplgecfdafaaTotals.lean).
  GIVEN WITH THE SEED: the statements are not yours to turn. If you find one false, say at which input.
  Laid BY PROGRAM, IN A SANDBOX (cutbox-rows.mjs): the forced cells as the released guide's own fill.sh prints them over the translation b8d0e0e5835b1e02… (all of the seat's roots in one cut). By AI agents, Wed Nov 11 2026. No macro, syntax, notation, axiom, sorry.
-/
import Derived.Test.YteohplgecfdafaaChecked
import GoSem.Claim
import GoSem.ClaimJoined
import GoSem.ClaimMapViews
import Derived.JoinedTies
import Derived.KernelRfl
namespace Go.Proofs.Yteohplgecfdafaa
/- THE CELL 'sum', in the pinned program and in every row, IS THE sha256 OF THE DUMP (.gsa) THAT YteohplgecfdafaaProg.lean LOADS. Nothing in Lean hashes anything: it is a label: what it is worth is what the hold of that sum in a sandbox is worth. -/
noncomputable def Try.pinned : Pinned := { name := "yteohplgecfdafaa", sum := "b8d0e0e5835b1e02e84a3854cbeaeb1d6220f2e4ead5c18c7e4c1d73071598c6", checked := Try.checked }
namespace Rows
def none {H : Type} : Left H := { results := [], args := [] }

/-- 'overflightlaw06.VectorOrderSpec': WHATEVER THE INPUT: true; the input reads as it did. -/
def vectorOrderSpecSpec : ChangeSpec := { name := "vectorOrderSpec", fn := fun _ => fun
  | [d1, d2] => { results := [.lit (.bool true)], args := [d1, d2] }
  | _ => none }
def vectorOrderSpecRow : OpenClaim := { program := "yteohplgecfdafaa", sum := "b8d0e0e5835b1e02e84a3854cbeaeb1d6220f2e4ead5c18c7e4c1d73071598c6", func := "overflight/overflightlaw06.VectorOrderSpec", spec := "vectorOrderSpec", unfollowed := true, recurses := true, apart := false }
def VectorOrderSpecSaid : Prop := vectorOrderSpecRow.holds Try.pinned (OpenSpec.ofChange vectorOrderSpecSpec)

/-- ITS FALSE NEIGHBOUR: 'it returns false'. Refute it at one input. -/
def vectorOrderSpecWrong : ChangeSpec := { name := "vectorOrderSpec", fn := fun _ => fun
  | [d1, d2] => { results := [.lit (.bool false)], args := [d1, d2] }
  | _ => none }
def VectorOrderSpecWrongFalsely : Prop := vectorOrderSpecRow.holds Try.pinned (OpenSpec.ofChange vectorOrderSpecWrong)

/-- 'overflightlaw06.VectorLeastSpec': WHATEVER THE INPUT: true; the input reads as it did. -/
def vectorLeastSpecSpec : ChangeSpec := { name := "vectorLeastSpec", fn := fun _ => fun
  | [d1, d2, d3] => { results := [.lit (.bool true)], args := [d1, d2, d3] }
  | _ => none }
def vectorLeastSpecRow : OpenClaim := { program := "yteohplgecfdafaa", sum := "b8d0e0e5835b1e02e84a3854cbeaeb1d6220f2e4ead5c18c7e4c1d73071598c6", func := "overflight/overflightlaw06.VectorLeastSpec", spec := "vectorLeastSpec", unfollowed := true, recurses := true, apart := false }
def VectorLeastSpecSaid : Prop := vectorLeastSpecRow.holds Try.pinned (OpenSpec.ofChange vectorLeastSpecSpec)

/-- ITS FALSE NEIGHBOUR: 'it returns false'. Refute it at one input. -/
def vectorLeastSpecWrong : ChangeSpec := { name := "vectorLeastSpec", fn := fun _ => fun
  | [d1, d2, d3] => { results := [.lit (.bool false)], args := [d1, d2, d3] }
  | _ => none }
def VectorLeastSpecWrongFalsely : Prop := vectorLeastSpecRow.holds Try.pinned (OpenSpec.ofChange vectorLeastSpecWrong)

/-- 'overflightlaw06.VectorFront': WHATEVER THE INPUT: true; the input reads as it did. -/
def vectorFrontSpec : ChangeSpec := { name := "vectorFront", fn := fun _ => fun
  | [d] => { results := [.lit (.bool true)], args := [d] }
  | _ => none }
def vectorFrontRow : OpenClaim := { program := "yteohplgecfdafaa", sum := "b8d0e0e5835b1e02e84a3854cbeaeb1d6220f2e4ead5c18c7e4c1d73071598c6", func := "overflight/overflightlaw06.VectorFront", spec := "vectorFront", unfollowed := true, recurses := true, apart := false }
def VectorFrontSaid : Prop := vectorFrontRow.holds Try.pinned (OpenSpec.ofChange vectorFrontSpec)

/-- ITS FALSE NEIGHBOUR: 'it returns false'. Refute it at one input. -/
def vectorFrontWrong : ChangeSpec := { name := "vectorFront", fn := fun _ => fun
  | [d] => { results := [.lit (.bool false)], args := [d] }
  | _ => none }
def VectorFrontWrongFalsely : Prop := vectorFrontRow.holds Try.pinned (OpenSpec.ofChange vectorFrontWrong)

/-- 'overflightlaw06.VectorFits': WHATEVER THE INPUT: true; the input reads as it did. -/
def vectorFitsSpec : ChangeSpec := { name := "vectorFits", fn := fun _ => fun
  | [d1, d2] => { results := [.lit (.bool true)], args := [d1, d2] }
  | _ => none }
def vectorFitsRow : OpenClaim := { program := "yteohplgecfdafaa", sum := "b8d0e0e5835b1e02e84a3854cbeaeb1d6220f2e4ead5c18c7e4c1d73071598c6", func := "overflight/overflightlaw06.VectorFits", spec := "vectorFits", unfollowed := true, recurses := true, apart := false }
def VectorFitsSaid : Prop := vectorFitsRow.holds Try.pinned (OpenSpec.ofChange vectorFitsSpec)

/-- ITS FALSE NEIGHBOUR: 'it returns false'. Refute it at one input. -/
def vectorFitsWrong : ChangeSpec := { name := "vectorFits", fn := fun _ => fun
  | [d1, d2] => { results := [.lit (.bool false)], args := [d1, d2] }
  | _ => none }
def VectorFitsWrongFalsely : Prop := vectorFitsRow.holds Try.pinned (OpenSpec.ofChange vectorFitsWrong)

/-- 'overflightlaw06.VectorSums': WHATEVER THE INPUT: true; the input reads as it did. -/
def vectorSumsSpec : ChangeSpec := { name := "vectorSums", fn := fun _ => fun
  | [d1, d2, d3] => { results := [.lit (.bool true)], args := [d1, d2, d3] }
  | _ => none }
def vectorSumsRow : OpenClaim := { program := "yteohplgecfdafaa", sum := "b8d0e0e5835b1e02e84a3854cbeaeb1d6220f2e4ead5c18c7e4c1d73071598c6", func := "overflight/overflightlaw06.VectorSums", spec := "vectorSums", unfollowed := true, recurses := true, apart := false }
def VectorSumsSaid : Prop := vectorSumsRow.holds Try.pinned (OpenSpec.ofChange vectorSumsSpec)

/-- ITS FALSE NEIGHBOUR: 'it returns false'. Refute it at one input. -/
def vectorSumsWrong : ChangeSpec := { name := "vectorSums", fn := fun _ => fun
  | [d1, d2, d3] => { results := [.lit (.bool false)], args := [d1, d2, d3] }
  | _ => none }
def VectorSumsWrongFalsely : Prop := vectorSumsRow.holds Try.pinned (OpenSpec.ofChange vectorSumsWrong)

/-- 'overflightlaw06.VectorTotal': WHATEVER THE INPUT: true; the input reads as it did. -/
def vectorTotalSpec : ChangeSpec := { name := "vectorTotal", fn := fun _ => fun
  | [d1, d2, d3] => { results := [.lit (.bool true)], args := [d1, d2, d3] }
  | _ => none }
def vectorTotalRow : OpenClaim := { program := "yteohplgecfdafaa", sum := "b8d0e0e5835b1e02e84a3854cbeaeb1d6220f2e4ead5c18c7e4c1d73071598c6", func := "overflight/overflightlaw06.VectorTotal", spec := "vectorTotal", unfollowed := true, recurses := true, apart := false }
def VectorTotalSaid : Prop := vectorTotalRow.holds Try.pinned (OpenSpec.ofChange vectorTotalSpec)

/-- ITS FALSE NEIGHBOUR: 'it returns false'. Refute it at one input. -/
def vectorTotalWrong : ChangeSpec := { name := "vectorTotal", fn := fun _ => fun
  | [d1, d2, d3] => { results := [.lit (.bool false)], args := [d1, d2, d3] }
  | _ => none }
def VectorTotalWrongFalsely : Prop := vectorTotalRow.holds Try.pinned (OpenSpec.ofChange vectorTotalWrong)

/-- 'overflightlaw06.VectorShift': WHATEVER THE INPUT: true; the input reads as it did. -/
def vectorShiftSpec : ChangeSpec := { name := "vectorShift", fn := fun _ => fun
  | [d1, d2, d3] => { results := [.lit (.bool true)], args := [d1, d2, d3] }
  | _ => none }
def vectorShiftRow : OpenClaim := { program := "yteohplgecfdafaa", sum := "b8d0e0e5835b1e02e84a3854cbeaeb1d6220f2e4ead5c18c7e4c1d73071598c6", func := "overflight/overflightlaw06.VectorShift", spec := "vectorShift", unfollowed := true, recurses := true, apart := false }
def VectorShiftSaid : Prop := vectorShiftRow.holds Try.pinned (OpenSpec.ofChange vectorShiftSpec)

/-- ITS FALSE NEIGHBOUR: 'it returns false'. Refute it at one input. -/
def vectorShiftWrong : ChangeSpec := { name := "vectorShift", fn := fun _ => fun
  | [d1, d2, d3] => { results := [.lit (.bool false)], args := [d1, d2, d3] }
  | _ => none }
def VectorShiftWrongFalsely : Prop := vectorShiftRow.holds Try.pinned (OpenSpec.ofChange vectorShiftWrong)

/-- 'overflightlaw06.VectorAgain': WHATEVER THE INPUT: true; the input reads as it did. -/
def vectorAgainSpec : ChangeSpec := { name := "vectorAgain", fn := fun _ => fun
  | [d1, d2] => { results := [.lit (.bool true)], args := [d1, d2] }
  | _ => none }
def vectorAgainRow : OpenClaim := { program := "yteohplgecfdafaa", sum := "b8d0e0e5835b1e02e84a3854cbeaeb1d6220f2e4ead5c18c7e4c1d73071598c6", func := "overflight/overflightlaw06.VectorAgain", spec := "vectorAgain", unfollowed := true, recurses := true, apart := false }
def VectorAgainSaid : Prop := vectorAgainRow.holds Try.pinned (OpenSpec.ofChange vectorAgainSpec)

/-- ITS FALSE NEIGHBOUR: 'it returns false'. Refute it at one input. -/
def vectorAgainWrong : ChangeSpec := { name := "vectorAgain", fn := fun _ => fun
  | [d1, d2] => { results := [.lit (.bool false)], args := [d1, d2] }
  | _ => none }
def VectorAgainWrongFalsely : Prop := vectorAgainRow.holds Try.pinned (OpenSpec.ofChange vectorAgainWrong)

/- THE SECOND FORM. 'bulk': how many values and letters a reading holds, each counted each time it is reached (what is shared counts as often as it is met; a slice's spare places count too). A statement '..UptoSaid' is the law's where the arguments, and the package variables that the reading takes, are together of bulk at most 1048576: NARROWER than '..Said'. Prove '..Said' where nothing that the law and all that it calls make is longer than what came in: it says more and counts as full. Else prove '..UptoSaid'. A law counts once. -/
mutual
def uptoBulk {H : Type} : DataW H → Nat
  | .lit (.string bytes) => bytes.length + 1
  | .lit _ => 1
  | .nil => 1
  | .ptr d => uptoBulk d + 1
  | .slice elems spare => uptoBulkAll elems + uptoBulkAll spare + 1
  | .agg parts => uptoBulkAll parts + 1
  | .iface _ d => uptoBulk d + 1
  | .map entries => uptoBulkEntries entries + 1
  | .held _ => 1
def uptoBulkAll {H : Type} : List (DataW H) → Nat
  | [] => 0
  | d :: r => uptoBulk d + uptoBulkAll r
def uptoBulkEntries {H : Type} : List (Lit × DataW H) → Nat
  | [] => 0
  | x :: r => uptoBulkEntry x + uptoBulkEntries r
def uptoBulkEntry {H : Type} : Lit × DataW H → Nat
  | (.string bytes, d) => bytes.length + uptoBulk d + 1
  | (_, d) => uptoBulk d + 1
 end
def uptoSmall : (H : Type) → List (DataW H) → Bool := fun _ ds => decide (uptoBulkAll ds ≤ 1048576)
def OpenSpec.upto (s : _root_.Go.ChangeSpec) : _root_.Go.OpenSpec := { _root_.Go.OpenSpec.ofChange s with cond := some uptoSmall }

/-- 'overflightlaw06.VectorOrderSpec', WHERE WHAT IT READS IS OF BULK AT MOST 1048576: true; the input reads as it did. -/
def vectorOrderSpecUptoRow : OpenClaim := { program := "yteohplgecfdafaa", sum := "b8d0e0e5835b1e02e84a3854cbeaeb1d6220f2e4ead5c18c7e4c1d73071598c6", func := "overflight/overflightlaw06.VectorOrderSpec", spec := "vectorOrderSpec", unfollowed := true, recurses := true, apart := false, narrowed := true }
def VectorOrderSpecUptoSaid : Prop := vectorOrderSpecUptoRow.holds Try.pinned (OpenSpec.upto vectorOrderSpecSpec)

/-- 'overflightlaw06.VectorLeastSpec', WHERE WHAT IT READS IS OF BULK AT MOST 1048576: true; the input reads as it did. -/
def vectorLeastSpecUptoRow : OpenClaim := { program := "yteohplgecfdafaa", sum := "b8d0e0e5835b1e02e84a3854cbeaeb1d6220f2e4ead5c18c7e4c1d73071598c6", func := "overflight/overflightlaw06.VectorLeastSpec", spec := "vectorLeastSpec", unfollowed := true, recurses := true, apart := false, narrowed := true }
def VectorLeastSpecUptoSaid : Prop := vectorLeastSpecUptoRow.holds Try.pinned (OpenSpec.upto vectorLeastSpecSpec)

/-- 'overflightlaw06.VectorFront', WHERE WHAT IT READS IS OF BULK AT MOST 1048576: true; the input reads as it did. -/
def vectorFrontUptoRow : OpenClaim := { program := "yteohplgecfdafaa", sum := "b8d0e0e5835b1e02e84a3854cbeaeb1d6220f2e4ead5c18c7e4c1d73071598c6", func := "overflight/overflightlaw06.VectorFront", spec := "vectorFront", unfollowed := true, recurses := true, apart := false, narrowed := true }
def VectorFrontUptoSaid : Prop := vectorFrontUptoRow.holds Try.pinned (OpenSpec.upto vectorFrontSpec)

/-- 'overflightlaw06.VectorFits', WHERE WHAT IT READS IS OF BULK AT MOST 1048576: true; the input reads as it did. -/
def vectorFitsUptoRow : OpenClaim := { program := "yteohplgecfdafaa", sum := "b8d0e0e5835b1e02e84a3854cbeaeb1d6220f2e4ead5c18c7e4c1d73071598c6", func := "overflight/overflightlaw06.VectorFits", spec := "vectorFits", unfollowed := true, recurses := true, apart := false, narrowed := true }
def VectorFitsUptoSaid : Prop := vectorFitsUptoRow.holds Try.pinned (OpenSpec.upto vectorFitsSpec)

/-- 'overflightlaw06.VectorSums', WHERE WHAT IT READS IS OF BULK AT MOST 1048576: true; the input reads as it did. -/
def vectorSumsUptoRow : OpenClaim := { program := "yteohplgecfdafaa", sum := "b8d0e0e5835b1e02e84a3854cbeaeb1d6220f2e4ead5c18c7e4c1d73071598c6", func := "overflight/overflightlaw06.VectorSums", spec := "vectorSums", unfollowed := true, recurses := true, apart := false, narrowed := true }
def VectorSumsUptoSaid : Prop := vectorSumsUptoRow.holds Try.pinned (OpenSpec.upto vectorSumsSpec)

/-- 'overflightlaw06.VectorTotal', WHERE WHAT IT READS IS OF BULK AT MOST 1048576: true; the input reads as it did. -/
def vectorTotalUptoRow : OpenClaim := { program := "yteohplgecfdafaa", sum := "b8d0e0e5835b1e02e84a3854cbeaeb1d6220f2e4ead5c18c7e4c1d73071598c6", func := "overflight/overflightlaw06.VectorTotal", spec := "vectorTotal", unfollowed := true, recurses := true, apart := false, narrowed := true }
def VectorTotalUptoSaid : Prop := vectorTotalUptoRow.holds Try.pinned (OpenSpec.upto vectorTotalSpec)

/-- 'overflightlaw06.VectorShift', WHERE WHAT IT READS IS OF BULK AT MOST 1048576: true; the input reads as it did. -/
def vectorShiftUptoRow : OpenClaim := { program := "yteohplgecfdafaa", sum := "b8d0e0e5835b1e02e84a3854cbeaeb1d6220f2e4ead5c18c7e4c1d73071598c6", func := "overflight/overflightlaw06.VectorShift", spec := "vectorShift", unfollowed := true, recurses := true, apart := false, narrowed := true }
def VectorShiftUptoSaid : Prop := vectorShiftUptoRow.holds Try.pinned (OpenSpec.upto vectorShiftSpec)

/-- 'overflightlaw06.VectorAgain', WHERE WHAT IT READS IS OF BULK AT MOST 1048576: true; the input reads as it did. -/
def vectorAgainUptoRow : OpenClaim := { program := "yteohplgecfdafaa", sum := "b8d0e0e5835b1e02e84a3854cbeaeb1d6220f2e4ead5c18c7e4c1d73071598c6", func := "overflight/overflightlaw06.VectorAgain", spec := "vectorAgain", unfollowed := true, recurses := true, apart := false, narrowed := true }
def VectorAgainUptoSaid : Prop := vectorAgainUptoRow.holds Try.pinned (OpenSpec.upto vectorAgainSpec)

end Rows
end Go.Proofs.Yteohplgecfdafaa
