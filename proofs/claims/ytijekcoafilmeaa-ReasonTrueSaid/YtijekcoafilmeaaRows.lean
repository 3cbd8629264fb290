/-
  No cell of these rows narrows 'for every input' (looked for: loops, veiled, ifaces, maps, wideKeys, modest, calm, conditions, laid).
  DERIVED. THE GIVEN ROWS OF THIS SEAT. 7 by the template 'for every input the law returns true; each argument reads behind the call as it read before'; 0 by the template 'total and deterministic' (their statements: YtijekcoafilmeaaTotals.lean).
  GIVEN WITH THE SEED: the statements are not yours to turn. If you find one false, say at which input.
  Laid BY PROGRAM, IN A SANDBOX (cutbox-rows.mjs): the forced cells as the released guide's own fill.sh prints them over the translation a86d213758aa8864… (all of the seat's roots in one cut). By AI agents, Wed Nov 11 2026. No macro, syntax, notation, axiom, sorry.
-/
import Derived.Test.YtijekcoafilmeaaChecked
import GoSem.Claim
import GoSem.ClaimJoined
import GoSem.ClaimMapViews
import Derived.JoinedTies
import Derived.KernelRfl
namespace Go.Proofs.Ytijekcoafilmeaa
/- THE CELL 'sum', in the pinned program and in every row, IS THE sha256 OF THE DUMP (.gsa) THAT YtijekcoafilmeaaProg.lean LOADS. Nothing in Lean hashes anything: it is a label: what it is worth is what the hold of that sum in a sandbox is worth. -/
noncomputable def Try.pinned : Pinned := { name := "ytijekcoafilmeaa", sum := "a86d213758aa8864f733b7ce9478043cb700d39ad10104e6ef36f8d29c41e62c", checked := Try.checked }
namespace Rows
def none {H : Type} : Left H := { results := [], args := [] }

/-- 'overflightlaw32.ReasonTrue': WHATEVER THE INPUT: true; the input reads as it did. -/
def reasonTrueSpec : ChangeSpec := { name := "reasonTrue", fn := fun _ => fun
  | [d] => { results := [.lit (.bool true)], args := [d] }
  | _ => none }
def reasonTrueRow : OpenClaim := { program := "ytijekcoafilmeaa", sum := "a86d213758aa8864f733b7ce9478043cb700d39ad10104e6ef36f8d29c41e62c", func := "overflight/overflightlaw32.ReasonTrue", spec := "reasonTrue", unfollowed := true, recurses := true, plainKeys := false, apart := false }
def ReasonTrueSaid : Prop := reasonTrueRow.holds Try.pinned (OpenSpec.ofChange reasonTrueSpec)

/-- ITS FALSE NEIGHBOUR: 'it returns false'. Refute it at one input. -/
def reasonTrueWrong : ChangeSpec := { name := "reasonTrue", fn := fun _ => fun
  | [d] => { results := [.lit (.bool false)], args := [d] }
  | _ => none }
def ReasonTrueWrongFalsely : Prop := reasonTrueRow.holds Try.pinned (OpenSpec.ofChange reasonTrueWrong)

/-- 'overflightlaw32.ReasonMore': WHATEVER THE INPUT: true; the input reads as it did. -/
def reasonMoreSpec : ChangeSpec := { name := "reasonMore", fn := fun _ => fun
  | [d1, d2, d3, d4, d5, d6] => { results := [.lit (.bool true)], args := [d1, d2, d3, d4, d5, d6] }
  | _ => none }
def reasonMoreRow : OpenClaim := { program := "ytijekcoafilmeaa", sum := "a86d213758aa8864f733b7ce9478043cb700d39ad10104e6ef36f8d29c41e62c", func := "overflight/overflightlaw32.ReasonMore", spec := "reasonMore", unfollowed := true, recurses := true, plainKeys := false, apart := false }
def ReasonMoreSaid : Prop := reasonMoreRow.holds Try.pinned (OpenSpec.ofChange reasonMoreSpec)

/-- ITS FALSE NEIGHBOUR: 'it returns false'. Refute it at one input. -/
def reasonMoreWrong : ChangeSpec := { name := "reasonMore", fn := fun _ => fun
  | [d1, d2, d3, d4, d5, d6] => { results := [.lit (.bool false)], args := [d1, d2, d3, d4, d5, d6] }
  | _ => none }
def ReasonMoreWrongFalsely : Prop := reasonMoreRow.holds Try.pinned (OpenSpec.ofChange reasonMoreWrong)

/-- 'overflightlaw32.ReasonCheckSpec': WHATEVER THE INPUT: true; the input reads as it did. -/
def reasonCheckSpecSpec : ChangeSpec := { name := "reasonCheckSpec", fn := fun _ => fun
  | [d1, d2] => { results := [.lit (.bool true)], args := [d1, d2] }
  | _ => none }
def reasonCheckSpecRow : OpenClaim := { program := "ytijekcoafilmeaa", sum := "a86d213758aa8864f733b7ce9478043cb700d39ad10104e6ef36f8d29c41e62c", func := "overflight/overflightlaw32.ReasonCheckSpec", spec := "reasonCheckSpec", unfollowed := true, recurses := true, plainKeys := false, apart := false }
def ReasonCheckSpecSaid : Prop := reasonCheckSpecRow.holds Try.pinned (OpenSpec.ofChange reasonCheckSpecSpec)

/-- ITS FALSE NEIGHBOUR: 'it returns false'. Refute it at one input. -/
def reasonCheckSpecWrong : ChangeSpec := { name := "reasonCheckSpec", fn := fun _ => fun
  | [d1, d2] => { results := [.lit (.bool false)], args := [d1, d2] }
  | _ => none }
def ReasonCheckSpecWrongFalsely : Prop := reasonCheckSpecRow.holds Try.pinned (OpenSpec.ofChange reasonCheckSpecWrong)

/-- 'overflightlaw32.ReasonProvesSpec': WHATEVER THE INPUT: true; the input reads as it did. -/
def reasonProvesSpecSpec : ChangeSpec := { name := "reasonProvesSpec", fn := fun _ => fun
  | [d1, d2] => { results := [.lit (.bool true)], args := [d1, d2] }
  | _ => none }
def reasonProvesSpecRow : OpenClaim := { program := "ytijekcoafilmeaa", sum := "a86d213758aa8864f733b7ce9478043cb700d39ad10104e6ef36f8d29c41e62c", func := "overflight/overflightlaw32.ReasonProvesSpec", spec := "reasonProvesSpec", unfollowed := true, recurses := true, plainKeys := false, apart := false }
def ReasonProvesSpecSaid : Prop := reasonProvesSpecRow.holds Try.pinned (OpenSpec.ofChange reasonProvesSpecSpec)

/-- ITS FALSE NEIGHBOUR: 'it returns false'. Refute it at one input. -/
def reasonProvesSpecWrong : ChangeSpec := { name := "reasonProvesSpec", fn := fun _ => fun
  | [d1, d2] => { results := [.lit (.bool false)], args := [d1, d2] }
  | _ => none }
def ReasonProvesSpecWrongFalsely : Prop := reasonProvesSpecRow.holds Try.pinned (OpenSpec.ofChange reasonProvesSpecWrong)

/-- 'overflightlaw32.ReasonSmallestSpec': WHATEVER THE INPUT: true; the input reads as it did. -/
def reasonSmallestSpecSpec : ChangeSpec := { name := "reasonSmallestSpec", fn := fun _ => fun
  | [d] => { results := [.lit (.bool true)], args := [d] }
  | _ => none }
def reasonSmallestSpecRow : OpenClaim := { program := "ytijekcoafilmeaa", sum := "a86d213758aa8864f733b7ce9478043cb700d39ad10104e6ef36f8d29c41e62c", func := "overflight/overflightlaw32.ReasonSmallestSpec", spec := "reasonSmallestSpec", unfollowed := true, recurses := true, plainKeys := false, apart := false }
def ReasonSmallestSpecSaid : Prop := reasonSmallestSpecRow.holds Try.pinned (OpenSpec.ofChange reasonSmallestSpecSpec)

/-- ITS FALSE NEIGHBOUR: 'it returns false'. Refute it at one input. -/
def reasonSmallestSpecWrong : ChangeSpec := { name := "reasonSmallestSpec", fn := fun _ => fun
  | [d] => { results := [.lit (.bool false)], args := [d] }
  | _ => none }
def ReasonSmallestSpecWrongFalsely : Prop := reasonSmallestSpecRow.holds Try.pinned (OpenSpec.ofChange reasonSmallestSpecWrong)

/-- 'overflightlaw32.ReasonFewest': WHATEVER THE INPUT: true; the input reads as it did. -/
def reasonFewestSpec : ChangeSpec := { name := "reasonFewest", fn := fun _ => fun
  | [d1, d2] => { results := [.lit (.bool true)], args := [d1, d2] }
  | _ => none }
def reasonFewestRow : OpenClaim := { program := "ytijekcoafilmeaa", sum := "a86d213758aa8864f733b7ce9478043cb700d39ad10104e6ef36f8d29c41e62c", func := "overflight/overflightlaw32.ReasonFewest", spec := "reasonFewest", unfollowed := true, recurses := true, plainKeys := false, apart := false }
def ReasonFewestSaid : Prop := reasonFewestRow.holds Try.pinned (OpenSpec.ofChange reasonFewestSpec)

/-- ITS FALSE NEIGHBOUR: 'it returns false'. Refute it at one input. -/
def reasonFewestWrong : ChangeSpec := { name := "reasonFewest", fn := fun _ => fun
  | [d1, d2] => { results := [.lit (.bool false)], args := [d1, d2] }
  | _ => none }
def ReasonFewestWrongFalsely : Prop := reasonFewestRow.holds Try.pinned (OpenSpec.ofChange reasonFewestWrong)

/-- 'overflightlaw32.ReasonPart': WHATEVER THE INPUT: true; the input reads as it did. -/
def reasonPartSpec : ChangeSpec := { name := "reasonPart", fn := fun _ => fun
  | [d1, d2] => { results := [.lit (.bool true)], args := [d1, d2] }
  | _ => none }
def reasonPartRow : OpenClaim := { program := "ytijekcoafilmeaa", sum := "a86d213758aa8864f733b7ce9478043cb700d39ad10104e6ef36f8d29c41e62c", func := "overflight/overflightlaw32.ReasonPart", spec := "reasonPart", unfollowed := true, recurses := true, plainKeys := false, apart := false }
def ReasonPartSaid : Prop := reasonPartRow.holds Try.pinned (OpenSpec.ofChange reasonPartSpec)

/-- ITS FALSE NEIGHBOUR: 'it returns false'. Refute it at one input. -/
def reasonPartWrong : ChangeSpec := { name := "reasonPart", fn := fun _ => fun
  | [d1, d2] => { results := [.lit (.bool false)], args := [d1, d2] }
  | _ => none }
def ReasonPartWrongFalsely : Prop := reasonPartRow.holds Try.pinned (OpenSpec.ofChange reasonPartWrong)

/- THE SECOND FORM. 'bulk': how many values and letters a reading holds, each counted each time it is reached (what is shared counts as often as it is met; a slice's spare places count too). A statement '..UptoSaid' is the law's where the arguments, and the package variables that the reading takes, are together of bulk at most 1048576: NARROWER than '..Said'. Prove '..Said' where nothing that the law and all that it calls make is longer than what came in: it says more and counts as full. Else prove '..UptoSaid'. A law counts once. -/
mutual
def uptoBulk {H : Type} : DataW H → Nat
  | .lit (.string bytes) => bytes.length + 1
  | .lit _ => 1
  | .nil => 1
  | .ptr d => uptoBulk d + 1
  | .slice elems spare => uptoBulkAll elems + uptoBulkAll spare + 1
  | .agg parts => uptoBulkAll parts + 1
  | .iface _ d => uptoBulk d + 1
  | .map entries => uptoBulkEntries entries + 1
  | .held _ => 1
def uptoBulkAll {H : Type} : List (DataW H) → Nat
  | [] => 0
  | d :: r => uptoBulk d + uptoBulkAll r
def uptoBulkEntries {H : Type} : List (Lit × DataW H) → Nat
  | [] => 0
  | x :: r => uptoBulkEntry x + uptoBulkEntries r
def uptoBulkEntry {H : Type} : Lit × DataW H → Nat
  | (.string bytes, d) => bytes.length + uptoBulk d + 1
  | (_, d) => uptoBulk d + 1
 end
def uptoSmall : (H : Type) → List (DataW H) → Bool := fun _ ds => decide (uptoBulkAll ds ≤ 1048576)
def OpenSpec.upto (s : _root_.Go.ChangeSpec) : _root_.Go.OpenSpec := { _root_.Go.OpenSpec.ofChange s with cond := some uptoSmall }

/-- 'overflightlaw32.ReasonTrue', WHERE WHAT IT READS IS OF BULK AT MOST 1048576: true; the input reads as it did. -/
def reasonTrueUptoRow : OpenClaim := { program := "ytijekcoafilmeaa", sum := "a86d213758aa8864f733b7ce9478043cb700d39ad10104e6ef36f8d29c41e62c", func := "overflight/overflightlaw32.ReasonTrue", spec := "reasonTrue", unfollowed := true, recurses := true, plainKeys := false, apart := false, narrowed := true }
def ReasonTrueUptoSaid : Prop := reasonTrueUptoRow.holds Try.pinned (OpenSpec.upto reasonTrueSpec)

/-- 'overflightlaw32.ReasonMore', WHERE WHAT IT READS IS OF BULK AT MOST 1048576: true; the input reads as it did. -/
def reasonMoreUptoRow : OpenClaim := { program := "ytijekcoafilmeaa", sum := "a86d213758aa8864f733b7ce9478043cb700d39ad10104e6ef36f8d29c41e62c", func := "overflight/overflightlaw32.ReasonMore", spec := "reasonMore", unfollowed := true, recurses := true, plainKeys := false, apart := false, narrowed := true }
def ReasonMoreUptoSaid : Prop := reasonMoreUptoRow.holds Try.pinned (OpenSpec.upto reasonMoreSpec)

/-- 'overflightlaw32.ReasonCheckSpec', WHERE WHAT IT READS IS OF BULK AT MOST 1048576: true; the input reads as it did. -/
def reasonCheckSpecUptoRow : OpenClaim := { program := "ytijekcoafilmeaa", sum := "a86d213758aa8864f733b7ce9478043cb700d39ad10104e6ef36f8d29c41e62c", func := "overflight/overflightlaw32.ReasonCheckSpec", spec := "reasonCheckSpec", unfollowed := true, recurses := true, plainKeys := false, apart := false, narrowed := true }
def ReasonCheckSpecUptoSaid : Prop := reasonCheckSpecUptoRow.holds Try.pinned (OpenSpec.upto reasonCheckSpecSpec)

/-- 'overflightlaw32.ReasonProvesSpec', WHERE WHAT IT READS IS OF BULK AT MOST 1048576: true; the input reads as it did. -/
def reasonProvesSpecUptoRow : OpenClaim := { program := "ytijekcoafilmeaa", sum := "a86d213758aa8864f733b7ce9478043cb700d39ad10104e6ef36f8d29c41e62c", func := "overflight/overflightlaw32.ReasonProvesSpec", spec := "reasonProvesSpec", unfollowed := true, recurses := true, plainKeys := false, apart := false, narrowed := true }
def ReasonProvesSpecUptoSaid : Prop := reasonProvesSpecUptoRow.holds Try.pinned (OpenSpec.upto reasonProvesSpecSpec)

/-- 'overflightlaw32.ReasonSmallestSpec', WHERE WHAT IT READS IS OF BULK AT MOST 1048576: true; the input reads as it did. -/
def reasonSmallestSpecUptoRow : OpenClaim := { program := "ytijekcoafilmeaa", sum := "a86d213758aa8864f733b7ce9478043cb700d39ad10104e6ef36f8d29c41e62c", func := "overflight/overflightlaw32.ReasonSmallestSpec", spec := "reasonSmallestSpec", unfollowed := true, recurses := true, plainKeys := false, apart := false, narrowed := true }
def ReasonSmallestSpecUptoSaid : Prop := reasonSmallestSpecUptoRow.holds Try.pinned (OpenSpec.upto reasonSmallestSpecSpec)

/-- 'overflightlaw32.ReasonFewest', WHERE WHAT IT READS IS OF BULK AT MOST 1048576: true; the input reads as it did. -/
def reasonFewestUptoRow : OpenClaim := { program := "ytijekcoafilmeaa", sum := "a86d213758aa8864f733b7ce9478043cb700d39ad10104e6ef36f8d29c41e62c", func := "overflight/overflightlaw32.ReasonFewest", spec := "reasonFewest", unfollowed := true, recurses := true, plainKeys := false, apart := false, narrowed := true }
def ReasonFewestUptoSaid : Prop := reasonFewestUptoRow.holds Try.pinned (OpenSpec.upto reasonFewestSpec)

/-- 'overflightlaw32.ReasonPart', WHERE WHAT IT READS IS OF BULK AT MOST 1048576: true; the input reads as it did. -/
def reasonPartUptoRow : OpenClaim := { program := "ytijekcoafilmeaa", sum := "a86d213758aa8864f733b7ce9478043cb700d39ad10104e6ef36f8d29c41e62c", func := "overflight/overflightlaw32.ReasonPart", spec := "reasonPart", unfollowed := true, recurses := true, plainKeys := false, apart := false, narrowed := true }
def ReasonPartUptoSaid : Prop := reasonPartUptoRow.holds Try.pinned (OpenSpec.upto reasonPartSpec)

end Rows
end Go.Proofs.Ytijekcoafilmeaa
