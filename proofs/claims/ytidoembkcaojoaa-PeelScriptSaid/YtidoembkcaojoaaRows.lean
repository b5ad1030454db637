/-
  No cell of these rows narrows 'for every input' (looked for: loops, veiled, ifaces, maps, wideKeys, modest, calm, conditions, laid).
  DERIVED. THE GIVEN ROWS OF THIS SEAT. 6 by the template 'for every input the law returns true; each argument reads behind the call as it read before'; 0 by the template 'total and deterministic' (their statements: YtidoembkcaojoaaTotals.lean).
  GIVEN WITH THE SEED: the statements are not yours to turn. If you find one false, say at which input.
  Laid BY PROGRAM, IN A SANDBOX (cutbox-rows.mjs): the forced cells as the released guide's own fill.sh prints them over the translation d1defa6892999b8e… (all of the seat's roots in one cut). By AI agents, Wed Nov 11 2026. No macro, syntax, notation, axiom, sorry.
-/
import Derived.Test.YtidoembkcaojoaaChecked
import GoSem.Claim
import GoSem.ClaimJoined
import GoSem.ClaimMapViews
import Derived.JoinedTies
import Derived.KernelRfl
namespace Go.Proofs.Ytidoembkcaojoaa
/- THE CELL 'sum', in the pinned program and in every row, IS THE sha256 OF THE DUMP (.gsa) THAT YtidoembkcaojoaaProg.lean LOADS. Nothing in Lean hashes anything: it is a label: what it is worth is what the hold of that sum in a sandbox is worth. -/
noncomputable def Try.pinned : Pinned := { name := "ytidoembkcaojoaa", sum := "d1defa6892999b8e34de307276dc4c31eb8d7b306158c5d58b3749c056269b07", checked := Try.checked }
namespace Rows
def none {H : Type} : Left H := { results := [], args := [] }

/-- 'artesianlaw21.PeelRefused': WHATEVER THE INPUT: true; the input reads as it did. -/
def peelRefusedSpec : ChangeSpec := { name := "peelRefused", fn := fun _ => fun
  | [d1, d2, d3, d4] => { results := [.lit (.bool true)], args := [d1, d2, d3, d4] }
  | _ => none }
def peelRefusedRow : OpenClaim := { program := "ytidoembkcaojoaa", sum := "d1defa6892999b8e34de307276dc4c31eb8d7b306158c5d58b3749c056269b07", func := "artesian/artesianlaw21.PeelRefused", spec := "peelRefused", unfollowed := true, recurses := true, apart := false }
def PeelRefusedSaid : Prop := peelRefusedRow.holds Try.pinned (OpenSpec.ofChange peelRefusedSpec)

/-- ITS FALSE NEIGHBOUR: 'it returns false'. Refute it at one input. -/
def peelRefusedWrong : ChangeSpec := { name := "peelRefused", fn := fun _ => fun
  | [d1, d2, d3, d4] => { results := [.lit (.bool false)], args := [d1, d2, d3, d4] }
  | _ => none }
def PeelRefusedWrongFalsely : Prop := peelRefusedRow.holds Try.pinned (OpenSpec.ofChange peelRefusedWrong)

/-- 'artesianlaw21.PeelKnown': WHATEVER THE INPUT: true; the input reads as it did. -/
def peelKnownSpec : ChangeSpec := { name := "peelKnown", fn := fun _ => fun
  | [] => { results := [.lit (.bool true)], args := [] }
  | _ => none }
def peelKnownRow : OpenClaim := { program := "ytidoembkcaojoaa", sum := "d1defa6892999b8e34de307276dc4c31eb8d7b306158c5d58b3749c056269b07", func := "artesian/artesianlaw21.PeelKnown", spec := "peelKnown", unfollowed := true, recurses := true, apart := false }
def PeelKnownSaid : Prop := peelKnownRow.holds Try.pinned (OpenSpec.ofChange peelKnownSpec)

/-- ITS FALSE NEIGHBOUR: 'it returns false'. Refute it at one input. -/
def peelKnownWrong : ChangeSpec := { name := "peelKnown", fn := fun _ => fun
  | [] => { results := [.lit (.bool false)], args := [] }
  | _ => none }
def PeelKnownWrongFalsely : Prop := peelKnownRow.holds Try.pinned (OpenSpec.ofChange peelKnownWrong)

/-- 'artesianlaw21.PeelScript': WHATEVER THE INPUT: true; the input reads as it did. -/
def peelScriptSpec : ChangeSpec := { name := "peelScript", fn := fun _ => fun
  | [d1, d2, d3, d4] => { results := [.lit (.bool true)], args := [d1, d2, d3, d4] }
  | _ => none }
def peelScriptRow : OpenClaim := { program := "ytidoembkcaojoaa", sum := "d1defa6892999b8e34de307276dc4c31eb8d7b306158c5d58b3749c056269b07", func := "artesian/artesianlaw21.PeelScript", spec := "peelScript", unfollowed := true, recurses := true, apart := false }
def PeelScriptSaid : Prop := peelScriptRow.holds Try.pinned (OpenSpec.ofChange peelScriptSpec)

/-- ITS FALSE NEIGHBOUR: 'it returns false'. Refute it at one input. -/
def peelScriptWrong : ChangeSpec := { name := "peelScript", fn := fun _ => fun
  | [d1, d2, d3, d4] => { results := [.lit (.bool false)], args := [d1, d2, d3, d4] }
  | _ => none }
def PeelScriptWrongFalsely : Prop := peelScriptRow.holds Try.pinned (OpenSpec.ofChange peelScriptWrong)

/-- 'artesianlaw21.PeelNone': WHATEVER THE INPUT: true; the input reads as it did. -/
def peelNoneSpec : ChangeSpec := { name := "peelNone", fn := fun _ => fun
  | [d] => { results := [.lit (.bool true)], args := [d] }
  | _ => none }
def peelNoneRow : OpenClaim := { program := "ytidoembkcaojoaa", sum := "d1defa6892999b8e34de307276dc4c31eb8d7b306158c5d58b3749c056269b07", func := "artesian/artesianlaw21.PeelNone", spec := "peelNone", unfollowed := true, recurses := true, apart := false }
def PeelNoneSaid : Prop := peelNoneRow.holds Try.pinned (OpenSpec.ofChange peelNoneSpec)

/-- ITS FALSE NEIGHBOUR: 'it returns false'. Refute it at one input. -/
def peelNoneWrong : ChangeSpec := { name := "peelNone", fn := fun _ => fun
  | [d] => { results := [.lit (.bool false)], args := [d] }
  | _ => none }
def PeelNoneWrongFalsely : Prop := peelNoneRow.holds Try.pinned (OpenSpec.ofChange peelNoneWrong)

/-- 'artesianlaw21.PeelTrue': WHATEVER THE INPUT: true; the input reads as it did. -/
def peelTrueSpec : ChangeSpec := { name := "peelTrue", fn := fun _ => fun
  | [d1, d2, d3] => { results := [.lit (.bool true)], args := [d1, d2, d3] }
  | _ => none }
def peelTrueRow : OpenClaim := { program := "ytidoembkcaojoaa", sum := "d1defa6892999b8e34de307276dc4c31eb8d7b306158c5d58b3749c056269b07", func := "artesian/artesianlaw21.PeelTrue", spec := "peelTrue", unfollowed := true, recurses := true, apart := false }
def PeelTrueSaid : Prop := peelTrueRow.holds Try.pinned (OpenSpec.ofChange peelTrueSpec)

/-- ITS FALSE NEIGHBOUR: 'it returns false'. Refute it at one input. -/
def peelTrueWrong : ChangeSpec := { name := "peelTrue", fn := fun _ => fun
  | [d1, d2, d3] => { results := [.lit (.bool false)], args := [d1, d2, d3] }
  | _ => none }
def PeelTrueWrongFalsely : Prop := peelTrueRow.holds Try.pinned (OpenSpec.ofChange peelTrueWrong)

/-- 'artesianlaw21.PeelOrder': WHATEVER THE INPUT: true; the input reads as it did. -/
def peelOrderSpec : ChangeSpec := { name := "peelOrder", fn := fun _ => fun
  | [d1, d2, d3, d4] => { results := [.lit (.bool true)], args := [d1, d2, d3, d4] }
  | _ => none }
def peelOrderRow : OpenClaim := { program := "ytidoembkcaojoaa", sum := "d1defa6892999b8e34de307276dc4c31eb8d7b306158c5d58b3749c056269b07", func := "artesian/artesianlaw21.PeelOrder", spec := "peelOrder", unfollowed := true, recurses := true, apart := false }
def PeelOrderSaid : Prop := peelOrderRow.holds Try.pinned (OpenSpec.ofChange peelOrderSpec)

/-- ITS FALSE NEIGHBOUR: 'it returns false'. Refute it at one input. -/
def peelOrderWrong : ChangeSpec := { name := "peelOrder", fn := fun _ => fun
  | [d1, d2, d3, d4] => { results := [.lit (.bool false)], args := [d1, d2, d3, d4] }
  | _ => none }
def PeelOrderWrongFalsely : Prop := peelOrderRow.holds Try.pinned (OpenSpec.ofChange peelOrderWrong)

/- THE SECOND FORM. 'bulk': how many values and letters a reading holds, each counted each time it is reached (what is shared counts as often as it is met; a slice's spare places count too). A statement '..UptoSaid' is the law's where the arguments, and the package variables that the reading takes, are together of bulk at most 1048576: NARROWER than '..Said'. Prove '..Said' where nothing that the law and all that it calls make is longer than what came in: it says more and counts as full. Else prove '..UptoSaid'. A law counts once. -/
mutual
def uptoBulk {H : Type} : DataW H → Nat
  | .lit (.string bytes) => bytes.length + 1
  | .lit _ => 1
  | .nil => 1
  | .ptr d => uptoBulk d + 1
  | .slice elems spare => uptoBulkAll elems + uptoBulkAll spare + 1
  | .agg parts => uptoBulkAll parts + 1
  | .iface _ d => uptoBulk d + 1
  | .map entries => uptoBulkEntries entries + 1
  | .held _ => 1
def uptoBulkAll {H : Type} : List (DataW H) → Nat
  | [] => 0
  | d :: r => uptoBulk d + uptoBulkAll r
def uptoBulkEntries {H : Type} : List (Lit × DataW H) → Nat
  | [] => 0
  | x :: r => uptoBulkEntry x + uptoBulkEntries r
def uptoBulkEntry {H : Type} : Lit × DataW H → Nat
  | (.string bytes, d) => bytes.length + uptoBulk d + 1
  | (_, d) => uptoBulk d + 1
 end
def uptoSmall : (H : Type) → List (DataW H) → Bool := fun _ ds => decide (uptoBulkAll ds ≤ 1048576)
def OpenSpec.upto (s : _root_.Go.ChangeSpec) : _root_.Go.OpenSpec := { _root_.Go.OpenSpec.ofChange s with cond := some uptoSmall }

/-- 'artesianlaw21.PeelRefused', WHERE WHAT IT READS IS OF BULK AT MOST 1048576: true; the input reads as it did. -/
def peelRefusedUptoRow : OpenClaim := { program := "ytidoembkcaojoaa", sum := "d1defa6892999b8e34de307276dc4c31eb8d7b306158c5d58b3749c056269b07", func := "artesian/artesianlaw21.PeelRefused", spec := "peelRefused", unfollowed := true, recurses := true, apart := false, narrowed := true }
def PeelRefusedUptoSaid : Prop := peelRefusedUptoRow.holds Try.pinned (OpenSpec.upto peelRefusedSpec)

/-- 'artesianlaw21.PeelKnown', WHERE WHAT IT READS IS OF BULK AT MOST 1048576: true; the input reads as it did. -/
def peelKnownUptoRow : OpenClaim := { program := "ytidoembkcaojoaa", sum := "d1defa6892999b8e34de307276dc4c31eb8d7b306158c5d58b3749c056269b07", func := "artesian/artesianlaw21.PeelKnown", spec := "peelKnown", unfollowed := true, recurses := true, apart := false, narrowed := true }
def PeelKnownUptoSaid : Prop := peelKnownUptoRow.holds Try.pinned (OpenSpec.upto peelKnownSpec)

/-- 'artesianlaw21.PeelScript', WHERE WHAT IT READS IS OF BULK AT MOST 1048576: true; the input reads as it did. -/
def peelScriptUptoRow : OpenClaim := { program := "ytidoembkcaojoaa", sum := "d1defa6892999b8e34de307276dc4c31eb8d7b306158c5d58b3749c056269b07", func := "artesian/artesianlaw21.PeelScript", spec := "peelScript", unfollowed := true, recurses := true, apart := false, narrowed := true }
def PeelScriptUptoSaid : Prop := peelScriptUptoRow.holds Try.pinned (OpenSpec.upto peelScriptSpec)

/-- 'artesianlaw21.PeelNone', WHERE WHAT IT READS IS OF BULK AT MOST 1048576: true; the input reads as it did. -/
def peelNoneUptoRow : OpenClaim := { program := "ytidoembkcaojoaa", sum := "d1defa6892999b8e34de307276dc4c31eb8d7b306158c5d58b3749c056269b07", func := "artesian/artesianlaw21.PeelNone", spec := "peelNone", unfollowed := true, recurses := true, apart := false, narrowed := true }
def PeelNoneUptoSaid : Prop := peelNoneUptoRow.holds Try.pinned (OpenSpec.upto peelNoneSpec)

/-- 'artesianlaw21.PeelTrue', WHERE WHAT IT READS IS OF BULK AT MOST 1048576: true; the input reads as it did. -/
def peelTrueUptoRow : OpenClaim := { program := "ytidoembkcaojoaa", sum := "d1defa6892999b8e34de307276dc4c31eb8d7b306158c5d58b3749c056269b07", func := "artesian/artesianlaw21.PeelTrue", spec := "peelTrue", unfollowed := true, recurses := true, apart := false, narrowed := true }
def PeelTrueUptoSaid : Prop := peelTrueUptoRow.holds Try.pinned (OpenSpec.upto peelTrueSpec)

/-- 'artesianlaw21.PeelOrder', WHERE WHAT IT READS IS OF BULK AT MOST 1048576: true; the input reads as it did. -/
def peelOrderUptoRow : OpenClaim := { program := "ytidoembkcaojoaa", sum := "d1defa6892999b8e34de307276dc4c31eb8d7b306158c5d58b3749c056269b07", func := "artesian/artesianlaw21.PeelOrder", spec := "peelOrder", unfollowed := true, recurses := true, apart := false, narrowed := true }
def PeelOrderUptoSaid : Prop := peelOrderUptoRow.holds Try.pinned (OpenSpec.upto peelOrderSpec)

end Rows
end Go.Proofs.Ytidoembkcaojoaa
