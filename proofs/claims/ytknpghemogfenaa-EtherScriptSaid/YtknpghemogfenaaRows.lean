/-
  No cell of these rows narrows 'for every input' (looked for: loops, veiled, ifaces, maps, wideKeys, modest, calm, conditions, laid).
  DERIVED. THE GIVEN ROWS OF THIS SEAT. 6 by the template 'for every input the law returns true; each argument reads behind the call as it read before'; 0 by the template 'total and deterministic' (their statements: YtknpghemogfenaaTotals.lean).
  GIVEN WITH THE SEED: the statements are not yours to turn. If you find one false, say at which input.
  Laid BY PROGRAM, IN A SANDBOX (cutbox-rows.mjs): the forced cells as the released guide's own fill.sh prints them over the translation 8fb9eebf15ff74c3… (all of the seat's roots in one cut). By AI agents, Wed Nov 11 2026. No macro, syntax, notation, axiom, sorry.
-/
import Derived.Test.YtknpghemogfenaaChecked
import GoSem.Claim
import GoSem.ClaimJoined
import GoSem.ClaimMapViews
import Derived.JoinedTies
import Derived.KernelRfl
namespace Go.Proofs.Ytknpghemogfenaa
/- THE CELL 'sum', in the pinned program and in every row, IS THE sha256 OF THE DUMP (.gsa) THAT YtknpghemogfenaaProg.lean LOADS. Nothing in Lean hashes anything: it is a label: what it is worth is what the hold of that sum in a sandbox is worth. -/
noncomputable def Try.pinned : Pinned := { name := "ytknpghemogfenaa", sum := "8fb9eebf15ff74c31ba442cff7dbd6952b9f80c1db0cf278302cc68b3365021e", checked := Try.checked }
namespace Rows
def none {H : Type} : Left H := { results := [], args := [] }

/-- 'artesianlaw31.EtherPlain': WHATEVER THE INPUT: true; the input reads as it did. -/
def etherPlainSpec : ChangeSpec := { name := "etherPlain", fn := fun _ => fun
  | [d] => { results := [.lit (.bool true)], args := [d] }
  | _ => none }
def etherPlainRow : OpenClaim := { program := "ytknpghemogfenaa", sum := "8fb9eebf15ff74c31ba442cff7dbd6952b9f80c1db0cf278302cc68b3365021e", func := "artesian/artesianlaw31.EtherPlain", spec := "etherPlain", unfollowed := true, recurses := true, apart := false }
def EtherPlainSaid : Prop := etherPlainRow.holds Try.pinned (OpenSpec.ofChange etherPlainSpec)

/-- ITS FALSE NEIGHBOUR: 'it returns false'. Refute it at one input. -/
def etherPlainWrong : ChangeSpec := { name := "etherPlain", fn := fun _ => fun
  | [d] => { results := [.lit (.bool false)], args := [d] }
  | _ => none }
def EtherPlainWrongFalsely : Prop := etherPlainRow.holds Try.pinned (OpenSpec.ofChange etherPlainWrong)

/-- 'artesianlaw31.EtherTrue': WHATEVER THE INPUT: true; the input reads as it did. -/
def etherTrueSpec : ChangeSpec := { name := "etherTrue", fn := fun _ => fun
  | [d1, d2, d3] => { results := [.lit (.bool true)], args := [d1, d2, d3] }
  | _ => none }
def etherTrueRow : OpenClaim := { program := "ytknpghemogfenaa", sum := "8fb9eebf15ff74c31ba442cff7dbd6952b9f80c1db0cf278302cc68b3365021e", func := "artesian/artesianlaw31.EtherTrue", spec := "etherTrue", unfollowed := true, recurses := true, apart := false }
def EtherTrueSaid : Prop := etherTrueRow.holds Try.pinned (OpenSpec.ofChange etherTrueSpec)

/-- ITS FALSE NEIGHBOUR: 'it returns false'. Refute it at one input. -/
def etherTrueWrong : ChangeSpec := { name := "etherTrue", fn := fun _ => fun
  | [d1, d2, d3] => { results := [.lit (.bool false)], args := [d1, d2, d3] }
  | _ => none }
def EtherTrueWrongFalsely : Prop := etherTrueRow.holds Try.pinned (OpenSpec.ofChange etherTrueWrong)

/-- 'artesianlaw31.EtherKnown': WHATEVER THE INPUT: true; the input reads as it did. -/
def etherKnownSpec : ChangeSpec := { name := "etherKnown", fn := fun _ => fun
  | [] => { results := [.lit (.bool true)], args := [] }
  | _ => none }
def etherKnownRow : OpenClaim := { program := "ytknpghemogfenaa", sum := "8fb9eebf15ff74c31ba442cff7dbd6952b9f80c1db0cf278302cc68b3365021e", func := "artesian/artesianlaw31.EtherKnown", spec := "etherKnown", unfollowed := true, recurses := true, apart := false }
def EtherKnownSaid : Prop := etherKnownRow.holds Try.pinned (OpenSpec.ofChange etherKnownSpec)

/-- ITS FALSE NEIGHBOUR: 'it returns false'. Refute it at one input. -/
def etherKnownWrong : ChangeSpec := { name := "etherKnown", fn := fun _ => fun
  | [] => { results := [.lit (.bool false)], args := [] }
  | _ => none }
def EtherKnownWrongFalsely : Prop := etherKnownRow.holds Try.pinned (OpenSpec.ofChange etherKnownWrong)

/-- 'artesianlaw31.EtherScript': WHATEVER THE INPUT: true; the input reads as it did. -/
def etherScriptSpec : ChangeSpec := { name := "etherScript", fn := fun _ => fun
  | [d1, d2, d3] => { results := [.lit (.bool true)], args := [d1, d2, d3] }
  | _ => none }
def etherScriptRow : OpenClaim := { program := "ytknpghemogfenaa", sum := "8fb9eebf15ff74c31ba442cff7dbd6952b9f80c1db0cf278302cc68b3365021e", func := "artesian/artesianlaw31.EtherScript", spec := "etherScript", unfollowed := true, recurses := true, apart := false }
def EtherScriptSaid : Prop := etherScriptRow.holds Try.pinned (OpenSpec.ofChange etherScriptSpec)

/-- ITS FALSE NEIGHBOUR: 'it returns false'. Refute it at one input. -/
def etherScriptWrong : ChangeSpec := { name := "etherScript", fn := fun _ => fun
  | [d1, d2, d3] => { results := [.lit (.bool false)], args := [d1, d2, d3] }
  | _ => none }
def EtherScriptWrongFalsely : Prop := etherScriptRow.holds Try.pinned (OpenSpec.ofChange etherScriptWrong)

/-- 'artesianlaw31.EtherNone': WHATEVER THE INPUT: true; the input reads as it did. -/
def etherNoneSpec : ChangeSpec := { name := "etherNone", fn := fun _ => fun
  | [d] => { results := [.lit (.bool true)], args := [d] }
  | _ => none }
def etherNoneRow : OpenClaim := { program := "ytknpghemogfenaa", sum := "8fb9eebf15ff74c31ba442cff7dbd6952b9f80c1db0cf278302cc68b3365021e", func := "artesian/artesianlaw31.EtherNone", spec := "etherNone", unfollowed := true, recurses := true, apart := false }
def EtherNoneSaid : Prop := etherNoneRow.holds Try.pinned (OpenSpec.ofChange etherNoneSpec)

/-- ITS FALSE NEIGHBOUR: 'it returns false'. Refute it at one input. -/
def etherNoneWrong : ChangeSpec := { name := "etherNone", fn := fun _ => fun
  | [d] => { results := [.lit (.bool false)], args := [d] }
  | _ => none }
def EtherNoneWrongFalsely : Prop := etherNoneRow.holds Try.pinned (OpenSpec.ofChange etherNoneWrong)

/-- 'artesianlaw31.EtherCounts': WHATEVER THE INPUT: true; the input reads as it did. -/
def etherCountsSpec : ChangeSpec := { name := "etherCounts", fn := fun _ => fun
  | [d1, d2, d3] => { results := [.lit (.bool true)], args := [d1, d2, d3] }
  | _ => none }
def etherCountsRow : OpenClaim := { program := "ytknpghemogfenaa", sum := "8fb9eebf15ff74c31ba442cff7dbd6952b9f80c1db0cf278302cc68b3365021e", func := "artesian/artesianlaw31.EtherCounts", spec := "etherCounts", unfollowed := true, recurses := true, apart := false }
def EtherCountsSaid : Prop := etherCountsRow.holds Try.pinned (OpenSpec.ofChange etherCountsSpec)

/-- ITS FALSE NEIGHBOUR: 'it returns false'. Refute it at one input. -/
def etherCountsWrong : ChangeSpec := { name := "etherCounts", fn := fun _ => fun
  | [d1, d2, d3] => { results := [.lit (.bool false)], args := [d1, d2, d3] }
  | _ => none }
def EtherCountsWrongFalsely : Prop := etherCountsRow.holds Try.pinned (OpenSpec.ofChange etherCountsWrong)

/- THE SECOND FORM. 'bulk': how many values and letters a reading holds, each counted each time it is reached (what is shared counts as often as it is met; a slice's spare places count too). A statement '..UptoSaid' is the law's where the arguments, and the package variables that the reading takes, are together of bulk at most 1048576: NARROWER than '..Said'. Prove '..Said' where nothing that the law and all that it calls make is longer than what came in: it says more and counts as full. Else prove '..UptoSaid'. A law counts once. -/
mutual
def uptoBulk {H : Type} : DataW H → Nat
  | .lit (.string bytes) => bytes.length + 1
  | .lit _ => 1
  | .nil => 1
  | .ptr d => uptoBulk d + 1
  | .slice elems spare => uptoBulkAll elems + uptoBulkAll spare + 1
  | .agg parts => uptoBulkAll parts + 1
  | .iface _ d => uptoBulk d + 1
  | .map entries => uptoBulkEntries entries + 1
  | .held _ => 1
def uptoBulkAll {H : Type} : List (DataW H) → Nat
  | [] => 0
  | d :: r => uptoBulk d + uptoBulkAll r
def uptoBulkEntries {H : Type} : List (Lit × DataW H) → Nat
  | [] => 0
  | x :: r => uptoBulkEntry x + uptoBulkEntries r
def uptoBulkEntry {H : Type} : Lit × DataW H → Nat
  | (.string bytes, d) => bytes.length + uptoBulk d + 1
  | (_, d) => uptoBulk d + 1
 end
def uptoSmall : (H : Type) → List (DataW H) → Bool := fun _ ds => decide (uptoBulkAll ds ≤ 1048576)
def OpenSpec.upto (s : _root_.Go.ChangeSpec) : _root_.Go.OpenSpec := { _root_.Go.OpenSpec.ofChange s with cond := some uptoSmall }

/-- 'artesianlaw31.EtherPlain', WHERE WHAT IT READS IS OF BULK AT MOST 1048576: true; the input reads as it did. -/
def etherPlainUptoRow : OpenClaim := { program := "ytknpghemogfenaa", sum := "8fb9eebf15ff74c31ba442cff7dbd6952b9f80c1db0cf278302cc68b3365021e", func := "artesian/artesianlaw31.EtherPlain", spec := "etherPlain", unfollowed := true, recurses := true, apart := false, narrowed := true }
def EtherPlainUptoSaid : Prop := etherPlainUptoRow.holds Try.pinned (OpenSpec.upto etherPlainSpec)

/-- 'artesianlaw31.EtherTrue', WHERE WHAT IT READS IS OF BULK AT MOST 1048576: true; the input reads as it did. -/
def etherTrueUptoRow : OpenClaim := { program := "ytknpghemogfenaa", sum := "8fb9eebf15ff74c31ba442cff7dbd6952b9f80c1db0cf278302cc68b3365021e", func := "artesian/artesianlaw31.EtherTrue", spec := "etherTrue", unfollowed := true, recurses := true, apart := false, narrowed := true }
def EtherTrueUptoSaid : Prop := etherTrueUptoRow.holds Try.pinned (OpenSpec.upto etherTrueSpec)

/-- 'artesianlaw31.EtherKnown', WHERE WHAT IT READS IS OF BULK AT MOST 1048576: true; the input reads as it did. -/
def etherKnownUptoRow : OpenClaim := { program := "ytknpghemogfenaa", sum := "8fb9eebf15ff74c31ba442cff7dbd6952b9f80c1db0cf278302cc68b3365021e", func := "artesian/artesianlaw31.EtherKnown", spec := "etherKnown", unfollowed := true, recurses := true, apart := false, narrowed := true }
def EtherKnownUptoSaid : Prop := etherKnownUptoRow.holds Try.pinned (OpenSpec.upto etherKnownSpec)

/-- 'artesianlaw31.EtherScript', WHERE WHAT IT READS IS OF BULK AT MOST 1048576: true; the input reads as it did. -/
def etherScriptUptoRow : OpenClaim := { program := "ytknpghemogfenaa", sum := "8fb9eebf15ff74c31ba442cff7dbd6952b9f80c1db0cf278302cc68b3365021e", func := "artesian/artesianlaw31.EtherScript", spec := "etherScript", unfollowed := true, recurses := true, apart := false, narrowed := true }
def EtherScriptUptoSaid : Prop := etherScriptUptoRow.holds Try.pinned (OpenSpec.upto etherScriptSpec)

/-- 'artesianlaw31.EtherNone', WHERE WHAT IT READS IS OF BULK AT MOST 1048576: true; the input reads as it did. -/
def etherNoneUptoRow : OpenClaim := { program := "ytknpghemogfenaa", sum := "8fb9eebf15ff74c31ba442cff7dbd6952b9f80c1db0cf278302cc68b3365021e", func := "artesian/artesianlaw31.EtherNone", spec := "etherNone", unfollowed := true, recurses := true, apart := false, narrowed := true }
def EtherNoneUptoSaid : Prop := etherNoneUptoRow.holds Try.pinned (OpenSpec.upto etherNoneSpec)

/-- 'artesianlaw31.EtherCounts', WHERE WHAT IT READS IS OF BULK AT MOST 1048576: true; the input reads as it did. -/
def etherCountsUptoRow : OpenClaim := { program := "ytknpghemogfenaa", sum := "8fb9eebf15ff74c31ba442cff7dbd6952b9f80c1db0cf278302cc68b3365021e", func := "artesian/artesianlaw31.EtherCounts", spec := "etherCounts", unfollowed := true, recurses := true, apart := false, narrowed := true }
def EtherCountsUptoSaid : Prop := etherCountsUptoRow.holds Try.pinned (OpenSpec.upto etherCountsSpec)

end Rows
end Go.Proofs.Ytknpghemogfenaa
