/-
  No cell of these rows narrows 'for every input' (looked for: loops, veiled, ifaces, maps, wideKeys, modest, calm, conditions, laid).
  DERIVED. THE GIVEN ROWS OF THIS SEAT. 5 by the template 'for every input the law returns true; each argument reads behind the call as it read before'; 0 by the template 'total and deterministic' (their statements: YthnoeiiebokooaaTotals.lean).
  GIVEN WITH THE SEED: the statements are not yours to turn. If you find one false, say at which input.
  Laid BY PROGRAM, IN A SANDBOX (cutbox-rows.mjs): the forced cells as the released guide's own fill.sh prints them over the translation 24793260acc74be0… (all of the seat's roots in one cut). By AI agents, Wed Nov 11 2026. No macro, syntax, notation, axiom, sorry.
-/
import Derived.Test.YthnoeiiebokooaaChecked
import GoSem.Claim
import GoSem.ClaimJoined
import GoSem.ClaimMapViews
import Derived.JoinedTies
import Derived.KernelRfl
namespace Go.Proofs.Ythnoeiiebokooaa
/- THE CELL 'sum', in the pinned program and in every row, IS THE sha256 OF THE DUMP (.gsa) THAT YthnoeiiebokooaaProg.lean LOADS. Nothing in Lean hashes anything: it is a label: what it is worth is what the hold of that sum in a sandbox is worth. -/
noncomputable def Try.pinned : Pinned := { name := "ythnoeiiebokooaa", sum := "24793260acc74be0a911f35c20e4a7a8dc91f65e98309a0787e6a1b5c843f176", checked := Try.checked }
namespace Rows
def none {H : Type} : Left H := { results := [], args := [] }

/-- 'artesianlaw12.ManifestReads': WHATEVER THE INPUT: true; the input reads as it did. -/
def manifestReadsSpec : ChangeSpec := { name := "manifestReads", fn := fun _ => fun
  | [d] => { results := [.lit (.bool true)], args := [d] }
  | _ => none }
def manifestReadsRow : OpenClaim := { program := "ythnoeiiebokooaa", sum := "24793260acc74be0a911f35c20e4a7a8dc91f65e98309a0787e6a1b5c843f176", func := "artesian/artesianlaw12.ManifestReads", spec := "manifestReads", unfollowed := true, recurses := true, apart := false }
def ManifestReadsSaid : Prop := manifestReadsRow.holds Try.pinned (OpenSpec.ofChange manifestReadsSpec)

/-- ITS FALSE NEIGHBOUR: 'it returns false'. Refute it at one input. -/
def manifestReadsWrong : ChangeSpec := { name := "manifestReads", fn := fun _ => fun
  | [d] => { results := [.lit (.bool false)], args := [d] }
  | _ => none }
def ManifestReadsWrongFalsely : Prop := manifestReadsRow.holds Try.pinned (OpenSpec.ofChange manifestReadsWrong)

/-- 'artesianlaw12.ManifestTells': WHATEVER THE INPUT: true; the input reads as it did. -/
def manifestTellsSpec : ChangeSpec := { name := "manifestTells", fn := fun _ => fun
  | [d1, d2] => { results := [.lit (.bool true)], args := [d1, d2] }
  | _ => none }
def manifestTellsRow : OpenClaim := { program := "ythnoeiiebokooaa", sum := "24793260acc74be0a911f35c20e4a7a8dc91f65e98309a0787e6a1b5c843f176", func := "artesian/artesianlaw12.ManifestTells", spec := "manifestTells", unfollowed := true, recurses := true, apart := false }
def ManifestTellsSaid : Prop := manifestTellsRow.holds Try.pinned (OpenSpec.ofChange manifestTellsSpec)

/-- ITS FALSE NEIGHBOUR: 'it returns false'. Refute it at one input. -/
def manifestTellsWrong : ChangeSpec := { name := "manifestTells", fn := fun _ => fun
  | [d1, d2] => { results := [.lit (.bool false)], args := [d1, d2] }
  | _ => none }
def ManifestTellsWrongFalsely : Prop := manifestTellsRow.holds Try.pinned (OpenSpec.ofChange manifestTellsWrong)

/-- 'artesianlaw12.ManifestKnown': WHATEVER THE INPUT: true; the input reads as it did. -/
def manifestKnownSpec : ChangeSpec := { name := "manifestKnown", fn := fun _ => fun
  | [] => { results := [.lit (.bool true)], args := [] }
  | _ => none }
def manifestKnownRow : OpenClaim := { program := "ythnoeiiebokooaa", sum := "24793260acc74be0a911f35c20e4a7a8dc91f65e98309a0787e6a1b5c843f176", func := "artesian/artesianlaw12.ManifestKnown", spec := "manifestKnown", unfollowed := true, recurses := true, apart := false }
def ManifestKnownSaid : Prop := manifestKnownRow.holds Try.pinned (OpenSpec.ofChange manifestKnownSpec)

/-- ITS FALSE NEIGHBOUR: 'it returns false'. Refute it at one input. -/
def manifestKnownWrong : ChangeSpec := { name := "manifestKnown", fn := fun _ => fun
  | [] => { results := [.lit (.bool false)], args := [] }
  | _ => none }
def ManifestKnownWrongFalsely : Prop := manifestKnownRow.holds Try.pinned (OpenSpec.ofChange manifestKnownWrong)

/-- 'artesianlaw12.ManifestBack': WHATEVER THE INPUT: true; the input reads as it did. -/
def manifestBackSpec : ChangeSpec := { name := "manifestBack", fn := fun _ => fun
  | [d1, d2, d3] => { results := [.lit (.bool true)], args := [d1, d2, d3] }
  | _ => none }
def manifestBackRow : OpenClaim := { program := "ythnoeiiebokooaa", sum := "24793260acc74be0a911f35c20e4a7a8dc91f65e98309a0787e6a1b5c843f176", func := "artesian/artesianlaw12.ManifestBack", spec := "manifestBack", unfollowed := true, recurses := true, apart := false }
def ManifestBackSaid : Prop := manifestBackRow.holds Try.pinned (OpenSpec.ofChange manifestBackSpec)

/-- ITS FALSE NEIGHBOUR: 'it returns false'. Refute it at one input. -/
def manifestBackWrong : ChangeSpec := { name := "manifestBack", fn := fun _ => fun
  | [d1, d2, d3] => { results := [.lit (.bool false)], args := [d1, d2, d3] }
  | _ => none }
def ManifestBackWrongFalsely : Prop := manifestBackRow.holds Try.pinned (OpenSpec.ofChange manifestBackWrong)

/-- 'artesianlaw12.ManifestParts': WHATEVER THE INPUT: true; the input reads as it did. -/
def manifestPartsSpec : ChangeSpec := { name := "manifestParts", fn := fun _ => fun
  | [d] => { results := [.lit (.bool true)], args := [d] }
  | _ => none }
def manifestPartsRow : OpenClaim := { program := "ythnoeiiebokooaa", sum := "24793260acc74be0a911f35c20e4a7a8dc91f65e98309a0787e6a1b5c843f176", func := "artesian/artesianlaw12.ManifestParts", spec := "manifestParts", unfollowed := true, recurses := true, apart := false }
def ManifestPartsSaid : Prop := manifestPartsRow.holds Try.pinned (OpenSpec.ofChange manifestPartsSpec)

/-- ITS FALSE NEIGHBOUR: 'it returns false'. Refute it at one input. -/
def manifestPartsWrong : ChangeSpec := { name := "manifestParts", fn := fun _ => fun
  | [d] => { results := [.lit (.bool false)], args := [d] }
  | _ => none }
def ManifestPartsWrongFalsely : Prop := manifestPartsRow.holds Try.pinned (OpenSpec.ofChange manifestPartsWrong)

/- THE SECOND FORM. 'bulk': how many values and letters a reading holds, each counted each time it is reached (what is shared counts as often as it is met; a slice's spare places count too). A statement '..UptoSaid' is the law's where the arguments, and the package variables that the reading takes, are together of bulk at most 1048576: NARROWER than '..Said'. Prove '..Said' where nothing that the law and all that it calls make is longer than what came in: it says more and counts as full. Else prove '..UptoSaid'. A law counts once. -/
mutual
def uptoBulk {H : Type} : DataW H → Nat
  | .lit (.string bytes) => bytes.length + 1
  | .lit _ => 1
  | .nil => 1
  | .ptr d => uptoBulk d + 1
  | .slice elems spare => uptoBulkAll elems + uptoBulkAll spare + 1
  | .agg parts => uptoBulkAll parts + 1
  | .iface _ d => uptoBulk d + 1
  | .map entries => uptoBulkEntries entries + 1
  | .held _ => 1
def uptoBulkAll {H : Type} : List (DataW H) → Nat
  | [] => 0
  | d :: r => uptoBulk d + uptoBulkAll r
def uptoBulkEntries {H : Type} : List (Lit × DataW H) → Nat
  | [] => 0
  | x :: r => uptoBulkEntry x + uptoBulkEntries r
def uptoBulkEntry {H : Type} : Lit × DataW H → Nat
  | (.string bytes, d) => bytes.length + uptoBulk d + 1
  | (_, d) => uptoBulk d + 1
 end
def uptoSmall : (H : Type) → List (DataW H) → Bool := fun _ ds => decide (uptoBulkAll ds ≤ 1048576)
def OpenSpec.upto (s : _root_.Go.ChangeSpec) : _root_.Go.OpenSpec := { _root_.Go.OpenSpec.ofChange s with cond := some uptoSmall }

/-- 'artesianlaw12.ManifestReads', WHERE WHAT IT READS IS OF BULK AT MOST 1048576: true; the input reads as it did. -/
def manifestReadsUptoRow : OpenClaim := { program := "ythnoeiiebokooaa", sum := "24793260acc74be0a911f35c20e4a7a8dc91f65e98309a0787e6a1b5c843f176", func := "artesian/artesianlaw12.ManifestReads", spec := "manifestReads", unfollowed := true, recurses := true, apart := false, narrowed := true }
def ManifestReadsUptoSaid : Prop := manifestReadsUptoRow.holds Try.pinned (OpenSpec.upto manifestReadsSpec)

/-- 'artesianlaw12.ManifestTells', WHERE WHAT IT READS IS OF BULK AT MOST 1048576: true; the input reads as it did. -/
def manifestTellsUptoRow : OpenClaim := { program := "ythnoeiiebokooaa", sum := "24793260acc74be0a911f35c20e4a7a8dc91f65e98309a0787e6a1b5c843f176", func := "artesian/artesianlaw12.ManifestTells", spec := "manifestTells", unfollowed := true, recurses := true, apart := false, narrowed := true }
def ManifestTellsUptoSaid : Prop := manifestTellsUptoRow.holds Try.pinned (OpenSpec.upto manifestTellsSpec)

/-- 'artesianlaw12.ManifestKnown', WHERE WHAT IT READS IS OF BULK AT MOST 1048576: true; the input reads as it did. -/
def manifestKnownUptoRow : OpenClaim := { program := "ythnoeiiebokooaa", sum := "24793260acc74be0a911f35c20e4a7a8dc91f65e98309a0787e6a1b5c843f176", func := "artesian/artesianlaw12.ManifestKnown", spec := "manifestKnown", unfollowed := true, recurses := true, apart := false, narrowed := true }
def ManifestKnownUptoSaid : Prop := manifestKnownUptoRow.holds Try.pinned (OpenSpec.upto manifestKnownSpec)

/-- 'artesianlaw12.ManifestBack', WHERE WHAT IT READS IS OF BULK AT MOST 1048576: true; the input reads as it did. -/
def manifestBackUptoRow : OpenClaim := { program := "ythnoeiiebokooaa", sum := "24793260acc74be0a911f35c20e4a7a8dc91f65e98309a0787e6a1b5c843f176", func := "artesian/artesianlaw12.ManifestBack", spec := "manifestBack", unfollowed := true, recurses := true, apart := false, narrowed := true }
def ManifestBackUptoSaid : Prop := manifestBackUptoRow.holds Try.pinned (OpenSpec.upto manifestBackSpec)

/-- 'artesianlaw12.ManifestParts', WHERE WHAT IT READS IS OF BULK AT MOST 1048576: true; the input reads as it did. -/
def manifestPartsUptoRow : OpenClaim := { program := "ythnoeiiebokooaa", sum := "24793260acc74be0a911f35c20e4a7a8dc91f65e98309a0787e6a1b5c843f176", func := "artesian/artesianlaw12.ManifestParts", spec := "manifestParts", unfollowed := true, recurses := true, apart := false, narrowed := true }
def ManifestPartsUptoSaid : Prop := manifestPartsUptoRow.holds Try.pinned (OpenSpec.upto manifestPartsSpec)

end Rows
end Go.Proofs.Ythnoeiiebokooaa
