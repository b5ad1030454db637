/-
  No cell of these rows narrows 'for every input' (looked for: loops, veiled, ifaces, maps, wideKeys, modest, calm, conditions, laid).
  DERIVED. THE GIVEN ROWS OF THIS SEAT. 6 by the template 'for every input the law returns true; each argument reads behind the call as it read before'; 0 by the template 'total and deterministic' (their statements: YtkhedjildlokoaaTotals.lean).
  GIVEN WITH THE SEED: the statements are not yours to turn. If you find one false, say at which input.
  Laid BY PROGRAM, IN A SANDBOX (cutbox-rows.mjs): the forced cells as the released guide's own fill.sh prints them over the translation e42d60a8cb382c18… (all of the seat's roots in one cut). By AI agents, Wed Nov 11 2026. No macro, syntax, notation, axiom, sorry.
-/
import Derived.Test.YtkhedjildlokoaaChecked
import GoSem.Claim
import GoSem.ClaimJoined
import GoSem.ClaimMapViews
import Derived.JoinedTies
import Derived.KernelRfl
namespace Go.Proofs.Ytkhedjildlokoaa
/- THE CELL 'sum', in the pinned program and in every row, IS THE sha256 OF THE DUMP (.gsa) THAT YtkhedjildlokoaaProg.lean LOADS. Nothing in Lean hashes anything: it is a label: what it is worth is what the hold of that sum in a sandbox is worth. -/
noncomputable def Try.pinned : Pinned := { name := "ytkhedjildlokoaa", sum := "e42d60a8cb382c18df3c47ab4fb02e2d2d7ca2e735e68a9d98e4e25ccbc5cefb", checked := Try.checked }
namespace Rows
def none {H : Type} : Left H := { results := [], args := [] }

/-- 'artesianlaw08.XorsSums': WHATEVER THE INPUT: true; the input reads as it did. -/
def xorsSumsSpec : ChangeSpec := { name := "xorsSums", fn := fun _ => fun
  | [d1, d2, d3] => { results := [.lit (.bool true)], args := [d1, d2, d3] }
  | _ => none }
def xorsSumsRow : OpenClaim := { program := "ytkhedjildlokoaa", sum := "e42d60a8cb382c18df3c47ab4fb02e2d2d7ca2e735e68a9d98e4e25ccbc5cefb", func := "artesian/artesianlaw08.XorsSums", spec := "xorsSums", unfollowed := true, recurses := true, apart := false }
def XorsSumsSaid : Prop := xorsSumsRow.holds Try.pinned (OpenSpec.ofChange xorsSumsSpec)

/-- ITS FALSE NEIGHBOUR: 'it returns false'. Refute it at one input. -/
def xorsSumsWrong : ChangeSpec := { name := "xorsSums", fn := fun _ => fun
  | [d1, d2, d3] => { results := [.lit (.bool false)], args := [d1, d2, d3] }
  | _ => none }
def XorsSumsWrongFalsely : Prop := xorsSumsRow.holds Try.pinned (OpenSpec.ofChange xorsSumsWrong)

/-- 'artesianlaw08.XorsPairs': WHATEVER THE INPUT: true; the input reads as it did. -/
def xorsPairsSpec : ChangeSpec := { name := "xorsPairs", fn := fun _ => fun
  | [d1, d2] => { results := [.lit (.bool true)], args := [d1, d2] }
  | _ => none }
def xorsPairsRow : OpenClaim := { program := "ytkhedjildlokoaa", sum := "e42d60a8cb382c18df3c47ab4fb02e2d2d7ca2e735e68a9d98e4e25ccbc5cefb", func := "artesian/artesianlaw08.XorsPairs", spec := "xorsPairs", unfollowed := true, recurses := true, apart := false }
def XorsPairsSaid : Prop := xorsPairsRow.holds Try.pinned (OpenSpec.ofChange xorsPairsSpec)

/-- ITS FALSE NEIGHBOUR: 'it returns false'. Refute it at one input. -/
def xorsPairsWrong : ChangeSpec := { name := "xorsPairs", fn := fun _ => fun
  | [d1, d2] => { results := [.lit (.bool false)], args := [d1, d2] }
  | _ => none }
def XorsPairsWrongFalsely : Prop := xorsPairsRow.holds Try.pinned (OpenSpec.ofChange xorsPairsWrong)

/-- 'artesianlaw08.XorsKnown': WHATEVER THE INPUT: true; the input reads as it did. -/
def xorsKnownSpec : ChangeSpec := { name := "xorsKnown", fn := fun _ => fun
  | [] => { results := [.lit (.bool true)], args := [] }
  | _ => none }
def xorsKnownRow : OpenClaim := { program := "ytkhedjildlokoaa", sum := "e42d60a8cb382c18df3c47ab4fb02e2d2d7ca2e735e68a9d98e4e25ccbc5cefb", func := "artesian/artesianlaw08.XorsKnown", spec := "xorsKnown", unfollowed := true, recurses := true, apart := false }
def XorsKnownSaid : Prop := xorsKnownRow.holds Try.pinned (OpenSpec.ofChange xorsKnownSpec)

/-- ITS FALSE NEIGHBOUR: 'it returns false'. Refute it at one input. -/
def xorsKnownWrong : ChangeSpec := { name := "xorsKnown", fn := fun _ => fun
  | [] => { results := [.lit (.bool false)], args := [] }
  | _ => none }
def XorsKnownWrongFalsely : Prop := xorsKnownRow.holds Try.pinned (OpenSpec.ofChange xorsKnownWrong)

/-- 'artesianlaw08.XorsGroup': WHATEVER THE INPUT: true; the input reads as it did. -/
def xorsGroupSpec : ChangeSpec := { name := "xorsGroup", fn := fun _ => fun
  | [d1, d2, d3] => { results := [.lit (.bool true)], args := [d1, d2, d3] }
  | _ => none }
def xorsGroupRow : OpenClaim := { program := "ytkhedjildlokoaa", sum := "e42d60a8cb382c18df3c47ab4fb02e2d2d7ca2e735e68a9d98e4e25ccbc5cefb", func := "artesian/artesianlaw08.XorsGroup", spec := "xorsGroup", unfollowed := true, recurses := true, apart := false }
def XorsGroupSaid : Prop := xorsGroupRow.holds Try.pinned (OpenSpec.ofChange xorsGroupSpec)

/-- ITS FALSE NEIGHBOUR: 'it returns false'. Refute it at one input. -/
def xorsGroupWrong : ChangeSpec := { name := "xorsGroup", fn := fun _ => fun
  | [d1, d2, d3] => { results := [.lit (.bool false)], args := [d1, d2, d3] }
  | _ => none }
def XorsGroupWrongFalsely : Prop := xorsGroupRow.holds Try.pinned (OpenSpec.ofChange xorsGroupWrong)

/-- 'artesianlaw08.XorsOnce': WHATEVER THE INPUT: true; the input reads as it did. -/
def xorsOnceSpec : ChangeSpec := { name := "xorsOnce", fn := fun _ => fun
  | [d] => { results := [.lit (.bool true)], args := [d] }
  | _ => none }
def xorsOnceRow : OpenClaim := { program := "ytkhedjildlokoaa", sum := "e42d60a8cb382c18df3c47ab4fb02e2d2d7ca2e735e68a9d98e4e25ccbc5cefb", func := "artesian/artesianlaw08.XorsOnce", spec := "xorsOnce", unfollowed := true, recurses := true, apart := false }
def XorsOnceSaid : Prop := xorsOnceRow.holds Try.pinned (OpenSpec.ofChange xorsOnceSpec)

/-- ITS FALSE NEIGHBOUR: 'it returns false'. Refute it at one input. -/
def xorsOnceWrong : ChangeSpec := { name := "xorsOnce", fn := fun _ => fun
  | [d] => { results := [.lit (.bool false)], args := [d] }
  | _ => none }
def XorsOnceWrongFalsely : Prop := xorsOnceRow.holds Try.pinned (OpenSpec.ofChange xorsOnceWrong)

/-- 'artesianlaw08.XorsPadded': WHATEVER THE INPUT: true; the input reads as it did. -/
def xorsPaddedSpec : ChangeSpec := { name := "xorsPadded", fn := fun _ => fun
  | [d1, d2, d3] => { results := [.lit (.bool true)], args := [d1, d2, d3] }
  | _ => none }
def xorsPaddedRow : OpenClaim := { program := "ytkhedjildlokoaa", sum := "e42d60a8cb382c18df3c47ab4fb02e2d2d7ca2e735e68a9d98e4e25ccbc5cefb", func := "artesian/artesianlaw08.XorsPadded", spec := "xorsPadded", unfollowed := true, recurses := true, apart := false }
def XorsPaddedSaid : Prop := xorsPaddedRow.holds Try.pinned (OpenSpec.ofChange xorsPaddedSpec)

/-- ITS FALSE NEIGHBOUR: 'it returns false'. Refute it at one input. -/
def xorsPaddedWrong : ChangeSpec := { name := "xorsPadded", fn := fun _ => fun
  | [d1, d2, d3] => { results := [.lit (.bool false)], args := [d1, d2, d3] }
  | _ => none }
def XorsPaddedWrongFalsely : Prop := xorsPaddedRow.holds Try.pinned (OpenSpec.ofChange xorsPaddedWrong)

/- THE SECOND FORM. 'bulk': how many values and letters a reading holds, each counted each time it is reached (what is shared counts as often as it is met; a slice's spare places count too). A statement '..UptoSaid' is the law's where the arguments, and the package variables that the reading takes, are together of bulk at most 1048576: NARROWER than '..Said'. Prove '..Said' where nothing that the law and all that it calls make is longer than what came in: it says more and counts as full. Else prove '..UptoSaid'. A law counts once. -/
mutual
def uptoBulk {H : Type} : DataW H → Nat
  | .lit (.string bytes) => bytes.length + 1
  | .lit _ => 1
  | .nil => 1
  | .ptr d => uptoBulk d + 1
  | .slice elems spare => uptoBulkAll elems + uptoBulkAll spare + 1
  | .agg parts => uptoBulkAll parts + 1
  | .iface _ d => uptoBulk d + 1
  | .map entries => uptoBulkEntries entries + 1
  | .held _ => 1
def uptoBulkAll {H : Type} : List (DataW H) → Nat
  | [] => 0
  | d :: r => uptoBulk d + uptoBulkAll r
def uptoBulkEntries {H : Type} : List (Lit × DataW H) → Nat
  | [] => 0
  | x :: r => uptoBulkEntry x + uptoBulkEntries r
def uptoBulkEntry {H : Type} : Lit × DataW H → Nat
  | (.string bytes, d) => bytes.length + uptoBulk d + 1
  | (_, d) => uptoBulk d + 1
 end
def uptoSmall : (H : Type) → List (DataW H) → Bool := fun _ ds => decide (uptoBulkAll ds ≤ 1048576)
def OpenSpec.upto (s : _root_.Go.ChangeSpec) : _root_.Go.OpenSpec := { _root_.Go.OpenSpec.ofChange s with cond := some uptoSmall }

/-- 'artesianlaw08.XorsSums', WHERE WHAT IT READS IS OF BULK AT MOST 1048576: true; the input reads as it did. -/
def xorsSumsUptoRow : OpenClaim := { program := "ytkhedjildlokoaa", sum := "e42d60a8cb382c18df3c47ab4fb02e2d2d7ca2e735e68a9d98e4e25ccbc5cefb", func := "artesian/artesianlaw08.XorsSums", spec := "xorsSums", unfollowed := true, recurses := true, apart := false, narrowed := true }
def XorsSumsUptoSaid : Prop := xorsSumsUptoRow.holds Try.pinned (OpenSpec.upto xorsSumsSpec)

/-- 'artesianlaw08.XorsPairs', WHERE WHAT IT READS IS OF BULK AT MOST 1048576: true; the input reads as it did. -/
def xorsPairsUptoRow : OpenClaim := { program := "ytkhedjildlokoaa", sum := "e42d60a8cb382c18df3c47ab4fb02e2d2d7ca2e735e68a9d98e4e25ccbc5cefb", func := "artesian/artesianlaw08.XorsPairs", spec := "xorsPairs", unfollowed := true, recurses := true, apart := false, narrowed := true }
def XorsPairsUptoSaid : Prop := xorsPairsUptoRow.holds Try.pinned (OpenSpec.upto xorsPairsSpec)

/-- 'artesianlaw08.XorsKnown', WHERE WHAT IT READS IS OF BULK AT MOST 1048576: true; the input reads as it did. -/
def xorsKnownUptoRow : OpenClaim := { program := "ytkhedjildlokoaa", sum := "e42d60a8cb382c18df3c47ab4fb02e2d2d7ca2e735e68a9d98e4e25ccbc5cefb", func := "artesian/artesianlaw08.XorsKnown", spec := "xorsKnown", unfollowed := true, recurses := true, apart := false, narrowed := true }
def XorsKnownUptoSaid : Prop := xorsKnownUptoRow.holds Try.pinned (OpenSpec.upto xorsKnownSpec)

/-- 'artesianlaw08.XorsGroup', WHERE WHAT IT READS IS OF BULK AT MOST 1048576: true; the input reads as it did. -/
def xorsGroupUptoRow : OpenClaim := { program := "ytkhedjildlokoaa", sum := "e42d60a8cb382c18df3c47ab4fb02e2d2d7ca2e735e68a9d98e4e25ccbc5cefb", func := "artesian/artesianlaw08.XorsGroup", spec := "xorsGroup", unfollowed := true, recurses := true, apart := false, narrowed := true }
def XorsGroupUptoSaid : Prop := xorsGroupUptoRow.holds Try.pinned (OpenSpec.upto xorsGroupSpec)

/-- 'artesianlaw08.XorsOnce', WHERE WHAT IT READS IS OF BULK AT MOST 1048576: true; the input reads as it did. -/
def xorsOnceUptoRow : OpenClaim := { program := "ytkhedjildlokoaa", sum := "e42d60a8cb382c18df3c47ab4fb02e2d2d7ca2e735e68a9d98e4e25ccbc5cefb", func := "artesian/artesianlaw08.XorsOnce", spec := "xorsOnce", unfollowed := true, recurses := true, apart := false, narrowed := true }
def XorsOnceUptoSaid : Prop := xorsOnceUptoRow.holds Try.pinned (OpenSpec.upto xorsOnceSpec)

/-- 'artesianlaw08.XorsPadded', WHERE WHAT IT READS IS OF BULK AT MOST 1048576: true; the input reads as it did. -/
def xorsPaddedUptoRow : OpenClaim := { program := "ytkhedjildlokoaa", sum := "e42d60a8cb382c18df3c47ab4fb02e2d2d7ca2e735e68a9d98e4e25ccbc5cefb", func := "artesian/artesianlaw08.XorsPadded", spec := "xorsPadded", unfollowed := true, recurses := true, apart := false, narrowed := true }
def XorsPaddedUptoSaid : Prop := xorsPaddedUptoRow.holds Try.pinned (OpenSpec.upto xorsPaddedSpec)

end Rows
end Go.Proofs.Ytkhedjildlokoaa
