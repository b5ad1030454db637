/-
  No cell of these rows narrows 'for every input' (looked for: loops, veiled, ifaces, maps, wideKeys, modest, calm, conditions, laid).
  DERIVED. THE GIVEN ROWS OF THIS SEAT. 6 by the template 'for every input the law returns true; each argument reads behind the call as it read before'; 0 by the template 'total and deterministic' (their statements: YtfcoeonabppjiaaTotals.lean).
  GIVEN WITH THE SEED: the statements are not yours to turn. If you find one false, say at which input.
  Laid BY PROGRAM, IN A SANDBOX (cutbox-rows.mjs): the forced cells as the released guide's own fill.sh prints them over the translation 65d51f92e9248a3a… (all of the seat's roots in one cut). By AI agents, Wed Nov 11 2026. No macro, syntax, notation, axiom, sorry.
-/
import Derived.Test.YtfcoeonabppjiaaChecked
import GoSem.Claim
import GoSem.ClaimJoined
import GoSem.ClaimMapViews
import Derived.JoinedTies
import Derived.KernelRfl
namespace Go.Proofs.Ytfcoeonabppjiaa
/- THE CELL 'sum', in the pinned program and in every row, IS THE sha256 OF THE DUMP (.gsa) THAT YtfcoeonabppjiaaProg.lean LOADS. Nothing in Lean hashes anything: it is a label: what it is worth is what the hold of that sum in a sandbox is worth. -/
noncomputable def Try.pinned : Pinned := { name := "ytfcoeonabppjiaa", sum := "65d51f92e9248a3aa9c418d1e4e40f4566c49d1920fafb7abcde16210318a869", checked := Try.checked }
namespace Rows
def none {H : Type} : Left H := { results := [], args := [] }

/-- 'artesianlaw14.AliasMakes': WHATEVER THE INPUT: true; the input reads as it did. -/
def aliasMakesSpec : ChangeSpec := { name := "aliasMakes", fn := fun _ => fun
  | [d] => { results := [.lit (.bool true)], args := [d] }
  | _ => none }
def aliasMakesRow : OpenClaim := { program := "ytfcoeonabppjiaa", sum := "65d51f92e9248a3aa9c418d1e4e40f4566c49d1920fafb7abcde16210318a869", func := "artesian/artesianlaw14.AliasMakes", spec := "aliasMakes", apart := false }
def AliasMakesSaid : Prop := aliasMakesRow.holds Try.pinned (OpenSpec.ofChange aliasMakesSpec)

/-- ITS FALSE NEIGHBOUR: 'it returns false'. Refute it at one input. -/
def aliasMakesWrong : ChangeSpec := { name := "aliasMakes", fn := fun _ => fun
  | [d] => { results := [.lit (.bool false)], args := [d] }
  | _ => none }
def AliasMakesWrongFalsely : Prop := aliasMakesRow.holds Try.pinned (OpenSpec.ofChange aliasMakesWrong)

/-- 'artesianlaw14.AliasTables': WHATEVER THE INPUT: true; the input reads as it did. -/
def aliasTablesSpec : ChangeSpec := { name := "aliasTables", fn := fun _ => fun
  | [d1, d2] => { results := [.lit (.bool true)], args := [d1, d2] }
  | _ => none }
def aliasTablesRow : OpenClaim := { program := "ytfcoeonabppjiaa", sum := "65d51f92e9248a3aa9c418d1e4e40f4566c49d1920fafb7abcde16210318a869", func := "artesian/artesianlaw14.AliasTables", spec := "aliasTables", unfollowed := true, recurses := true, apart := false }
def AliasTablesSaid : Prop := aliasTablesRow.holds Try.pinned (OpenSpec.ofChange aliasTablesSpec)

/-- ITS FALSE NEIGHBOUR: 'it returns false'. Refute it at one input. -/
def aliasTablesWrong : ChangeSpec := { name := "aliasTables", fn := fun _ => fun
  | [d1, d2] => { results := [.lit (.bool false)], args := [d1, d2] }
  | _ => none }
def AliasTablesWrongFalsely : Prop := aliasTablesRow.holds Try.pinned (OpenSpec.ofChange aliasTablesWrong)

/-- 'artesianlaw14.AliasPicks': WHATEVER THE INPUT: true; the input reads as it did. -/
def aliasPicksSpec : ChangeSpec := { name := "aliasPicks", fn := fun _ => fun
  | [d1, d2, d3, d4] => { results := [.lit (.bool true)], args := [d1, d2, d3, d4] }
  | _ => none }
def aliasPicksRow : OpenClaim := { program := "ytfcoeonabppjiaa", sum := "65d51f92e9248a3aa9c418d1e4e40f4566c49d1920fafb7abcde16210318a869", func := "artesian/artesianlaw14.AliasPicks", spec := "aliasPicks", unfollowed := true, recurses := true, apart := false }
def AliasPicksSaid : Prop := aliasPicksRow.holds Try.pinned (OpenSpec.ofChange aliasPicksSpec)

/-- ITS FALSE NEIGHBOUR: 'it returns false'. Refute it at one input. -/
def aliasPicksWrong : ChangeSpec := { name := "aliasPicks", fn := fun _ => fun
  | [d1, d2, d3, d4] => { results := [.lit (.bool false)], args := [d1, d2, d3, d4] }
  | _ => none }
def AliasPicksWrongFalsely : Prop := aliasPicksRow.holds Try.pinned (OpenSpec.ofChange aliasPicksWrong)

/-- 'artesianlaw14.AliasKnown': WHATEVER THE INPUT: true; the input reads as it did. -/
def aliasKnownSpec : ChangeSpec := { name := "aliasKnown", fn := fun _ => fun
  | [] => { results := [.lit (.bool true)], args := [] }
  | _ => none }
def aliasKnownRow : OpenClaim := { program := "ytfcoeonabppjiaa", sum := "65d51f92e9248a3aa9c418d1e4e40f4566c49d1920fafb7abcde16210318a869", func := "artesian/artesianlaw14.AliasKnown", spec := "aliasKnown", unfollowed := true, recurses := true, apart := false }
def AliasKnownSaid : Prop := aliasKnownRow.holds Try.pinned (OpenSpec.ofChange aliasKnownSpec)

/-- ITS FALSE NEIGHBOUR: 'it returns false'. Refute it at one input. -/
def aliasKnownWrong : ChangeSpec := { name := "aliasKnown", fn := fun _ => fun
  | [] => { results := [.lit (.bool false)], args := [] }
  | _ => none }
def AliasKnownWrongFalsely : Prop := aliasKnownRow.holds Try.pinned (OpenSpec.ofChange aliasKnownWrong)

/-- 'artesianlaw14.AliasExact': WHATEVER THE INPUT: true; the input reads as it did. -/
def aliasExactSpec : ChangeSpec := { name := "aliasExact", fn := fun _ => fun
  | [d] => { results := [.lit (.bool true)], args := [d] }
  | _ => none }
def aliasExactRow : OpenClaim := { program := "ytfcoeonabppjiaa", sum := "65d51f92e9248a3aa9c418d1e4e40f4566c49d1920fafb7abcde16210318a869", func := "artesian/artesianlaw14.AliasExact", spec := "aliasExact", unfollowed := true, recurses := true, apart := false }
def AliasExactSaid : Prop := aliasExactRow.holds Try.pinned (OpenSpec.ofChange aliasExactSpec)

/-- ITS FALSE NEIGHBOUR: 'it returns false'. Refute it at one input. -/
def aliasExactWrong : ChangeSpec := { name := "aliasExact", fn := fun _ => fun
  | [d] => { results := [.lit (.bool false)], args := [d] }
  | _ => none }
def AliasExactWrongFalsely : Prop := aliasExactRow.holds Try.pinned (OpenSpec.ofChange aliasExactWrong)

/-- 'artesianlaw14.AliasCounts': WHATEVER THE INPUT: true; the input reads as it did. -/
def aliasCountsSpec : ChangeSpec := { name := "aliasCounts", fn := fun _ => fun
  | [d] => { results := [.lit (.bool true)], args := [d] }
  | _ => none }
def aliasCountsRow : OpenClaim := { program := "ytfcoeonabppjiaa", sum := "65d51f92e9248a3aa9c418d1e4e40f4566c49d1920fafb7abcde16210318a869", func := "artesian/artesianlaw14.AliasCounts", spec := "aliasCounts", unfollowed := true, recurses := true, apart := false }
def AliasCountsSaid : Prop := aliasCountsRow.holds Try.pinned (OpenSpec.ofChange aliasCountsSpec)

/-- ITS FALSE NEIGHBOUR: 'it returns false'. Refute it at one input. -/
def aliasCountsWrong : ChangeSpec := { name := "aliasCounts", fn := fun _ => fun
  | [d] => { results := [.lit (.bool false)], args := [d] }
  | _ => none }
def AliasCountsWrongFalsely : Prop := aliasCountsRow.holds Try.pinned (OpenSpec.ofChange aliasCountsWrong)

/- THE SECOND FORM. 'bulk': how many values and letters a reading holds, each counted each time it is reached (what is shared counts as often as it is met; a slice's spare places count too). A statement '..UptoSaid' is the law's where the arguments, and the package variables that the reading takes, are together of bulk at most 1048576: NARROWER than '..Said'. Prove '..Said' where nothing that the law and all that it calls make is longer than what came in: it says more and counts as full. Else prove '..UptoSaid'. A law counts once. -/
mutual
def uptoBulk {H : Type} : DataW H → Nat
  | .lit (.string bytes) => bytes.length + 1
  | .lit _ => 1
  | .nil => 1
  | .ptr d => uptoBulk d + 1
  | .slice elems spare => uptoBulkAll elems + uptoBulkAll spare + 1
  | .agg parts => uptoBulkAll parts + 1
  | .iface _ d => uptoBulk d + 1
  | .map entries => uptoBulkEntries entries + 1
  | .held _ => 1
def uptoBulkAll {H : Type} : List (DataW H) → Nat
  | [] => 0
  | d :: r => uptoBulk d + uptoBulkAll r
def uptoBulkEntries {H : Type} : List (Lit × DataW H) → Nat
  | [] => 0
  | x :: r => uptoBulkEntry x + uptoBulkEntries r
def uptoBulkEntry {H : Type} : Lit × DataW H → Nat
  | (.string bytes, d) => bytes.length + uptoBulk d + 1
  | (_, d) => uptoBulk d + 1
 end
def uptoSmall : (H : Type) → List (DataW H) → Bool := fun _ ds => decide (uptoBulkAll ds ≤ 1048576)
def OpenSpec.upto (s : _root_.Go.ChangeSpec) : _root_.Go.OpenSpec := { _root_.Go.OpenSpec.ofChange s with cond := some uptoSmall }

/-- 'artesianlaw14.AliasMakes', WHERE WHAT IT READS IS OF BULK AT MOST 1048576: true; the input reads as it did. -/
def aliasMakesUptoRow : OpenClaim := { program := "ytfcoeonabppjiaa", sum := "65d51f92e9248a3aa9c418d1e4e40f4566c49d1920fafb7abcde16210318a869", func := "artesian/artesianlaw14.AliasMakes", spec := "aliasMakes", apart := false, narrowed := true }
def AliasMakesUptoSaid : Prop := aliasMakesUptoRow.holds Try.pinned (OpenSpec.upto aliasMakesSpec)

/-- 'artesianlaw14.AliasTables', WHERE WHAT IT READS IS OF BULK AT MOST 1048576: true; the input reads as it did. -/
def aliasTablesUptoRow : OpenClaim := { program := "ytfcoeonabppjiaa", sum := "65d51f92e9248a3aa9c418d1e4e40f4566c49d1920fafb7abcde16210318a869", func := "artesian/artesianlaw14.AliasTables", spec := "aliasTables", unfollowed := true, recurses := true, apart := false, narrowed := true }
def AliasTablesUptoSaid : Prop := aliasTablesUptoRow.holds Try.pinned (OpenSpec.upto aliasTablesSpec)

/-- 'artesianlaw14.AliasPicks', WHERE WHAT IT READS IS OF BULK AT MOST 1048576: true; the input reads as it did. -/
def aliasPicksUptoRow : OpenClaim := { program := "ytfcoeonabppjiaa", sum := "65d51f92e9248a3aa9c418d1e4e40f4566c49d1920fafb7abcde16210318a869", func := "artesian/artesianlaw14.AliasPicks", spec := "aliasPicks", unfollowed := true, recurses := true, apart := false, narrowed := true }
def AliasPicksUptoSaid : Prop := aliasPicksUptoRow.holds Try.pinned (OpenSpec.upto aliasPicksSpec)

/-- 'artesianlaw14.AliasKnown', WHERE WHAT IT READS IS OF BULK AT MOST 1048576: true; the input reads as it did. -/
def aliasKnownUptoRow : OpenClaim := { program := "ytfcoeonabppjiaa", sum := "65d51f92e9248a3aa9c418d1e4e40f4566c49d1920fafb7abcde16210318a869", func := "artesian/artesianlaw14.AliasKnown", spec := "aliasKnown", unfollowed := true, recurses := true, apart := false, narrowed := true }
def AliasKnownUptoSaid : Prop := aliasKnownUptoRow.holds Try.pinned (OpenSpec.upto aliasKnownSpec)

/-- 'artesianlaw14.AliasExact', WHERE WHAT IT READS IS OF BULK AT MOST 1048576: true; the input reads as it did. -/
def aliasExactUptoRow : OpenClaim := { program := "ytfcoeonabppjiaa", sum := "65d51f92e9248a3aa9c418d1e4e40f4566c49d1920fafb7abcde16210318a869", func := "artesian/artesianlaw14.AliasExact", spec := "aliasExact", unfollowed := true, recurses := true, apart := false, narrowed := true }
def AliasExactUptoSaid : Prop := aliasExactUptoRow.holds Try.pinned (OpenSpec.upto aliasExactSpec)

/-- 'artesianlaw14.AliasCounts', WHERE WHAT IT READS IS OF BULK AT MOST 1048576: true; the input reads as it did. -/
def aliasCountsUptoRow : OpenClaim := { program := "ytfcoeonabppjiaa", sum := "65d51f92e9248a3aa9c418d1e4e40f4566c49d1920fafb7abcde16210318a869", func := "artesian/artesianlaw14.AliasCounts", spec := "aliasCounts", unfollowed := true, recurses := true, apart := false, narrowed := true }
def AliasCountsUptoSaid : Prop := aliasCountsUptoRow.holds Try.pinned (OpenSpec.upto aliasCountsSpec)

end Rows
end Go.Proofs.Ytfcoeonabppjiaa
