/-
  No cell of these rows narrows 'for every input' (looked for: loops, veiled, ifaces, maps, wideKeys, modest, calm, conditions, laid).
  DERIVED. THE GIVEN ROWS OF THIS SEAT. 6 by the template 'for every input the law returns true; each argument reads behind the call as it read before'; 0 by the template 'total and deterministic' (their statements: YtchdjbbhhjjmkaaTotals.lean).
  GIVEN WITH THE SEED: the statements are not yours to turn. If you find one false, say at which input.
  Laid BY PROGRAM, IN A SANDBOX (cutbox-rows.mjs): the forced cells as the released guide's own fill.sh prints them over the translation 039d3f42a6289b95… (all of the seat's roots in one cut). By AI agents, Wed Nov 11 2026. No macro, syntax, notation, axiom, sorry.
-/
import Derived.Test.YtchdjbbhhjjmkaaChecked
import GoSem.Claim
import GoSem.ClaimJoined
import GoSem.ClaimMapViews
import Derived.JoinedTies
import Derived.KernelRfl
namespace Go.Proofs.Ytchdjbbhhjjmkaa
/- THE CELL 'sum', in the pinned program and in every row, IS THE sha256 OF THE DUMP (.gsa) THAT YtchdjbbhhjjmkaaProg.lean LOADS. Nothing in Lean hashes anything: it is a label: what it is worth is what the hold of that sum in a sandbox is worth. -/
noncomputable def Try.pinned : Pinned := { name := "ytchdjbbhhjjmkaa", sum := "039d3f42a6289b95f60d66481bd9995ec598c19d9b717d616708002d8e453814", checked := Try.checked }
namespace Rows
def none {H : Type} : Left H := { results := [], args := [] }

/-- 'artesianlaw28.ObjectJoins': WHATEVER THE INPUT: true; the input reads as it did. -/
def objectJoinsSpec : ChangeSpec := { name := "objectJoins", fn := fun _ => fun
  | [d1, d2, d3, d4] => { results := [.lit (.bool true)], args := [d1, d2, d3, d4] }
  | _ => none }
def objectJoinsRow : OpenClaim := { program := "ytchdjbbhhjjmkaa", sum := "039d3f42a6289b95f60d66481bd9995ec598c19d9b717d616708002d8e453814", func := "artesian/artesianlaw28.ObjectJoins", spec := "objectJoins", unfollowed := true, recurses := true, apart := false }
def ObjectJoinsSaid : Prop := objectJoinsRow.holds Try.pinned (OpenSpec.ofChange objectJoinsSpec)

/-- ITS FALSE NEIGHBOUR: 'it returns false'. Refute it at one input. -/
def objectJoinsWrong : ChangeSpec := { name := "objectJoins", fn := fun _ => fun
  | [d1, d2, d3, d4] => { results := [.lit (.bool false)], args := [d1, d2, d3, d4] }
  | _ => none }
def ObjectJoinsWrongFalsely : Prop := objectJoinsRow.holds Try.pinned (OpenSpec.ofChange objectJoinsWrong)

/-- 'artesianlaw28.ObjectChanged': WHATEVER THE INPUT: true; the input reads as it did. -/
def objectChangedSpec : ChangeSpec := { name := "objectChanged", fn := fun _ => fun
  | [d1, d2, d3, d4] => { results := [.lit (.bool true)], args := [d1, d2, d3, d4] }
  | _ => none }
def objectChangedRow : OpenClaim := { program := "ytchdjbbhhjjmkaa", sum := "039d3f42a6289b95f60d66481bd9995ec598c19d9b717d616708002d8e453814", func := "artesian/artesianlaw28.ObjectChanged", spec := "objectChanged", unfollowed := true, recurses := true, apart := false }
def ObjectChangedSaid : Prop := objectChangedRow.holds Try.pinned (OpenSpec.ofChange objectChangedSpec)

/-- ITS FALSE NEIGHBOUR: 'it returns false'. Refute it at one input. -/
def objectChangedWrong : ChangeSpec := { name := "objectChanged", fn := fun _ => fun
  | [d1, d2, d3, d4] => { results := [.lit (.bool false)], args := [d1, d2, d3, d4] }
  | _ => none }
def ObjectChangedWrongFalsely : Prop := objectChangedRow.holds Try.pinned (OpenSpec.ofChange objectChangedWrong)

/-- 'artesianlaw28.ObjectCuts': WHATEVER THE INPUT: true; the input reads as it did. -/
def objectCutsSpec : ChangeSpec := { name := "objectCuts", fn := fun _ => fun
  | [d1, d2, d3, d4] => { results := [.lit (.bool true)], args := [d1, d2, d3, d4] }
  | _ => none }
def objectCutsRow : OpenClaim := { program := "ytchdjbbhhjjmkaa", sum := "039d3f42a6289b95f60d66481bd9995ec598c19d9b717d616708002d8e453814", func := "artesian/artesianlaw28.ObjectCuts", spec := "objectCuts", unfollowed := true, recurses := true, apart := false }
def ObjectCutsSaid : Prop := objectCutsRow.holds Try.pinned (OpenSpec.ofChange objectCutsSpec)

/-- ITS FALSE NEIGHBOUR: 'it returns false'. Refute it at one input. -/
def objectCutsWrong : ChangeSpec := { name := "objectCuts", fn := fun _ => fun
  | [d1, d2, d3, d4] => { results := [.lit (.bool false)], args := [d1, d2, d3, d4] }
  | _ => none }
def ObjectCutsWrongFalsely : Prop := objectCutsRow.holds Try.pinned (OpenSpec.ofChange objectCutsWrong)

/-- 'artesianlaw28.ObjectKnown': WHATEVER THE INPUT: true; the input reads as it did. -/
def objectKnownSpec : ChangeSpec := { name := "objectKnown", fn := fun _ => fun
  | [] => { results := [.lit (.bool true)], args := [] }
  | _ => none }
def objectKnownRow : OpenClaim := { program := "ytchdjbbhhjjmkaa", sum := "039d3f42a6289b95f60d66481bd9995ec598c19d9b717d616708002d8e453814", func := "artesian/artesianlaw28.ObjectKnown", spec := "objectKnown", unfollowed := true, recurses := true, apart := false }
def ObjectKnownSaid : Prop := objectKnownRow.holds Try.pinned (OpenSpec.ofChange objectKnownSpec)

/-- ITS FALSE NEIGHBOUR: 'it returns false'. Refute it at one input. -/
def objectKnownWrong : ChangeSpec := { name := "objectKnown", fn := fun _ => fun
  | [] => { results := [.lit (.bool false)], args := [] }
  | _ => none }
def ObjectKnownWrongFalsely : Prop := objectKnownRow.holds Try.pinned (OpenSpec.ofChange objectKnownWrong)

/-- 'artesianlaw28.ObjectBack': WHATEVER THE INPUT: true; the input reads as it did. -/
def objectBackSpec : ChangeSpec := { name := "objectBack", fn := fun _ => fun
  | [d1, d2, d3] => { results := [.lit (.bool true)], args := [d1, d2, d3] }
  | _ => none }
def objectBackRow : OpenClaim := { program := "ytchdjbbhhjjmkaa", sum := "039d3f42a6289b95f60d66481bd9995ec598c19d9b717d616708002d8e453814", func := "artesian/artesianlaw28.ObjectBack", spec := "objectBack", unfollowed := true, recurses := true, apart := false }
def ObjectBackSaid : Prop := objectBackRow.holds Try.pinned (OpenSpec.ofChange objectBackSpec)

/-- ITS FALSE NEIGHBOUR: 'it returns false'. Refute it at one input. -/
def objectBackWrong : ChangeSpec := { name := "objectBack", fn := fun _ => fun
  | [d1, d2, d3] => { results := [.lit (.bool false)], args := [d1, d2, d3] }
  | _ => none }
def ObjectBackWrongFalsely : Prop := objectBackRow.holds Try.pinned (OpenSpec.ofChange objectBackWrong)

/-- 'artesianlaw28.ObjectTurns': WHATEVER THE INPUT: true; the input reads as it did. -/
def objectTurnsSpec : ChangeSpec := { name := "objectTurns", fn := fun _ => fun
  | [d1, d2] => { results := [.lit (.bool true)], args := [d1, d2] }
  | _ => none }
def objectTurnsRow : OpenClaim := { program := "ytchdjbbhhjjmkaa", sum := "039d3f42a6289b95f60d66481bd9995ec598c19d9b717d616708002d8e453814", func := "artesian/artesianlaw28.ObjectTurns", spec := "objectTurns", unfollowed := true, recurses := true, apart := false }
def ObjectTurnsSaid : Prop := objectTurnsRow.holds Try.pinned (OpenSpec.ofChange objectTurnsSpec)

/-- ITS FALSE NEIGHBOUR: 'it returns false'. Refute it at one input. -/
def objectTurnsWrong : ChangeSpec := { name := "objectTurns", fn := fun _ => fun
  | [d1, d2] => { results := [.lit (.bool false)], args := [d1, d2] }
  | _ => none }
def ObjectTurnsWrongFalsely : Prop := objectTurnsRow.holds Try.pinned (OpenSpec.ofChange objectTurnsWrong)

/- THE SECOND FORM. 'bulk': how many values and letters a reading holds, each counted each time it is reached (what is shared counts as often as it is met; a slice's spare places count too). A statement '..UptoSaid' is the law's where the arguments, and the package variables that the reading takes, are together of bulk at most 1048576: NARROWER than '..Said'. Prove '..Said' where nothing that the law and all that it calls make is longer than what came in: it says more and counts as full. Else prove '..UptoSaid'. A law counts once. -/
mutual
def uptoBulk {H : Type} : DataW H → Nat
  | .lit (.string bytes) => bytes.length + 1
  | .lit _ => 1
  | .nil => 1
  | .ptr d => uptoBulk d + 1
  | .slice elems spare => uptoBulkAll elems + uptoBulkAll spare + 1
  | .agg parts => uptoBulkAll parts + 1
  | .iface _ d => uptoBulk d + 1
  | .map entries => uptoBulkEntries entries + 1
  | .held _ => 1
def uptoBulkAll {H : Type} : List (DataW H) → Nat
  | [] => 0
  | d :: r => uptoBulk d + uptoBulkAll r
def uptoBulkEntries {H : Type} : List (Lit × DataW H) → Nat
  | [] => 0
  | x :: r => uptoBulkEntry x + uptoBulkEntries r
def uptoBulkEntry {H : Type} : Lit × DataW H → Nat
  | (.string bytes, d) => bytes.length + uptoBulk d + 1
  | (_, d) => uptoBulk d + 1
 end
def uptoSmall : (H : Type) → List (DataW H) → Bool := fun _ ds => decide (uptoBulkAll ds ≤ 1048576)
def OpenSpec.upto (s : _root_.Go.ChangeSpec) : _root_.Go.OpenSpec := { _root_.Go.OpenSpec.ofChange s with cond := some uptoSmall }

/-- 'artesianlaw28.ObjectJoins', WHERE WHAT IT READS IS OF BULK AT MOST 1048576: true; the input reads as it did. -/
def objectJoinsUptoRow : OpenClaim := { program := "ytchdjbbhhjjmkaa", sum := "039d3f42a6289b95f60d66481bd9995ec598c19d9b717d616708002d8e453814", func := "artesian/artesianlaw28.ObjectJoins", spec := "objectJoins", unfollowed := true, recurses := true, apart := false, narrowed := true }
def ObjectJoinsUptoSaid : Prop := objectJoinsUptoRow.holds Try.pinned (OpenSpec.upto objectJoinsSpec)

/-- 'artesianlaw28.ObjectChanged', WHERE WHAT IT READS IS OF BULK AT MOST 1048576: true; the input reads as it did. -/
def objectChangedUptoRow : OpenClaim := { program := "ytchdjbbhhjjmkaa", sum := "039d3f42a6289b95f60d66481bd9995ec598c19d9b717d616708002d8e453814", func := "artesian/artesianlaw28.ObjectChanged", spec := "objectChanged", unfollowed := true, recurses := true, apart := false, narrowed := true }
def ObjectChangedUptoSaid : Prop := objectChangedUptoRow.holds Try.pinned (OpenSpec.upto objectChangedSpec)

/-- 'artesianlaw28.ObjectCuts', WHERE WHAT IT READS IS OF BULK AT MOST 1048576: true; the input reads as it did. -/
def objectCutsUptoRow : OpenClaim := { program := "ytchdjbbhhjjmkaa", sum := "039d3f42a6289b95f60d66481bd9995ec598c19d9b717d616708002d8e453814", func := "artesian/artesianlaw28.ObjectCuts", spec := "objectCuts", unfollowed := true, recurses := true, apart := false, narrowed := true }
def ObjectCutsUptoSaid : Prop := objectCutsUptoRow.holds Try.pinned (OpenSpec.upto objectCutsSpec)

/-- 'artesianlaw28.ObjectKnown', WHERE WHAT IT READS IS OF BULK AT MOST 1048576: true; the input reads as it did. -/
def objectKnownUptoRow : OpenClaim := { program := "ytchdjbbhhjjmkaa", sum := "039d3f42a6289b95f60d66481bd9995ec598c19d9b717d616708002d8e453814", func := "artesian/artesianlaw28.ObjectKnown", spec := "objectKnown", unfollowed := true, recurses := true, apart := false, narrowed := true }
def ObjectKnownUptoSaid : Prop := objectKnownUptoRow.holds Try.pinned (OpenSpec.upto objectKnownSpec)

/-- 'artesianlaw28.ObjectBack', WHERE WHAT IT READS IS OF BULK AT MOST 1048576: true; the input reads as it did. -/
def objectBackUptoRow : OpenClaim := { program := "ytchdjbbhhjjmkaa", sum := "039d3f42a6289b95f60d66481bd9995ec598c19d9b717d616708002d8e453814", func := "artesian/artesianlaw28.ObjectBack", spec := "objectBack", unfollowed := true, recurses := true, apart := false, narrowed := true }
def ObjectBackUptoSaid : Prop := objectBackUptoRow.holds Try.pinned (OpenSpec.upto objectBackSpec)

/-- 'artesianlaw28.ObjectTurns', WHERE WHAT IT READS IS OF BULK AT MOST 1048576: true; the input reads as it did. -/
def objectTurnsUptoRow : OpenClaim := { program := "ytchdjbbhhjjmkaa", sum := "039d3f42a6289b95f60d66481bd9995ec598c19d9b717d616708002d8e453814", func := "artesian/artesianlaw28.ObjectTurns", spec := "objectTurns", unfollowed := true, recurses := true, apart := false, narrowed := true }
def ObjectTurnsUptoSaid : Prop := objectTurnsUptoRow.holds Try.pinned (OpenSpec.upto objectTurnsSpec)

end Rows
end Go.Proofs.Ytchdjbbhhjjmkaa
