/- TopLeft: the plain law, reckoned by the kernel (printed by gen_Va27.py). -/
import Derived.Test.YtlhipaffhehcnaaGreatT42
namespace Go.Proofs.YtlhipaffhehcnaaGreat
open Go.RowKit
set_option linter.unusedSimpArgs false
set_option maxRecDepth 100000 in
theorem pl_3_3_0_0 : ([[0, 0, 1], [0, 0, 2], [0, 0, 3]] : List (List Nat)).all (fun t => (List.range 4).all fun n => topB t 3 n) = true := by decide +kernel
set_option maxRecDepth 100000 in
theorem pl_3_3_0_1 : ([[0, 1, 0], [0, 1, 1], [0, 1, 2], [0, 1, 3]] : List (List Nat)).all (fun t => (List.range 4).all fun n => topB t 3 n) = true := by decide +kernel
set_option maxRecDepth 100000 in
theorem pl_3_3_0_2 : ([[0, 2, 0], [0, 2, 1], [0, 2, 2], [0, 2, 3]] : List (List Nat)).all (fun t => (List.range 4).all fun n => topB t 3 n) = true := by decide +kernel
set_option maxRecDepth 100000 in
theorem pl_3_3_0_3 : ([[0, 3, 0], [0, 3, 1], [0, 3, 2], [0, 3, 3]] : List (List Nat)).all (fun t => (List.range 4).all fun n => topB t 3 n) = true := by decide +kernel
end Go.Proofs.YtlhipaffhehcnaaGreat
