/- TopLeft: the plain law, reckoned by the kernel (printed by gen_Va27.py). -/
import Derived.Test.YtlhipaffhehcnaaGreatT42
namespace Go.Proofs.YtlhipaffhehcnaaGreat
open Go.RowKit
set_option linter.unusedSimpArgs false
set_option maxRecDepth 100000 in
theorem pl_1_1 : ([[1], [2], [3]] : List (List Nat)).all (fun t => (List.range 4).all fun n => topB t 1 n) = true := by decide +kernel
set_option maxRecDepth 100000 in
theorem pl_2_1 : ([[1], [2], [3]] : List (List Nat)).all (fun t => (List.range 4).all fun n => topB t 2 n) = true := by decide +kernel
set_option maxRecDepth 100000 in
theorem pl_2_2_0 : ([[0, 1], [0, 2], [0, 3]] : List (List Nat)).all (fun t => (List.range 4).all fun n => topB t 2 n) = true := by decide +kernel
set_option maxRecDepth 100000 in
theorem pl_2_2_1 : ([[1, 0], [1, 1], [1, 2], [1, 3]] : List (List Nat)).all (fun t => (List.range 4).all fun n => topB t 2 n) = true := by decide +kernel
set_option maxRecDepth 100000 in
theorem pl_2_2_2 : ([[2, 0], [2, 1], [2, 2], [2, 3]] : List (List Nat)).all (fun t => (List.range 4).all fun n => topB t 2 n) = true := by decide +kernel
set_option maxRecDepth 100000 in
theorem pl_2_2_3 : ([[3, 0], [3, 1], [3, 2], [3, 3]] : List (List Nat)).all (fun t => (List.range 4).all fun n => topB t 2 n) = true := by decide +kernel
set_option maxRecDepth 100000 in
theorem pl_3_1 : ([[1], [2], [3]] : List (List Nat)).all (fun t => (List.range 4).all fun n => topB t 3 n) = true := by decide +kernel
set_option maxRecDepth 100000 in
theorem pl_3_2_0 : ([[0, 1], [0, 2], [0, 3]] : List (List Nat)).all (fun t => (List.range 4).all fun n => topB t 3 n) = true := by decide +kernel
set_option maxRecDepth 100000 in
theorem pl_3_2_1 : ([[1, 0], [1, 1], [1, 2], [1, 3]] : List (List Nat)).all (fun t => (List.range 4).all fun n => topB t 3 n) = true := by decide +kernel
set_option maxRecDepth 100000 in
theorem pl_3_2_2 : ([[2, 0], [2, 1], [2, 2], [2, 3]] : List (List Nat)).all (fun t => (List.range 4).all fun n => topB t 3 n) = true := by decide +kernel
set_option maxRecDepth 100000 in
theorem pl_3_2_3 : ([[3, 0], [3, 1], [3, 2], [3, 3]] : List (List Nat)).all (fun t => (List.range 4).all fun n => topB t 3 n) = true := by decide +kernel
end Go.Proofs.YtlhipaffhehcnaaGreat
