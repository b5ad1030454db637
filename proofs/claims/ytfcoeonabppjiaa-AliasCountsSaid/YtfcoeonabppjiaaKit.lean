/- Functions of artesiankit and of Go's library that several chapters share: what each comes to. -/
import Derived.Test.YtfcoeonabppjiaaRows
import Derived.Test.YtfcoeonabppjiaaBase
namespace Go.Proofs.Ytfcoeonabppjiaa
open Go.RowKit
set_option linter.unusedVariables false
theorem u8_info : (Try.prog.info? 5).map (fun i => (i.zero, i.size, i.bytes)) = some (some (.int .u8 0), 1, 1) := by kernel_rfl
theorem u8_size : (Try.prog.info? 5).map (·.size) = some 1 := by kernel_rfl
end Go.Proofs.Ytfcoeonabppjiaa
