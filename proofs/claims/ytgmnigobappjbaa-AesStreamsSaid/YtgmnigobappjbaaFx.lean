/- Closed facts on the program's types. Conditions: none. -/
import Derived.Test.YtgmnigobappjbaaB1
import Derived.Test.YtgmnigobappjbaaSc
namespace Go.Proofs.Ytgmnigobappjbaa
open Go.RowKit

theorem built56 : Try.prog.built 56 [(1, .agg (arr 256 sN))] = some (arr 496 (cfN (fun _ => 0) 0)) := by kernel_rfl
theorem zero53 : (Try.prog.info? 53).bind (·.zero) = some (.agg (arr 4 fun _ => 0)) := by kernel_rfl
theorem size53 : (Try.prog.info? 53).map (·.size) = some 4 := by kernel_rfl
theorem size5 : (Try.prog.info? 5).map (·.size) = some 1 := by kernel_rfl
theorem cfN_zero (key : Nat → UInt8) : cfN (fun _ => 0) 0 = cfN key 0 := by
  funext j
  unfold cfN
  split
  · rw [if_neg (by omega), if_neg (by omega)]
  · rfl

end Go.Proofs.Ytgmnigobappjbaa
