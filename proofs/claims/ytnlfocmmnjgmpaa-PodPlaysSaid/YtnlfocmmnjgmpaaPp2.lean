/- PodPlays: both ways joined. -/
import Derived.Test.YtnlfocmmnjgmpaaPp
namespace Go.Proofs.Ytnlfocmmnjgmpaa.Pp
open Go.RowKit Go.Proofs.Ytnlfocmmnjgmpaa.D Go.Proofs.Ytnlfocmmnjgmpaa.In2

theorem walk (a0 a1 a2 a3 : Int) (a4 : Option Addr) (len4 cap4 : Nat) (K N T : Nat → Int) (w : World) (hid : a0 ≤ 9223372036854775807) (w4 : Ops3 w a4 len4 K N T) :
    Calls Try.prog 15 #[.int .i64 a0, .int .i64 a1, .int .i64 a2, .int .i64 a3, .slice a4 len4 cap4] w fun e w' => e = .returned (.bool true) ∧ Below w.heap.size w w' := by
  by_cases hm : MayP a0 a1 a2 a3
  · exact walk_yes a0 a1 a2 a3 a4 len4 cap4 K N T w hid hm w4
  · exact walk_no a0 a1 a2 a3 a4 len4 cap4 w hm
end Go.Proofs.Ytnlfocmmnjgmpaa.Pp
