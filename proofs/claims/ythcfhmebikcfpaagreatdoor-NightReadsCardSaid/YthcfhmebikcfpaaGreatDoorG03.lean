/- Lemmas and walks on which the claims of this seat lean: Ref4a. -/
import Derived.Test.YthcfhmebikcfpaaGreatDoorG01

set_option linter.all false

namespace Go.Proofs.YthcfhmebikcfpaaGreatDoor
open Go.RowKit

attribute [local go_sem] Holds.drew Holds.alloc Holds.drewN WB.holds

theorem within_any (n lo hi : Int) (w : World) :
    Calls Tryz.prog 98 #[.int .i64 n, .int .i64 lo, .int .i64 hi] w fun e w' => e = .returned (.bool (within n lo hi)) ∧ w = w' := by
  go_enter Tryz.func98, Tryz.ntmps98
  go_wp2
  all_goals
    go_ret
    simp [within]
  all_goals (intros; omega)

end Go.Proofs.YthcfhmebikcfpaaGreatDoor

namespace Go.Proofs.YthcfhmebikcfpaaGreatDoor
open Go.RowKit

attribute [local go_sem] Holds.drew Holds.alloc Holds.drewN WB.holds

end Go.Proofs.YthcfhmebikcfpaaGreatDoor

namespace Go.Proofs.YthcfhmebikcfpaaGreatDoor
open Go.RowKit

attribute [local go_sem] Holds.drew Holds.alloc Holds.drewN WB.holds

end Go.Proofs.YthcfhmebikcfpaaGreatDoor

namespace Go.Proofs.YthcfhmebikcfpaaGreatDoor
open Go.RowKit

attribute [local go_sem] Holds.drew Holds.alloc Holds.drewN WB.holds WB.old

theorem zeroInt : (Tryz.prog.info? 3).map (·.zero) = some (some (.int .i64 0)) := by kernel_rfl

end Go.Proofs.YthcfhmebikcfpaaGreatDoor

namespace Go.Proofs.YthcfhmebikcfpaaGreatDoor
open Go.RowKit

attribute [local go_sem] Holds.drew Holds.alloc Holds.drewN WB.holds

end Go.Proofs.YthcfhmebikcfpaaGreatDoor
