/-
  Sg7: a piece of the run, by the kernel (printed by mkseg.py).
-/
import Derived.Test.YtbcmcdmflblgkaaGreatDoorLit
import Derived.KernelRfl
namespace Go.Proofs.YtbcmcdmflblgkaaGreatDoor
namespace Ev
theorem seg7 : evCK ck 300 (.seq MID (rep 3 c3)) (st_b23.st).ls (st_b23.st).stk (st_b23.st).h ⟨chk st_c2, fun _ => noK, noK⟩ = true := by kernel_rfl
end Ev
end Go.Proofs.YtbcmcdmflblgkaaGreatDoor
