/-
  Sg1: a piece of the run, by the kernel (printed by mkseg.py).
-/
import Derived.Test.YtbcmcdmflblgkaaGreatDoorLit
import Derived.KernelRfl
namespace Go.Proofs.YtbcmcdmflblgkaaGreatDoor
namespace Ev
theorem seg1 : evCK ck 300 (rep 4 c1) (st_pre.st).ls (st_pre.st).stk (st_pre.st).h ⟨chk st_a3, fun _ => noK, noK⟩ = true := by kernel_rfl
end Ev
end Go.Proofs.YtbcmcdmflblgkaaGreatDoor
