/-
  Sg5: a piece of the run, by the kernel (printed by mkseg.py).
-/
import Derived.Test.YtbcmcdmflblgkaaGreatDoorLit
import Derived.KernelRfl
namespace Go.Proofs.YtbcmcdmflblgkaaGreatDoor
namespace Ev
theorem seg5 : evCK ck 300 (rep 9 c2) (st_b6.st).ls (st_b6.st).stk (st_b6.st).h ⟨chk st_b15, fun _ => noK, noK⟩ = true := by kernel_rfl
end Ev
end Go.Proofs.YtbcmcdmflblgkaaGreatDoor
