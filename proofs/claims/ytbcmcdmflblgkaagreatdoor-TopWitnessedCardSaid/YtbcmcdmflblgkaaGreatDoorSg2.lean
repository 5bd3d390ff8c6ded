/-
  Sg2: a piece of the run, by the kernel (printed by mkseg.py).
-/
import Derived.Test.YtbcmcdmflblgkaaGreatDoorLit
import Derived.KernelRfl
namespace Go.Proofs.YtbcmcdmflblgkaaGreatDoor
namespace Ev
theorem seg2 : evCK ck 300 (rep 1 c1) (st_a3.st).ls (st_a3.st).stk (st_a3.st).h ⟨chk st_a4, fun _ => noK, noK⟩ = true := by kernel_rfl
end Ev
end Go.Proofs.YtbcmcdmflblgkaaGreatDoor
