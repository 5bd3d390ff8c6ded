/-
  Sg4: a piece of the run, by the kernel (printed by mkseg.py).
-/
import Derived.Test.YtbcmcdmflblgkaaGreatDoorLit
import Derived.KernelRfl
namespace Go.Proofs.YtbcmcdmflblgkaaGreatDoor
namespace Ev
theorem seg4 : evCK ck 300 (.seq r12 (rep 7 c2)) (st_a12.st).ls (st_a12.st).stk (st_a12.st).h ⟨chk st_b6, fun _ => noK, noK⟩ = true := by kernel_rfl
end Ev
end Go.Proofs.YtbcmcdmflblgkaaGreatDoor
