/-
  Sg9: a piece of the run, by the kernel (printed by mkseg.py).
-/
import Derived.Test.YtbcmcdmflblgkaaGreatDoorLit
import Derived.KernelRfl
namespace Go.Proofs.YtbcmcdmflblgkaaGreatDoor
namespace Ev
theorem seg9 : evCK ck 300 T12 (st_c3.st).ls (st_c3.st).stk (st_c3.st).h ⟨noK, fun _ => noK, chk st_end⟩ = true := by kernel_rfl
end Ev
end Go.Proofs.YtbcmcdmflblgkaaGreatDoor
