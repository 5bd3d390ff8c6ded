/-
  Sg8: a piece of the run, by the kernel (printed by mkseg.py).
-/
import Derived.Test.YtbcmcdmflblgkaaGreatDoorLit
import Derived.KernelRfl
namespace Go.Proofs.YtbcmcdmflblgkaaGreatDoor
namespace Ev
theorem seg8 : evCK ck 300 (.loop c3) (st_c2.st).ls (st_c2.st).stk (st_c2.st).h ⟨noK, fun j => bif Nat.beq j 4 then chk st_c3 else noK, noK⟩ = true := by kernel_rfl
end Ev
end Go.Proofs.YtbcmcdmflblgkaaGreatDoor
