/-
  Sg6: a piece of the run, by the kernel (printed by mkseg.py).
-/
import Derived.Test.YtbcmcdmflblgkaaGreatDoorLit
import Derived.KernelRfl
namespace Go.Proofs.YtbcmcdmflblgkaaGreatDoor
namespace Ev
theorem seg6 : evCK ck 300 (.loop c2) (st_b15.st).ls (st_b15.st).stk (st_b15.st).h ⟨noK, fun j => bif Nat.beq j 2 then chk st_b23 else noK, noK⟩ = true := by kernel_rfl
end Ev
end Go.Proofs.YtbcmcdmflblgkaaGreatDoor
