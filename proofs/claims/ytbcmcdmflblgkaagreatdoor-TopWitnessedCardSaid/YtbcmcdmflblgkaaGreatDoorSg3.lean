/-
  Sg3: a piece of the run, by the kernel (printed by mkseg.py).
-/
import Derived.Test.YtbcmcdmflblgkaaGreatDoorLit
import Derived.KernelRfl
namespace Go.Proofs.YtbcmcdmflblgkaaGreatDoor
namespace Ev
theorem seg3 : evCK ck 300 (.loop c1) (st_a4.st).ls (st_a4.st).stk (st_a4.st).h ⟨noK, fun j => bif Nat.beq j 0 then chk st_a12 else noK, noK⟩ = true := by kernel_rfl
end Ev
end Go.Proofs.YtbcmcdmflblgkaaGreatDoor
