/-
  Sg0: a piece of the run, by the kernel (printed by mkseg.py).
-/
import Derived.Test.YtbcmcdmflblgkaaGreatDoorLit
import Derived.KernelRfl
namespace Go.Proofs.YtbcmcdmflblgkaaGreatDoor
namespace Ev
theorem seg0 : evCK ck 300 PRE (S0).ls (S0).stk (S0).h ⟨chk st_pre, fun _ => noK, noK⟩ = true := by kernel_rfl
end Ev
end Go.Proofs.YtbcmcdmflblgkaaGreatDoor
