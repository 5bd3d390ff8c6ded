/-
  Fit: the closed facts of the row of TopWitnessed, one by one.
  Fit2: the closed facts of the row of TopWitnessed, together.
-/
import Derived.Test.YtbcmcdmflblgkaaGreatDoorRows
import Derived.JoinedOf
import Derived.KernelRfl
namespace Go.Proofs.YtbcmcdmflblgkaaGreatDoor.topWitnessed
open Go
theorem fit_name : Tryz.pinned.checked.prog.funcNamed Rows.topWitnessedRow.func = some 5 := by kernel_rfl
theorem fit_in : (Rows.topWitnessedRow.inPlace == Tryz.pinned.checked.prog.inPlace 5) = true := by kernel_rfl
theorem fit_un : (Rows.topWitnessedRow.unfollowed == Tryz.pinned.checked.prog.unfollowed 5) = true := by kernel_rfl
theorem fit_re : (Rows.topWitnessedRow.recurses == Tryz.pinned.checked.prog.recurses 5) = true := by kernel_rfl
theorem fit_na : (Rows.topWitnessedRow.named == Tryz.pinned.checked.prog.varsNamed 5) = true := by kernel_rfl
theorem fit_wf : Rows.topWitnessedRow.wf (OpenSpec.ofChange Rows.topWitnessedSpec) = true := by kernel_rfl
theorem fit_lo : laidOutB Tryz.pinned.checked.prog = true := by kernel_rfl
theorem fit_mr : mapsRowed Tryz.pinned.checked.prog = true := by kernel_rfl
theorem fit_inst : Tryz.f5.isInstance Tryz.pinned.checked.prog Rows.topWitnessedRow.origin Rows.topWitnessedRow.targs := of_decide_eq_true (by kernel_rfl)
theorem fit_main : ¬ Check.packageOf Tryz.f5.name = "main" := by decide +kernel
theorem fit_wrap : Tryz.f5.isWrapper Tryz.pinned.checked.prog Rows.topWitnessedRow.wrapper Rows.topWitnessedRow.mainSum := by
  unfold Func.isWrapper
  rw [if_neg fit_main]
  exact ⟨rfl, rfl⟩
end Go.Proofs.YtbcmcdmflblgkaaGreatDoor.topWitnessed

namespace Go.Proofs.YtbcmcdmflblgkaaGreatDoor.topWitnessed
open Go
theorem fit : joinedFacts Tryz.pinned.checked.prog 5 Tryz.f5 Rows.topWitnessedSpec Rows.topWitnessedRow = true := by
  unfold joinedFacts
  rw [fit_wf, fit_lo, fit_mr, fit_in, fit_un, fit_re, fit_na]
  kernel_rfl
end Go.Proofs.YtbcmcdmflblgkaaGreatDoor.topWitnessed
