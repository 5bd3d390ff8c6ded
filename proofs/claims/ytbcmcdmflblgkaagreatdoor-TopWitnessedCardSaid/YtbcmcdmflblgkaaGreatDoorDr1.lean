/-
  Dr1: one world's facts held against another base: all that the evaluator does not know of stays.
-/
import Derived.Test.YtbcmcdmflblgkaaGreatDoorSnd14
import Derived.RangeFuncNested
namespace Go.Proofs.YtbcmcdmflblgkaaGreatDoor
namespace Ev
open Go.RowKit
set_option linter.unusedVariables false
set_option linter.unusedSectionVars false
/-- a base of a world's own: what is known of it may be written, and what is made -/
abbrev rebase (ρ : Rho) (w : World) : Base := ⟨w, fun B => w.heap.size ≤ B ∨ ∃ b q, ρ b = some (B, q), fun B h => .inl h⟩
variable [bs : Base]
theorem WR.rebase {ρ : Rho} {h : H} {w : World} (hw : WR ρ h w) : @WR (rebase ρ w) ρ h w :=
  @WR.mk (Ev.rebase ρ w) ρ h w hw.cells hw.inj hw.new (fun b B q e => .inr ⟨b, q, e⟩) (@Kep.mk (Ev.rebase ρ w) w rfl rfl rfl (Nat.le_refl _) (fun _ _ => rfl)) hw.lt
theorem WR.back {ρ ρ' : Rho} {h h' : H} {w w' : World} (hw : WR ρ h w) (hw' : @WR (Ev.rebase ρ w) ρ' h' w') : WR ρ' h' w' := by
  have hb : @Kep (Ev.rebase ρ w) w' := @WR.below (Ev.rebase ρ w) _ _ _ hw'
  refine ⟨@WR.cells (Ev.rebase ρ w) _ _ _ hw', @WR.inj (Ev.rebase ρ w) _ _ _ hw', @WR.new (Ev.rebase ρ w) _ _ _ hw', fun b B q e => ?_, ⟨?_, ?_, ?_, ?_, fun k hk => ?_⟩, @WR.lt (Ev.rebase ρ w) _ _ _ hw'⟩
  · rcases @WR.own (Ev.rebase ρ w) _ _ _ hw' b B q e with h1 | ⟨b', q', h1⟩
    · exact bs.fr B (Nat.le_trans hw.below.size h1)
    · exact hw.own b' B q' h1
  · exact (@Kep.os (Ev.rebase ρ w) _ hb).trans hw.below.os
  · exact (@Kep.tape (Ev.rebase ρ w) _ hb).trans hw.below.tape
  · exact (@Kep.output (Ev.rebase ρ w) _ hb).trans hw.below.output
  · exact Nat.le_trans hw.below.size (@Kep.size (Ev.rebase ρ w) _ hb)
  · refine (@Kep.block (Ev.rebase ρ w) _ hb k ?_).trans (hw.below.block k hk)
    rintro (h1 | ⟨b, q, h1⟩)
    · exact hk (bs.fr k (Nat.le_trans hw.below.size h1))
    · exact hk (hw.own b k q h1)
/-- a block that is not known of, and was there, lies as it lay -/
theorem WR.far {ρ ρ' : Rho} {h h' : H} {w w' : World} (hw' : @WR (Ev.rebase ρ w) ρ' h' w') {D : Nat} (hD : D < w.heap.size) (hn : ∀ b q, ρ b ≠ some (D, q)) : w'.heap[D]? = w.heap[D]? := by
  refine @Kep.block (Ev.rebase ρ w) _ (@WR.below (Ev.rebase ρ w) _ _ _ hw') D ?_
  rintro (h1 | ⟨b, q, h1⟩)
  · exact absurd hD (Nat.not_lt.2 h1)
  · exact hn b q h1
theorem WR.below_ {ρ : Rho} {h : H} {w w' : World} (hw : WR ρ h w) (hb : Below w.heap.size w w') : WR ρ h w' := by
  refine ⟨fun b cs hc B s L hr => ?_, hw.inj, hw.new, hw.own, hw.below.below hb, fun b B q e => Nat.lt_of_lt_of_le (hw.lt b B q e) hb.size⟩
  obtain ⟨arr, e, ha, h1, h2⟩ := hw.cells b cs hc B s L hr
  exact ⟨arr, e, (hb.block B (Array.getElem?_eq_some_iff.1 ha).1).trans ha, h1, h2⟩
/-- an object that is no row of cells, made in the run, turns -/
theorem WR.putObj {ρ : Rho} {h : H} {w : World} (hw : WR ρ h w) {D : Nat} {o : Obj} (ho : w.heap[D]? = some o) (hc : o.isCells = false) (hF : bs.Fr D) (o' : Obj) : WR ρ h (w.putObj D o') := by
  refine ⟨fun b cs hb B s L hr => ?_, hw.inj, hw.new, hw.own, ⟨hw.below.os, hw.below.tape, hw.below.output, by simpa using hw.below.size, fun k hk => ?_⟩, fun b B q e => by simpa using hw.lt b B q e⟩
  · obtain ⟨arr, e, ha, h1, h2⟩ := hw.cells b cs hb B s L hr
    refine ⟨arr, e, (World.putObj_heap_other (fun e' => ?_)).trans ha, h1, h2⟩
    rw [e', ho] at ha
    injection ha with ha
    rw [ha] at hc
    cases hc
  · exact (World.putObj_heap_other (fun e' => hk (by rw [e']; exact hF))).trans (hw.below.block k hk)
end Ev
end Go.Proofs.YtbcmcdmflblgkaaGreatDoor
