/-
  Nw7: ring.Need at the two lists, as the evaluator's own rule has it.
-/
import Derived.Test.YtbcmcdmflblgkaaGreatDoorNw5
import Derived.Test.YtbcmcdmflblgkaaGreatDoorNd2
namespace Go.Proofs.YtbcmcdmflblgkaaGreatDoor
namespace Ev
open Go.RowKit
set_option linter.unusedVariables false
set_option linter.unusedSectionVars false
def nNeed : List V → H → Option (V × H) := fun vs h => match vs with
  | [.agg [.int .i64 (.ofNat a), .int .i64 (.ofNat b), .int .i64 (.ofNat c), .int .i64 (.ofNat d), .int .i64 (.ofNat e)], l] => io (beqs [a, b, c, d, e] [2, 2, 1, 14, 2]) (ob (held 1 l h) fun cs => match cs with
    | [.int .i64 (.ofNat x)] => io (beqs [x] [1]) (some (.tup [vi 4, vi 0], h))
    | [.int .i64 (.ofNat x), .int .i64 (.ofNat y)] => io (beqs [x, y] [0, 3]) (some (.tup [vi 7, vi 0], h))
    | _ => none)
  | _ => none
theorem nNeed_mono : MonE nNeed := by
  intro vs h v h1 he h' k
  unfold nNeed at he ⊢
  split at he
  · next a b c d e l =>
    obtain ⟨h2, he⟩ := io_get he
    obtain ⟨cs, h3, he⟩ := ob_get he
    rw [h2]
    simp only [io]
    rw [held_mono k h3]
    simp only [ob]
    split at he
    · obtain ⟨h4, he⟩ := io_get he
      injection he with he
      injection he with e1 e2
      subst e1 e2
      refine ⟨h', ?_, k⟩
      rw [h4]
    · obtain ⟨h4, he⟩ := io_get he
      injection he with he
      injection he with e1 e2
      subst e1 e2
      refine ⟨h', ?_, k⟩
      rw [h4]
    · cases he
  · cases he
variable [bs : Base]
theorem nNeed_ok : NatOK Tryz.prog 228 nNeed := by
  intro vs h v h' he ρ w us hw hs
  unfold nNeed at he
  split at he
  · next a b c d e l =>
    obtain ⟨h2, he1⟩ := io_get he
    obtain ⟨cs, hc, he2⟩ := ob_get he1
    clear he he1
    have h2 := beqs_iff.1 h2
    injection h2 with q1 h2
    injection h2 with q2 h2
    injection h2 with q3 h2
    injection h2 with q4 h2
    injection h2 with q5 h2
    subst q1 q2 q3 q4 q5
    obtain ⟨x, y, rfl, h1, h2⟩ := hs.two_inv
    obtain ⟨ca, rfl, h3⟩ := h1.agg_inv
    have eg : ca = #[.int .i64 2, .int .i64 2, .int .i64 1, .int .i64 14, .int .i64 2] := by
      apply Array.ext'
      obtain ⟨u0, r0, e0, v0, h3⟩ := h3.cons_inv
      obtain ⟨u1, r1, e1, v1, h3⟩ := h3.cons_inv
      obtain ⟨u2, r2, e2, v2, h3⟩ := h3.cons_inv
      obtain ⟨u3, r3, e3, v3, h3⟩ := h3.cons_inv
      obtain ⟨u4, e4, v4⟩ := h3.one_inv
      rw [e0, e1, e2, e3, e4, v0.int_inv, v1.int_inv, v2.int_inv, v3.int_inv, v4.int_inv]
      rfl
    subst eg
    obtain ⟨A, n, cap, ys, rfl, hsl, hlen, hR, hcell⟩ := held_rel hw h2 hc
    obtain ⟨b1, b2⟩ := sl_bounds h2 hsl
    split at he2
    · next x =>
      obtain ⟨h4, he⟩ := io_get he2
      injection he with he
      injection he with e1 e2
      subst e1 e2
      have h4 := beqs_iff.1 h4
      injection h4 with q1 h4
      subst q1
      obtain ⟨z, rfl, hz⟩ := hR.one_inv
      obtain rfl := hz.int_inv
      obtain rfl : n = 1 := by simpa using hlen.symm
      obtain ⟨B, o, rfl⟩ := sl_flat h2 hc (by omega)
      obtain ⟨a, e', hcl⟩ := hcell (by omega)
      injection e' with e'
      subst e'
      refine (need1 B o cap b1 w ?_).mono ?_
      · have := hcl 0 _ rfl
        rw [add_flat] at this
        exact this
      · rintro e w' ⟨rfl, hb⟩
        exact ⟨_, ρ, rfl, VR.tup_mk (VRs.cons (.int _ _) (VRs.cons (.int _ _) (VRs.nil ρ))), hw.below_ hb, St.refl _ _⟩
    · next x y =>
      obtain ⟨h4, he⟩ := io_get he2
      injection he with he
      injection he with e1 e2
      subst e1 e2
      have h4 := beqs_iff.1 h4
      injection h4 with q1 h4
      injection h4 with q2 h4
      subst q1 q2
      obtain ⟨z, z', rfl, hz, hz'⟩ := hR.two_inv
      obtain rfl := hz.int_inv
      obtain rfl := hz'.int_inv
      obtain rfl : n = 2 := by simpa using hlen.symm
      obtain ⟨B, o, rfl⟩ := sl_flat h2 hc (by omega)
      obtain ⟨a, e', hcl⟩ := hcell (by omega)
      injection e' with e'
      subst e'
      refine (need2 B o cap b1 w ?_ ?_).mono ?_
      · have := hcl 0 _ rfl
        rw [add_flat] at this
        exact this
      · have := hcl 1 _ rfl
        rw [add_flat] at this
        exact this
      · rintro e w' ⟨rfl, hb⟩
        exact ⟨_, ρ, rfl, VR.tup_mk (VRs.cons (.int _ _) (VRs.cons (.int _ _) (VRs.nil ρ))), hw.below_ hb, St.refl _ _⟩
    · cases he2
  · cases he
end Ev
end Go.Proofs.YtbcmcdmflblgkaaGreatDoor
