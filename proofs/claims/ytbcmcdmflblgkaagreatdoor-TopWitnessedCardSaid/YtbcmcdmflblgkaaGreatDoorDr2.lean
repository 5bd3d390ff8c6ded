/-
  Dr2: a range over slices.Backward of nothing, at the disk's writes.
-/
import Derived.RangeFuncNested
import Derived.Shelf.Abstract
import Derived.RangeFuncBound
import Derived.RangeFuncCalls
import Derived.RangeFuncLeaves
import Derived.OwnWalkIn
import Derived.TacticsInMore
import Derived.LoopNIn
import Derived.LoopIn
import Derived.Test.YtbcmcdmflblgkaaGreatDoorProg
import Derived.WalkKit
import Derived.ProofKit
import Derived.Below
import Derived.BigQuiet
namespace Go.Proofs.YtbcmcdmflblgkaaGreatDoor
open Go.RowKit Go.Shelf
set_option linter.unusedVariables false
attribute [local go_sem] Oper.semAt_some
set_option maxRecDepth 100000 in
theorem backW_in (F : Fence) (n : Nat) (hf : F.fn 322) (hro : F.round = none) (l : Nat) (ad : Addr) (A : Option Addr) (cap : Nat) (W : World) (hBs : W.cell? ad = some (.slice A 0 cap)) :
    CallsIn F n Tryz.prog 322 #[.func (.yield l) #[] #[], .pointer (some ad)] W fun e W' => (∃ v, e = .returned v) ∧ W' = W := by
  refine callsIn_of_wp Tryz.func322 rfl hf ?_ hro
  simp only [Tryz.ntmps322, List.size_toArray, List.length_cons, List.length_nil, Nat.reduceAdd, Nat.reduceSub, Array.replicate_succ, Array.replicate_zero, List.push_toArray, List.append_toArray, List.nil_append, List.cons_append]
  gi_wp2
  gi_loopw [3] (fun i wr => i = .int .i64 (-1) ∧ wr = W) (fun i _ => 0)
  case atStart => exact ⟨rfl, rfl⟩
  case round =>
    obtain ⟨rfl, rfl⟩ := hrel
    gi_wp2
    go_end0
    exact ⟨⟨_, rfl⟩, rfl⟩
theorem backW_stops (F : Fence) (n : Nat) (hf : F.fn 322) (hro : F.round = none) (ad : Addr) (A : Option Addr) (cap : Nat) (w : World) (hlt : ad.block < w.heap.size) (hc : w.cell? ad = some (.slice A 0 cap)) :
    SeqStopsK F n Tryz.prog 322 #[.pointer (some ad)] (fun x : Empty => #[]) (Below w.heap.size) (fun _ => True) (fun _ => False) 0 w := fun l J Jx W hW _ _ hY h0 => by
  refine (backW_in F n hf hro l ad A cap W ?_).mono ?_
  · exact (World.cell?_of_block (hW.block ad.block hlt)).trans hc
  · rintro e W' ⟨h1, rfl⟩
    exact ⟨h1, .inl ⟨[], trivial, h0⟩⟩
theorem range_none {g : Operand} {ps : Array Tmp} {assign body : Code} {Q : Exit → Act → World → Prop} {a : Act} {w : World} {ad : Addr} (hg : a.eval g = .func (.func 322) #[] #[.pointer (some ad)]) {A : Option Addr} {cap : Nat} (hlt : ad.block < w.heap.size) (hc : w.cell? ad = some (.slice A 0 cap))
    (hQ : ∀ (D : Nat) (W : World), w.heap.size ≤ D → Below w.heap.size w W → W.heap[D]? = some (.deferred (some [])) → Q .normal { a with defers := { target := .collected D, args := #[] } :: a.defers } W) :
    (Code.rangeFunc g ps assign body).wp Tryz.prog Q a w := by
  refine (wpIn_wide (n := 3)).1 ?_
  refine wpIn_rangeFunc_ownH (F := Fence.wide) (n := 3) rfl (by decide) (gf := 322) (lb := #[.pointer (some ad)]) hg trivial (enters_of Tryz.func322 (by kernel_rfl) rfl)
    (backW_stops Fence.wide 2 trivial rfl ad A cap w hlt hc) belowK_t (belowK_b (Nat.le_refl _)) (Below.refl _ _) (fun x => x.elim)
    (fun _ W => Below w.heap.size w W) (fun _ _ _ => False) (ownFrom_below (Nat.le_refl _) (Nat.le_refl _)) (fun _ _ _ _ _ hs => hs.elim) (Below.refl _ _) (fun _ _ _ => True) (fun x => x.elim)
    (fun _ _ x => x.elim) (fun _ _ x => x.elim) (fun D xs W hD _ hb hk => hQ D W hD hb hk) (fun _ _ _ _ _ h => h.elim)
end Go.Proofs.YtbcmcdmflblgkaaGreatDoor
