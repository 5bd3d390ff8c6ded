/-
  Okb: what is shown of each function of the tables.
-/
import Derived.Test.YtbcmcdmflblgkaaGreatDoorProg
import Derived.Test.YtbcmcdmflblgkaaGreatDoorHin
import Derived.Test.YtbcmcdmflblgkaaGreatDoorIr3
import Derived.KernelRfl
namespace Go.Proofs.YtbcmcdmflblgkaaGreatDoor
namespace Ev
def OkF (f : Nat) (F : FR2) : Prop := ∃ fn locs hints, Tryz.prog.funcs[f]? = some fn ∧ compF Tryz.prog fn locs hints = some F ∧ (fn.name == "runtime.NumGoroutine") = false
theorem okf {f : Nat} {F : FR2} (fn : Func) (hi : HT) (h : Tryz.prog.funcs[f]? = some fn) (hn : (fn.name == "runtime.NumGoroutine") = false) (hc : compF Tryz.prog fn hi.1 (hlook hi.2) = some F) : OkF f F := ⟨fn, hi.1, hlook hi.2, h, hc, hn⟩
theorem leafA {α : Type} {f n : Nat} {F G : α} (e : (bif Nat.beq f n then some G else none) = some F) : f = n ∧ G = F := by
  cases hb : Nat.beq f n with
  | false => rw [hb] at e; cases e
  | true =>
    rw [hb] at e
    injection e with e
    exact ⟨Nat.eq_of_beq_eq_true hb, e⟩
theorem leafF {f n : Nat} {F G : FR2} (h : OkF n G) (e : (bif Nat.beq f n then some G else none) = some F) : OkF f F := by
  obtain ⟨h1, h2⟩ := leafA e
  subst h1
  subst h2
  exact h
theorem spF {b : Bool} {x y : Option FR2} {F : FR2} {q : Prop} (e : (bif b then x else y) = some F) (h1 : x = some F → q) (h2 : y = some F → q) : q := by
  cases b with
  | true => exact h1 e
  | false => exact h2 e
end Ev
end Go.Proofs.YtbcmcdmflblgkaaGreatDoor
