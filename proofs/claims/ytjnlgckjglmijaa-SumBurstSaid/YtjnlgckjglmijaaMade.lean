/-
  Slices of bytes that a call makes: Twin.
-/
import Derived.Test.YtjnlgckjglmijaaKeep
import Derived.OwnWalk
import Derived.Laws.AppendOwn
import Derived.Laws.AppendOwnNone
import Derived.Laws.OwnMore
namespace Go.Proofs.Ytjnlgckjglmijaa
open Go.ChangeShapes Go.WideShapes Go.ChangeAt Go.RowKit
set_option linter.unusedVariables false
theorem info5 : (Try.prog.info? 5).map (fun i => (i.zero, i.size, i.bytes)) = some (some (.int .u8 0), 1, 1) := by kernel_rfl
def bytesOf (l : List Nat) : List Value := l.map fun c : Nat => Value.int .u8 (c : Int)
theorem bytesOf_length (l : List Nat) : (bytesOf l).length = l.length := List.length_map ..
theorem bytesOf_append (l m : List Nat) : bytesOf (l ++ m) = bytesOf l ++ bytesOf m := List.map_append ..
theorem bytesOf_get {l : List Nat} {j : Nat} (hj : j < l.length) : (bytesOf l)[j]? = some (.int .u8 ((l.getD j 0 : Nat) : Int)) := by
  simp [bytesOf, List.getD_eq_getElem?_getD, hj]
theorem bytesOf_one (l : List Nat) : ∀ u ∈ bytesOf l, u.oneCell' = true := by
  intro u hu
  obtain ⟨c, _, rfl⟩ := List.mem_map.1 hu
  rfl
/-- a row of the call's own reads as a list -/
theorem Row.of_own {w : World} {base n c : Nat} {e : TypeId} {a : Option Addr} {l : List Nat} (h : w.ownsRow base e 1 (.slice a n c) n (bytesOf l)) (hb : ∀ x ∈ l, x < 256) : Row w a n l := by
  have hlen : l.length = n := by have := h.1; rw [bytesOf_length] at this; omega
  refine ⟨hlen, hb, fun hn => ?_⟩
  rcases h.2 with ⟨_, h0⟩ | ⟨g, cap, cur, hv, _, _, _⟩
  · omega
  · have ha : a = some ⟨g, 0, none⟩ := by injection hv
    subst ha
    refine ⟨g, 0, rfl, fun j hj => ?_⟩
    rw [Nat.zero_add, h.cellAt j (by omega), bytesOf_get (by omega)]
theorem own_nil {w : World} {base n c : Nat} {e : TypeId} {size : Nat} {a : Option Addr} {xs : List Value} (h : w.ownsRow base e size (.slice a n c) n xs) : a = none → c = 0 := by
  rintro rfl
  rcases h.2 with ⟨hv, _⟩ | ⟨g, cap, cur, hv, _⟩
  · injection hv
  · injection hv with h1; cases h1
theorem Row.news {w : World} {ad : Addr} {n : Nat} {l : List Nat} (h : Row w (some ad) n l) : ∀ j u, (bytesOf l)[j]? = some u → w.cell? (ad.add j) = some u := by
  intro j u hu
  have hj : j < l.length := by
    rcases Nat.lt_or_ge j l.length with h1 | h1
    · exact h1
    · rw [List.getElem?_eq_none (by rw [bytesOf_length]; exact h1)] at hu; cases hu
  have hlen := h.1
  obtain ⟨b, o, ha, hc⟩ := h.2.2 (by omega)
  injection ha with ha
  subst ha
  have e : (Addr.add ⟨b, o, none⟩ j) = ⟨b, o + j, none⟩ := by unfold Addr.add; split <;> simp_all
  rw [e, hc j (by omega), ← hu, bytesOf_get hj]
/-- what a function that makes a slice of bytes leaves -/
def Made (l : List Nat) (W : World) (e : Ending) (w' : World) : Prop :=
  ∃ a c, e = .returned (.slice a l.length c) ∧ w'.ownsRow W.heap.size 5 1 (.slice a l.length c) l.length (bytesOf l) ∧ Below W.heap.size W w'
theorem own_form {w : World} {base e size n : Nat} {v : Value} {xs : List Value} (h : w.ownsRow base e size v n xs) : ∃ a c, v = .slice a n c := by
  rcases h.2 with ⟨rfl, rfl⟩ | ⟨g, cap, cur, rfl, _⟩
  · exact ⟨_, _, rfl⟩
  · exact ⟨_, _, rfl⟩
theorem twin_any (a : Option Addr) (n c : Nat) (l : List Nat) (w : World) (hl : Row w a n l) (hc0 : a = none → c = 0) (hn : n ≤ 1000) :
    Calls Try.prog 10 #[.slice a n c] w (Made l w) := by
  obtain ⟨i0, hi, hz0, hz1, hz2⟩ := info_parts info5
  have hlen := hl.1
  rcases a with _ | ad
  · obtain rfl := hc0 rfl
    have h0 : n = 0 := by
      rcases Nat.eq_zero_or_pos n with h | h
      · exact h
      · obtain ⟨b, o, hx, _⟩ := hl.2.2 h; cases hx
    subst h0
    have hnil : l = [] := List.eq_nil_of_length_eq_zero hlen
    subst hnil
    clear hl hc0 hlen
    go_enter Try.func10, Try.ntmps10
    go_wp2_with (at_builtin; refine wpList_append_own_none rfl (.tmp 4) (.tmp 5) 22 rfl w.heap.size 5 i0 1 Try.underlying22 hi _ 0 [] rfl (World.ownsRow_nil _ _ _ _) rfl ?_)
    go_ret
    exact ⟨none, 0, rfl, World.ownsRow_nil _ _ _ _, Below.refl _ _⟩
  · have hnews := Lib.hid hl.news
    have hone := Lib.hid (bytesOf_one l)
    subst hlen
    have hc1 : (bytesOf l).length = l.length * 1 := by rw [bytesOf_length]; omega
    have hc3 : 0 + l.length ≤ maxLen := by unfold maxLen; omega
    have hc4 : (0 + l.length) * 1 ≤ 140737488355328 := by omega
    have HC1 := Lib.hid hc1
    have HC4 := Lib.hid hc4
    clear hc1 hc4
    clear hl hc0
    go_enter Try.func10, Try.ntmps10
    go_wp2_with (at_builtin; (refine wpList_append_own _ rfl (.tmp 4) (.tmp 5) 22 rfl w.heap.size 5 i0 (.int .u8 0) 1 1 Try.underlying22 hi hz0 hz1 hz2 rfl (by decide) _ 0 [] rfl (World.ownsRow_nil _ _ _ _) ad l.length c (bytesOf l) rfl HC1.out hnews.out hone.out hc3 HC4.out (Nat.le_refl _) ?_); intro v' w1 hown hgrow _)
    go_ret
    rw [Nat.zero_add, List.nil_append] at hown
    obtain ⟨a', c', rfl⟩ := own_form hown
    exact ⟨a', c', rfl, hown, (Below.refl _ _).grown hgrow (Nat.le_refl _) (fun k hk => by cases hk)⟩
end Go.Proofs.Ytjnlgckjglmijaa
