/-
  Rel: an abstract value, an abstract heap and what they stand for; which operation of the model an operation of the evaluator is.
-/
import Derived.Test.YtbcmcdmflblgkaaGreatDoorEv
import Derived.Below
import Derived.RowKit
namespace Go.Proofs.YtbcmcdmflblgkaaGreatDoor
namespace Ev
set_option linter.unusedVariables false
set_option linter.unusedSectionVars false
open Go.RowKit
/-- of each block: the model's block, from which cell on, how many cells that has -/
abbrev Rho := Po → Option (Nat × Nat × Nat)
inductive VR (ρ : Rho) : V → Value → Prop
  | lit (v : Value) : VR ρ (.lit v) v
  | int (k : IntKind) (n : Int) : VR ρ (.int k n) (.int k n)
  | boo (b : Bool) : VR ρ (.boo b) (.bool b)
  | str {l : List Nat} {s : ByteArray} (h : s.data.toList = l.map UInt8.ofNat) (hl : ∀ x ∈ l, x < 256) : VR ρ (.str l) (.string s)
  | nils : VR ρ .nils (.slice none 0 0)
  | ptr {b : Po} {o B s L : Nat} (h : ρ b = some (B, s, L)) : VR ρ (.ptr b o) (.pointer (some ⟨B, s + o, none⟩))
  | sl {b : Po} {o n c c' k B s L : Nat} {ex : Bool} {ad : Addr} (h : ρ b = some (B, s, L)) (hk : s + o + c' * k ≤ L) (hn : n ≤ c') (hc : c ≤ c') (hx : ex = true → c' = c) (hm : c' ≤ maxLen) (ha : c' = 0 ∨ ad = ⟨B, s + o, none⟩) : VR ρ (.sl b o n c ex k) (.slice (some ad) n c')
  | fn {f : Nat} {caps : List V} {cs : Array Value} (hl : caps.length = cs.size) (h : ∀ (i : Nat) (v : V) (c : Value), caps[i]? = some v → cs[i]? = some c → VR ρ v c) : VR ρ (.fn f caps) (.func (.func f) #[] cs)
  | ifc {t : Nat} {v : V} {c : Value} (h : VR ρ v c) : VR ρ (.ifc t v) (.iface t c)
  | agg {vs : List V} {cs : Array Value} (hl : vs.length = cs.size) (h : ∀ (i : Nat) (v : V) (c : Value), vs[i]? = some v → cs[i]? = some c → VR ρ v c) : VR ρ (.agg vs) (.agg cs)
  | tup {vs : List V} {cs : Array Value} (hl : vs.length = cs.size) (h : ∀ (i : Nat) (v : V) (c : Value), vs[i]? = some v → cs[i]? = some c → VR ρ v c) : VR ρ (.tup vs) (.tuple cs)
def Ext (ρ ρ' : Rho) : Prop := ∀ b p, ρ b = some p → ρ' b = some p
theorem Ext.refl (ρ : Rho) : Ext ρ ρ := fun _ _ h => h
theorem Ext.trans {a b c : Rho} (h : Ext a b) (k : Ext b c) : Ext a c := fun x p e => k x p (h x p e)
theorem VR.ext {ρ ρ' : Rho} (e : Ext ρ ρ') {v : V} {u : Value} (h : VR ρ v u) : VR ρ' v u := by
  induction h with
  | lit v => exact .lit v
  | int k n => exact .int k n
  | boo b => exact .boo b
  | str h hl => exact .str h hl
  | nils => exact .nils
  | ptr h => exact .ptr (e _ _ h)
  | sl h hk hn hc hx hm ha => exact .sl (e _ _ h) hk hn hc hx hm ha
  | fn hl h ih => exact .fn hl ih
  | ifc h ih => exact .ifc ih
  | agg hl h ih => exact .agg hl ih
  | tup hl h ih => exact .tup hl ih
/-- lists of values -/
def VRs (ρ : Rho) (vs : List V) (us : List Value) : Prop := vs.length = us.length ∧ ∀ (i : Nat) (v : V) (u : Value), vs[i]? = some v → us[i]? = some u → VR ρ v u
theorem VRs.nil (ρ : Rho) : VRs ρ [] [] := ⟨rfl, fun i v u h => by simp at h⟩
theorem VRs.cons {ρ : Rho} {v : V} {u : Value} {vs : List V} {us : List Value} (h : VR ρ v u) (hs : VRs ρ vs us) : VRs ρ (v :: vs) (u :: us) := by
  refine ⟨by simp [hs.1], fun i a b ha hb => ?_⟩
  cases i with
  | zero => simp at ha hb; subst ha; subst hb; exact h
  | succ i => simp at ha hb; exact hs.2 i a b ha hb
theorem VRs.nil_inv {ρ : Rho} {us : List Value} (h : VRs ρ [] us) : us = [] := List.eq_nil_of_length_eq_zero h.1.symm
theorem VRs.cons_inv {ρ : Rho} {v : V} {vs : List V} {us : List Value} (h : VRs ρ (v :: vs) us) : ∃ u r, us = u :: r ∧ VR ρ v u ∧ VRs ρ vs r := by
  cases us with
  | nil => have := h.1; simp at this
  | cons u r => exact ⟨u, r, rfl, h.2 0 v u rfl rfl, by have := h.1; simpa using this, fun i a b ha hb => h.2 (i + 1) a b (by simpa using ha) (by simpa using hb)⟩
theorem VRs.ext {ρ ρ' : Rho} (e : Ext ρ ρ') {vs : List V} {us : List Value} (h : VRs ρ vs us) : VRs ρ' vs us := ⟨h.1, fun i v u hv hu => (h.2 i v u hv hu).ext e⟩
theorem VRs.append {ρ : Rho} {vs vs' : List V} {us us' : List Value} (h : VRs ρ vs us) (k : VRs ρ vs' us') : VRs ρ (vs ++ vs') (us ++ us') := by
  refine ⟨by simp [h.1, k.1], fun i v u hv hu => ?_⟩
  rcases Nat.lt_or_ge i vs.length with hi | hi
  · rw [List.getElem?_append_left hi] at hv
    rw [List.getElem?_append_left (by rw [← h.1]; exact hi)] at hu
    exact h.2 i v u hv hu
  · rw [List.getElem?_append_right hi] at hv
    rw [List.getElem?_append_right (by rw [← h.1]; exact hi), ← h.1] at hu
    exact k.2 _ v u hv hu
theorem VRs.take {ρ : Rho} {vs : List V} {us : List Value} (h : VRs ρ vs us) (n : Nat) : VRs ρ (vs.take n) (us.take n) := by
  refine ⟨by simp [h.1], fun i v u hv hu => ?_⟩
  rw [List.getElem?_take] at hv hu
  split at hv
  · rename_i hi; rw [if_pos hi] at hu; exact h.2 i v u hv hu
  · cases hv
theorem VRs.drop {ρ : Rho} {vs : List V} {us : List Value} (h : VRs ρ vs us) (n : Nat) : VRs ρ (vs.drop n) (us.drop n) := by
  refine ⟨by simp [h.1], fun i v u hv hu => ?_⟩
  rw [List.getElem?_drop] at hv hu
  exact h.2 _ v u hv hu
theorem VRs.of_arr {ρ : Rho} {vs : List V} {cs : Array Value} (hl : vs.length = cs.size) (h : ∀ (i : Nat) (v : V) (c : Value), vs[i]? = some v → cs[i]? = some c → VR ρ v c) : VRs ρ vs cs.toList :=
  ⟨by simpa using hl, fun i v u hv hu => h i v u hv (by simpa using hu)⟩
theorem VRs.arr {ρ : Rho} {vs : List V} {us : List Value} (h : VRs ρ vs us) : vs.length = us.toArray.size ∧ ∀ (i : Nat) (v : V) (c : Value), vs[i]? = some v → us.toArray[i]? = some c → VR ρ v c :=
  ⟨by simpa using h.1, fun i v c hv hc => h.2 i v c hv (by simpa using hc)⟩
theorem VRs.at_ {ρ : Rho} {vs : List V} {us : List Value} (h : VRs ρ vs us) {i : Nat} {v : V} (hv : vs[i]? = some v) : ∃ u, us[i]? = some u ∧ VR ρ v u := by
  have hi := (List.getElem?_eq_some_iff.1 hv).1
  have : i < us.length := by rw [← h.1]; exact hi
  exact ⟨us[i], List.getElem?_eq_getElem this, h.2 i v _ hv (List.getElem?_eq_getElem this)⟩

/-! ### The heap -/
/-- the world that the run began in; the blocks that it may write (those that it makes among them) -/
class Base where
  W0 : World
  Fr : Nat → Prop
  fr : ∀ B, W0.heap.size ≤ B → Fr B
variable [bs : Base]
/-- all other blocks are as they were -/
structure Kep (w : World) : Prop where
  os : w.os = bs.W0.os
  tape : w.tape = bs.W0.tape
  output : w.output = bs.W0.output
  size : bs.W0.heap.size ≤ w.heap.size
  block : ∀ k, ¬ bs.Fr k → w.heap[k]? = bs.W0.heap[k]?
theorem Kep.lt {k : Nat} (h : ¬ bs.Fr k) : k < bs.W0.heap.size := by
  rcases Nat.lt_or_ge k bs.W0.heap.size with h1 | h1
  · exact h1
  · exact absurd (bs.fr k h1) h
theorem Kep.below {w w' : World} (h : Kep w) (hb : Below w.heap.size w w') : Kep w' :=
  ⟨hb.os.trans h.os, hb.tape.trans h.tape, hb.output.trans h.output, Nat.le_trans h.size hb.size, fun k hk => (hb.block k (Nat.lt_of_lt_of_le (Kep.lt hk) h.size)).trans (h.block k hk)⟩
theorem Kep.alloc {w : World} (h : Kep w) (o : Obj) : Kep (w.alloc o) := h.below ((Below.refl _ w).alloc (Nat.le_refl _) o)
structure WR (ρ : Rho) (h : H) (w : World) : Prop where
  cells : ∀ b cs, h.get b = some cs → ∀ B s L, ρ b = some (B, s, L) → ∃ arr e, w.heap[B]? = some (.cells arr e (0, 0)) ∧ arr.size = L ∧ ∀ i v, cs[i]? = some v → ∃ u, arr[s + i]? = some u ∧ VR ρ v u
  inj : ∀ b b' cs cs', h.get b = some cs → h.get b' = some cs' → ∀ B q q', ρ b = some (B, q) → ρ b' = some (B, q') → b = b'
  new : ∀ b, h.nx.nat ≤ b.nat → ρ b = none
  own : ∀ b B q, ρ b = some (B, q) → bs.Fr B
  below : Kep w
  lt : ∀ b B q, ρ b = some (B, q) → B < w.heap.size
/-- what a step may do -/
structure St (ρ : Rho) (h : H) (ρ' : Rho) (h' : H) : Prop where
  same : ∀ b, b.nat < h.nx.nat → ρ' b = ρ b
  up : h.nx.nat ≤ h'.nx.nat
  keep : ∀ b, b.nat < h.nx.nat → ρ b = none → h'.get b = h.get b
theorem St.refl (ρ : Rho) (h : H) : St ρ h ρ h := ⟨fun _ _ => rfl, Nat.le_refl _, fun _ _ _ => rfl⟩
theorem St.trans {a b c : Rho} {x y z : H} (h : St a x b y) (k : St b y c z) : St a x c z :=
  ⟨fun p hp => (k.same p (Nat.lt_of_lt_of_le hp h.up)).trans (h.same p hp), Nat.le_trans h.up k.up, fun p hp hn => (k.keep p (Nat.lt_of_lt_of_le hp h.up) ((h.same p hp).trans hn)).trans (h.keep p hp hn)⟩
theorem St.ext {ρ ρ' : Rho} {h h' : H} {w : World} (k : St ρ h ρ' h') (hw : WR ρ h w) : Ext ρ ρ' := fun b p e => by
  rcases Nat.lt_or_ge b.nat h.nx.nat with hb | hb
  · rw [k.same b hb]; exact e
  · rw [hw.new b hb] at e; cases e
theorem WR.drew {ρ : Rho} {h : H} {w : World} (hw : WR ρ h w) (n : Nat) : WR ρ h { w with drawn := n } := ⟨hw.cells, hw.inj, hw.new, hw.own, hw.below.below ⟨rfl, rfl, rfl, Nat.le_refl _, fun _ _ => rfl⟩, hw.lt⟩
theorem H.get_new (h : H) (cs : List V) (b : Po) : (h.new cs).get b = if b = h.nx then some cs else h.get b := T.get_set h.nx b (some cs) h.m
theorem H.get_put (h : H) (g b : Po) (v : Option (List V)) : (h.put g v).get b = if b = g then v else h.get b := T.get_set g b v h.m
theorem H.nx_new (h : H) (cs : List V) : (h.new cs).nx.nat = h.nx.nat + 1 := Po.nat_succ _
end Ev
end Go.Proofs.YtbcmcdmflblgkaaGreatDoor
