/-
  Fnd: over.find at any list (after this prover's own texts of the over seat; printed by fnd.py).
-/
import Derived.RangeFuncNested
import Derived.RangeFuncBound
import Derived.RangeFuncCalls
import Derived.RangeFuncLeaves
import Derived.Shelf.Abstract
import Derived.OwnWalkIn
import Derived.TacticsInMore
import Derived.LoopNIn
import Derived.LoopIn
import Derived.Test.YtbcmcdmflblgkaaGreatDoorProg
import Derived.WalkKit
import Derived.ProofKit
import Derived.OpenShut
import Derived.ChangeOld
import Derived.Below
import Derived.Lib.Hide
import Derived.Deep.QuietTactic
import Derived.BigQuiet
import Derived.Laws.OwnMore
import Derived.Laws.Rows
import Derived.Deep.Draws
namespace Go.Proofs.YtbcmcdmflblgkaaGreatDoor
open Go.RowKit Go.Shelf
set_option linter.unusedVariables false
attribute [local go_sem] Oper.semAt_some
/-- how the cells of one element, f 0, f 1 .., read as a datum -/
abbrev Elt (α : Type) := (Nat → Prop) → World → (Nat → Option Value) → α → Prop
/-- the slice value '.slice A n _' holds the elements xs, k cells each -/
def Slc {α : Type} (k : Nat) (E : Elt α) (p : Nat → Prop) (W : World) (A : Option Addr) (n : Nat) (xs : List α) : Prop :=
  xs.length = n ∧ (0 < n → ∃ b o, A = some ⟨b, o, none⟩ ∧ p b ∧ ∀ j x, xs[j]? = some x → E p W (fun i => W.cell? ⟨b, o + (j * k + i), none⟩) x)
theorem Slc.at_ {α : Type} {k : Nat} {E : Elt α} {p : Nat → Prop} {W : World} {A : Option Addr} {n : Nat} {xs : List α} (h : Slc k E p W A n xs) {j : Nat} {x : α} (hj : xs[j]? = some x) : ∃ b o, A = some ⟨b, o, none⟩ ∧ p b ∧ E p W (fun i => W.cell? ⟨b, o + (j * k + i), none⟩) x := by
  have hl := (List.getElem?_eq_some_iff.1 hj).1
  obtain ⟨b, o, e, hp, hx⟩ := h.2 (by have := h.1; omega)
  exact ⟨b, o, e, hp, hx j x hj⟩
structure Img where
  zone : Int
  what : Int
structure Txn where
  seq : Int
  pos : Int
  n : Int
  images : List Img
def imgE : Elt Img := fun p W f x => f 0 = some (.int .i64 x.zone) ∧ f 1 = some (.int .i64 x.what) ∧ ∃ A n c, f 2 = some (.slice A n c)
def txnE : Elt Txn := fun p W f x => f 0 = some (.int .i64 x.seq) ∧ f 1 = some (.int .i64 x.pos) ∧ f 2 = some (.int .i64 x.n) ∧ ∃ A n c, f 3 = some (.slice A n c) ∧ n ≤ c ∧ c ≤ maxLen ∧ Slc 3 imgE p W A n x.images
theorem imgE.at_ {p : Nat → Prop} {W : World} {A : Option Addr} {n : Nat} {xs : List Img} (h : Slc 3 imgE p W A n xs) {j : Nat} {x : Img} (hj : xs[j]? = some x) :
    ∃ b o A' n' c', A = some ⟨b, o, none⟩ ∧ p b ∧ W.cell? ⟨b, o + j * 3, none⟩ = some (.int .i64 x.zone) ∧ W.cell? ⟨b, o + j * 3 + 1, none⟩ = some (.int .i64 x.what) ∧ W.cell? ⟨b, o + j * 3 + 2, none⟩ = some (.slice A' n' c') := by
  obtain ⟨b, o, e, hp, h0, h1, A', n', c', h2⟩ := h.at_ hj
  exact ⟨b, o, A', n', c', e, hp, by simpa using h0, by simpa [Nat.add_assoc] using h1, by simpa [Nat.add_assoc] using h2⟩
theorem txnE.at_ {p : Nat → Prop} {W : World} {A : Option Addr} {n : Nat} {xs : List Txn} (h : Slc 4 txnE p W A n xs) {j : Nat} {x : Txn} (hj : xs[j]? = some x) :
    ∃ b o A' n' c', A = some ⟨b, o, none⟩ ∧ p b ∧ W.cell? ⟨b, o + j * 4, none⟩ = some (.int .i64 x.seq) ∧ W.cell? ⟨b, o + j * 4 + 1, none⟩ = some (.int .i64 x.pos) ∧ W.cell? ⟨b, o + j * 4 + 2, none⟩ = some (.int .i64 x.n) ∧
      W.cell? ⟨b, o + j * 4 + 3, none⟩ = some (.slice A' n' c') ∧ n' ≤ c' ∧ c' ≤ maxLen ∧ Slc 3 imgE p W A' n' x.images := by
  obtain ⟨b, o, e, hp, h0, h1, h2, A', n', c', h3, h4, h5, h6⟩ := h.at_ hj
  exact ⟨b, o, A', n', c', e, hp, by simpa using h0, by simpa [Nat.add_assoc] using h1, by simpa [Nat.add_assoc] using h2, by simpa [Nat.add_assoc] using h3, h4, h5, h6⟩

def hit (z q : Int) (x : Img) : Bool := x.zone == z && x.what == q
def lastI (z q : Int) : List Img → Option Img
  | [] => none
  | x :: xs => match lastI z q xs with
    | some y => some y
    | none => if hit z q x = true then some x else none
def lastT (z q : Int) : List Txn → Option (Txn × Img)
  | [] => none
  | t :: ts => match lastT z q ts with
    | some y => some y
    | none => (lastI z q t.images).map fun x => (t, x)
theorem lastI_none {z q : Int} : ∀ {xs : List Img}, (∀ x ∈ xs, hit z q x = false) → lastI z q xs = none
  | [], _ => rfl
  | x :: xs, h => by
    rw [lastI, lastI_none (fun y hy => h y (List.mem_cons_of_mem _ hy))]
    simp [h x (List.mem_cons_self ..)]
theorem lastI_some {z q : Int} : ∀ {xs : List Img} {i : Nat} {x : Img}, xs[i]? = some x → hit z q x = true → (∀ j y, i < j → xs[j]? = some y → hit z q y = false) → lastI z q xs = some x
  | [], i, x, h, _, _ => by simp at h
  | y :: ys, 0, x, h, hx, hn => by
    simp at h
    subst h
    rw [lastI, lastI_none (fun v hv => by
      obtain ⟨j, hj⟩ := List.getElem?_of_mem hv
      exact hn (j + 1) v (by omega) (by simpa using hj))]
    simp [hx]
  | y :: ys, i + 1, x, h, hx, hn => by
    rw [lastI, lastI_some (xs := ys) (i := i) (by simpa using h) hx (fun j v hj hv => hn (j + 1) v (by omega) (by simpa using hv))]
theorem lastT_none {z q : Int} : ∀ {ts : List Txn}, (∀ t ∈ ts, ∀ x ∈ t.images, hit z q x = false) → lastT z q ts = none
  | [], _ => rfl
  | t :: ts, h => by
    rw [lastT, lastT_none (fun y hy => h y (List.mem_cons_of_mem _ hy)), lastI_none (h t (List.mem_cons_self ..))]
    rfl
theorem lastT_some {z q : Int} : ∀ {ts : List Txn} {a : Nat} {t : Txn} {x : Img}, ts[a]? = some t → lastI z q t.images = some x → (∀ j y, a < j → ts[j]? = some y → ∀ v ∈ y.images, hit z q v = false) → lastT z q ts = some (t, x)
  | [], a, t, x, h, _, _ => by simp at h
  | y :: ys, 0, t, x, h, hx, hn => by
    simp at h
    subst h
    rw [lastT, lastT_none (fun v hv => by
      obtain ⟨j, hj⟩ := List.getElem?_of_mem hv
      exact hn (j + 1) v (by omega) (by simpa using hj)), hx]
    rfl
  | y :: ys, a + 1, t, x, h, hx, hn => by
    rw [lastT, lastT_some (ts := ys) (a := a) (by simpa using h) hx (fun j v hj hv => hn (j + 1) v (by omega) (by simpa using hv))]

/-- the element x.1 of the slice at A, and its value x.2 -/
def TEl (A : Option Addr) (p : Nat → Prop) (w : World) (xs : List Txn) (x : Nat × Value) : Prop :=
  ∃ (b o : Nat) (t : Txn) (A2 : Option Addr) (n2 c2 : Nat), A = some ⟨b, o, none⟩ ∧ w.cell? ⟨b, o + x.1 * 4, none⟩ = some (.int .i64 t.seq) ∧ w.cell? ⟨b, o + x.1 * 4 + 1, none⟩ = some (.int .i64 t.pos) ∧ w.cell? ⟨b, o + x.1 * 4 + 2, none⟩ = some (.int .i64 t.n) ∧ w.cell? ⟨b, o + x.1 * 4 + 3, none⟩ = some (.slice A2 n2 c2) ∧ x.2 = .agg #[(.int .i64 t.seq), (.int .i64 t.pos), (.int .i64 t.n), (.slice A2 n2 c2)] ∧ xs[x.1]? = some t ∧ n2 ≤ c2 ∧ c2 ≤ maxLen ∧ Slc 3 imgE p w A2 n2 t.images
abbrev TB (A : Option Addr) (p : Nat → Prop) (w : World) (xs : List Txn) : Type := { x : Nat × Value // TEl A p w xs x }
theorem fullT {A : Option Addr} {p : Nat → Prop} {w : World} {xs : List Txn} {n : Nat} (h : Slc 4 txnE p w A n xs) : ∀ m, m ≤ n → ∃ full : List (TB A p w xs), full.length = m ∧ ∀ (k : Nat) (y : TB A p w xs), full[k]? = some y → y.1.1 + k + 1 = m
  | 0, _ => ⟨[], rfl, fun k y hk => by simp at hk⟩
  | m + 1, hm => by
    obtain ⟨full, hl, hi⟩ := fullT h m (by omega)
    obtain ⟨t, ht⟩ : ∃ t, xs[m]? = some t := ⟨_, List.getElem?_eq_getElem (by rw [h.1]; omega)⟩
    obtain ⟨b, o, A2, n2, c2, e, hp, h0, h1, h2, h3, g1, g2, g3⟩ := txnE.at_ h ht
    refine ⟨⟨(m, .agg #[(.int .i64 t.seq), (.int .i64 t.pos), (.int .i64 t.n), (.slice A2 n2 c2)]), b, o, t, A2, n2, c2, e, h0, h1, h2, h3, rfl, ht, g1, g2, g3⟩ :: full, by simp [hl], fun k y hk => ?_⟩
    cases k with
    | zero => simp at hk; subst hk; rfl
    | succ k =>
      rw [List.getElem?_cons_succ] at hk
      have := hi k y hk
      omega
theorem take_snoc_T {α : Type} {l : List α} {k : Nat} {x : α} (h : l[k]? = some x) : l.take (k + 1) = l.take k ++ [x] := by rw [List.take_add_one, h]; rfl
set_option maxRecDepth 100000 in
set_option maxHeartbeats 2000000 in
theorem backT_in (F : Fence) (n : Nat) (hf : F.fn 312) (hro : F.round = none) (hn : 1 ≤ n) (l Bs n₀ : Nat) (A : Option Addr) (len cap : Nat) (p : Nat → Prop) (w0 : World) (xs : List Txn) (full : List (TB A p w0 xs)) (hfl : full.length = len)
    (hfi : ∀ (k : Nat) (y : TB A p w0 xs), full[k]? = some y → y.1.1 + k + 1 = len) (hlen : len ≤ 100000) (hn₀ : w0.heap.size ≤ n₀) (hBn : Bs < n₀) (J Jx : List (TB A p w0 xs) → World → Prop)
    (hY : ∀ pre x W, J pre W → pre.length < len → YieldAt F (n - 1) Tryz.prog l #[.int .i64 ((x.1.1 : Nat) : Int), x.1.2] W fun e W' =>
      (e = .returned (.bool true) ∧ J (pre ++ [x]) W' ∧ Below n₀ W W') ∨ (e = .returned (.bool false) ∧ Jx (pre ++ [x]) W'))
    (W : World) (hW : Below w0.heap.size w0 W) (hBs : W.cell? ⟨Bs, 0, none⟩ = some (.slice A len cap)) (h0 : J [] W) :
    CallsIn F n Tryz.prog 312 #[.func (.yield l) #[] #[], .pointer (some ⟨Bs, 0, none⟩)] W fun e W' => (∃ v, e = .returned v) ∧ ((∃ ys, ys = full ∧ J ys W') ∨ (∃ pre, pre <+: full ∧ Jx pre W')) := by
  have HFL := Lib.hid hfl
  have HFI := Lib.hid hfi
  clear hfl hfi
  refine callsIn_of_wp Tryz.func312 rfl hf ?_ hro
  simp only [Tryz.ntmps312, List.size_toArray, List.length_cons, List.length_nil, Nat.reduceAdd, Nat.reduceSub, Array.replicate_succ, Array.replicate_zero, List.push_toArray, List.append_toArray, List.nil_append, List.cons_append]
  gi_wp2
  gi_loopw [3] (fun i wr => ∃ (m : Nat) (q : Int), m ≤ len ∧ q + 1 = (m : Int) ∧ i = .int .i64 q ∧ J (full.take (len - m)) wr ∧ Below n₀ W wr)
    (fun i _ => (intOf i + 1).toNat)
  case atStart => exact ⟨len, (len : Int) - 1, Nat.le_refl _, by omega, rfl, by simpa using h0, Below.refl _ _⟩
  case round =>
    obtain ⟨m, q, hm, hq, rfl, hJs, hnx⟩ := hrel
    have hcb : wr.cell? ⟨Bs, 0, none⟩ = some (.slice A len cap) := (hnx.cell (p := ⟨Bs, 0, none⟩) hBn).trans hBs
    cases m with
    | zero =>
      obtain rfl : q = -1 := by omega
      have HJ : Hid (J full wr) := by
        have := hJs
        rwa [Nat.sub_zero, List.take_of_length_le (by rw [HFL.out]; exact Nat.le_refl _)] at this
      clear hJs
      gi_wp2
      go_end0
      exact ⟨⟨_, rfl⟩, .inl ⟨_, rfl, HJ.out⟩⟩
    | succ m =>
      obtain rfl : q = (m : Int) := by omega
      clear hq
      obtain ⟨x, hx⟩ : ∃ x, full[len - (m + 1)]? = some x := ⟨_, List.getElem?_eq_getElem (by rw [HFL.out]; omega)⟩
      have hxi := HFI.out _ _ hx
      have hxm : x.1.1 = m := by omega
      have HTK := Lib.hid (take_snoc_T hx)
      have HJ1 : len - (m + 1) + 1 = len - m := by omega
      rw [HJ1] at HTK
      have HPRE : Hid (full.take (len - m) <+: full) := List.take_prefix _ _
      have hJlen : (full.take (len - (m + 1))).length < len := by rw [List.length_take]; omega
      have hYx := hY _ x wr hJs hJlen
      rw [← HTK.out] at hYx
      have hB2 : Below w0.heap.size w0 wr := hW.trans (hnx.mono hn₀)
      clear hx hxi HTK HJ1 hJs hJlen
      obtain ⟨⟨xi, xv⟩, b, o, t, A2, n2, c2, rfl, h0, h1, h2, h3, hv, hxt, g1, g2, g3⟩ := x
      dsimp only at hv hxm hYx h0 h1 h2 h3
      subst hv hxm
      have d0 := (hB2.cell (p := ⟨b, o + xi * 4, none⟩) (World.block_lt_of_cell? _ _ h0)).trans h0
      have d1 := (hB2.cell (p := ⟨b, o + xi * 4 + 1, none⟩) (World.block_lt_of_cell? _ _ h1)).trans h1
      have d2 := (hB2.cell (p := ⟨b, o + xi * 4 + 2, none⟩) (World.block_lt_of_cell? _ _ h2)).trans h2
      have d3 := (hB2.cell (p := ⟨b, o + xi * 4 + 3, none⟩) (World.block_lt_of_cell? _ _ h3)).trans h3
      clear hxt g1 g2 g3 h0 h1 h2 h3
      obtain ⟨fn, tmps, assign, body, hy, hR⟩ := hYx
      have i0 : (0 : Int) ≤ (xi : Int) := by omega
      have i1 : (xi : Int) < (len : Int) := by omega
      gi_wp2
      refine hR.mono ?_
      rintro e W3 (⟨rfl, hJ3, hk3⟩ | ⟨rfl, hJx3⟩)
      · have HJ3 := Lib.hid hJ3
        clear hJ3
        gi_wp2
        go_roundw
        case rel => exact ⟨xi, (xi : Int) - 1, by omega, by omega, by first | rfl | go_num, HJ3.out, hnx.trans hk3⟩
        case measure => simp [intOf]
      · gi_wp2
        refine bodyPost_ret (results_none rfl _ _ _) rfl ?_
        exact ⟨⟨_, rfl⟩, .inr ⟨_, HPRE.out, hJx3⟩⟩
set_option maxHeartbeats 1000000 in
theorem BackT_in (F : Fence) (n : Nat) (hf : F.fn 276) (hro : F.round = none) (A : Option Addr) (len cap : Nat) (w : World) :
    CallsIn F n Tryz.prog 276 #[.slice A len cap] w fun e w' => e = .returned (.func (.func 312) #[] #[.pointer (some ⟨w.heap.size, 0, none⟩)]) ∧ w' = w.alloc (.cells #[.slice A len cap] 61) := by
  refine callsIn_of_wp Tryz.func276 rfl hf ?_ hro
  simp only [Tryz.ntmps276, List.size_toArray, List.length_cons, List.length_nil, Nat.reduceAdd, Nat.reduceSub, Array.replicate_succ, Array.replicate_zero, List.push_toArray, List.append_toArray, List.nil_append, List.cons_append]
  gi_wp2
  go_ret
  exact ⟨rfl, rfl⟩
theorem backT_stops (F : Fence) (n : Nat) (hf : F.fn 312) (hro : F.round = none) (hn : 1 ≤ n) (Bs n₀ : Nat) (A : Option Addr) (len cap : Nat) (p : Nat → Prop) (w0 : World) (xs : List Txn) (full : List (TB A p w0 xs)) (hfl : full.length = len)
    (hfi : ∀ (k : Nat) (y : TB A p w0 xs), full[k]? = some y → y.1.1 + k + 1 = len) (hlen : len ≤ 100000) (hn₀ : w0.heap.size ≤ n₀) (hBn : Bs < n₀) (w : World) (hnw : n₀ ≤ w.heap.size) (hw : Below w0.heap.size w0 w) (hc : w.cell? ⟨Bs, 0, none⟩ = some (.slice A len cap)) :
    SeqStopsK F n Tryz.prog 312 #[.pointer (some ⟨Bs, 0, none⟩)] (fun x : TB A p w0 xs => #[Value.int .i64 ((x.1.1 : Nat) : Int), x.1.2]) (Below n₀) (fun ys => ys = full) (fun pre => pre <+: full) len w := fun l J Jx W hW _ _ hY h0 =>
  backT_in F n hf hro hn l Bs n₀ A len cap p w0 xs full hfl hfi hlen hn₀ hBn J Jx hY W (hw.trans (hW.mono (Nat.le_trans hn₀ hnw))) ((hW.cell (p := ⟨Bs, 0, none⟩) (by show Bs < _; omega)).trans hc) h0
/-- the element x.1 of the slice at A, and its value x.2 -/
def IEl (A : Option Addr) (p : Nat → Prop) (w : World) (xs : List Img) (x : Nat × Value) : Prop :=
  ∃ (b o : Nat) (t : Img) (A2 : Option Addr) (n2 c2 : Nat), A = some ⟨b, o, none⟩ ∧ w.cell? ⟨b, o + x.1 * 3, none⟩ = some (.int .i64 t.zone) ∧ w.cell? ⟨b, o + x.1 * 3 + 1, none⟩ = some (.int .i64 t.what) ∧ w.cell? ⟨b, o + x.1 * 3 + 2, none⟩ = some (.slice A2 n2 c2) ∧ x.2 = .agg #[(.int .i64 t.zone), (.int .i64 t.what), (.slice A2 n2 c2)] ∧ xs[x.1]? = some t
abbrev IB (A : Option Addr) (p : Nat → Prop) (w : World) (xs : List Img) : Type := { x : Nat × Value // IEl A p w xs x }
theorem fullI {A : Option Addr} {p : Nat → Prop} {w : World} {xs : List Img} {n : Nat} (h : Slc 3 imgE p w A n xs) : ∀ m, m ≤ n → ∃ full : List (IB A p w xs), full.length = m ∧ ∀ (k : Nat) (y : IB A p w xs), full[k]? = some y → y.1.1 + k + 1 = m
  | 0, _ => ⟨[], rfl, fun k y hk => by simp at hk⟩
  | m + 1, hm => by
    obtain ⟨full, hl, hi⟩ := fullI h m (by omega)
    obtain ⟨t, ht⟩ : ∃ t, xs[m]? = some t := ⟨_, List.getElem?_eq_getElem (by rw [h.1]; omega)⟩
    obtain ⟨b, o, A2, n2, c2, e, hp, h0, h1, h2⟩ := imgE.at_ h ht
    refine ⟨⟨(m, .agg #[(.int .i64 t.zone), (.int .i64 t.what), (.slice A2 n2 c2)]), b, o, t, A2, n2, c2, e, h0, h1, h2, rfl, ht⟩ :: full, by simp [hl], fun k y hk => ?_⟩
    cases k with
    | zero => simp at hk; subst hk; rfl
    | succ k =>
      rw [List.getElem?_cons_succ] at hk
      have := hi k y hk
      omega
theorem take_snoc_I {α : Type} {l : List α} {k : Nat} {x : α} (h : l[k]? = some x) : l.take (k + 1) = l.take k ++ [x] := by rw [List.take_add_one, h]; rfl
set_option maxRecDepth 100000 in
set_option maxHeartbeats 2000000 in
theorem backI_in (F : Fence) (n : Nat) (hf : F.fn 313) (hro : F.round = none) (hn : 1 ≤ n) (l Bs n₀ : Nat) (A : Option Addr) (len cap : Nat) (p : Nat → Prop) (w0 : World) (xs : List Img) (full : List (IB A p w0 xs)) (hfl : full.length = len)
    (hfi : ∀ (k : Nat) (y : IB A p w0 xs), full[k]? = some y → y.1.1 + k + 1 = len) (hlen : len ≤ 100000) (hn₀ : w0.heap.size ≤ n₀) (hBn : Bs < n₀) (J Jx : List (IB A p w0 xs) → World → Prop)
    (hY : ∀ pre x W, J pre W → pre.length < len → YieldAt F (n - 1) Tryz.prog l #[.int .i64 ((x.1.1 : Nat) : Int), x.1.2] W fun e W' =>
      (e = .returned (.bool true) ∧ J (pre ++ [x]) W' ∧ Below n₀ W W') ∨ (e = .returned (.bool false) ∧ Jx (pre ++ [x]) W'))
    (W : World) (hW : Below w0.heap.size w0 W) (hBs : W.cell? ⟨Bs, 0, none⟩ = some (.slice A len cap)) (h0 : J [] W) :
    CallsIn F n Tryz.prog 313 #[.func (.yield l) #[] #[], .pointer (some ⟨Bs, 0, none⟩)] W fun e W' => (∃ v, e = .returned v) ∧ ((∃ ys, ys = full ∧ J ys W') ∨ (∃ pre, pre <+: full ∧ Jx pre W')) := by
  have HFL := Lib.hid hfl
  have HFI := Lib.hid hfi
  clear hfl hfi
  refine callsIn_of_wp Tryz.func313 rfl hf ?_ hro
  simp only [Tryz.ntmps313, List.size_toArray, List.length_cons, List.length_nil, Nat.reduceAdd, Nat.reduceSub, Array.replicate_succ, Array.replicate_zero, List.push_toArray, List.append_toArray, List.nil_append, List.cons_append]
  gi_wp2
  gi_loopw [3] (fun i wr => ∃ (m : Nat) (q : Int), m ≤ len ∧ q + 1 = (m : Int) ∧ i = .int .i64 q ∧ J (full.take (len - m)) wr ∧ Below n₀ W wr)
    (fun i _ => (intOf i + 1).toNat)
  case atStart => exact ⟨len, (len : Int) - 1, Nat.le_refl _, by omega, rfl, by simpa using h0, Below.refl _ _⟩
  case round =>
    obtain ⟨m, q, hm, hq, rfl, hJs, hnx⟩ := hrel
    have hcb : wr.cell? ⟨Bs, 0, none⟩ = some (.slice A len cap) := (hnx.cell (p := ⟨Bs, 0, none⟩) hBn).trans hBs
    cases m with
    | zero =>
      obtain rfl : q = -1 := by omega
      have HJ : Hid (J full wr) := by
        have := hJs
        rwa [Nat.sub_zero, List.take_of_length_le (by rw [HFL.out]; exact Nat.le_refl _)] at this
      clear hJs
      gi_wp2
      go_end0
      exact ⟨⟨_, rfl⟩, .inl ⟨_, rfl, HJ.out⟩⟩
    | succ m =>
      obtain rfl : q = (m : Int) := by omega
      clear hq
      obtain ⟨x, hx⟩ : ∃ x, full[len - (m + 1)]? = some x := ⟨_, List.getElem?_eq_getElem (by rw [HFL.out]; omega)⟩
      have hxi := HFI.out _ _ hx
      have hxm : x.1.1 = m := by omega
      have HTK := Lib.hid (take_snoc_I hx)
      have HJ1 : len - (m + 1) + 1 = len - m := by omega
      rw [HJ1] at HTK
      have HPRE : Hid (full.take (len - m) <+: full) := List.take_prefix _ _
      have hJlen : (full.take (len - (m + 1))).length < len := by rw [List.length_take]; omega
      have hYx := hY _ x wr hJs hJlen
      rw [← HTK.out] at hYx
      have hB2 : Below w0.heap.size w0 wr := hW.trans (hnx.mono hn₀)
      clear hx hxi HTK HJ1 hJs hJlen
      obtain ⟨⟨xi, xv⟩, b, o, t, A2, n2, c2, rfl, h0, h1, h2, hv, hxt⟩ := x
      dsimp only at hv hxm hYx h0 h1 h2
      subst hv hxm
      have d0 := (hB2.cell (p := ⟨b, o + xi * 3, none⟩) (World.block_lt_of_cell? _ _ h0)).trans h0
      have d1 := (hB2.cell (p := ⟨b, o + xi * 3 + 1, none⟩) (World.block_lt_of_cell? _ _ h1)).trans h1
      have d2 := (hB2.cell (p := ⟨b, o + xi * 3 + 2, none⟩) (World.block_lt_of_cell? _ _ h2)).trans h2
      clear hxt h0 h1 h2
      obtain ⟨fn, tmps, assign, body, hy, hR⟩ := hYx
      have i0 : (0 : Int) ≤ (xi : Int) := by omega
      have i1 : (xi : Int) < (len : Int) := by omega
      gi_wp2
      refine hR.mono ?_
      rintro e W3 (⟨rfl, hJ3, hk3⟩ | ⟨rfl, hJx3⟩)
      · have HJ3 := Lib.hid hJ3
        clear hJ3
        gi_wp2
        go_roundw
        case rel => exact ⟨xi, (xi : Int) - 1, by omega, by omega, by first | rfl | go_num, HJ3.out, hnx.trans hk3⟩
        case measure => simp [intOf]
      · gi_wp2
        refine bodyPost_ret (results_none rfl _ _ _) rfl ?_
        exact ⟨⟨_, rfl⟩, .inr ⟨_, HPRE.out, hJx3⟩⟩
set_option maxHeartbeats 1000000 in
theorem BackI_in (F : Fence) (n : Nat) (hf : F.fn 277) (hro : F.round = none) (A : Option Addr) (len cap : Nat) (w : World) :
    CallsIn F n Tryz.prog 277 #[.slice A len cap] w fun e w' => e = .returned (.func (.func 313) #[] #[.pointer (some ⟨w.heap.size, 0, none⟩)]) ∧ w' = w.alloc (.cells #[.slice A len cap] 160) := by
  refine callsIn_of_wp Tryz.func277 rfl hf ?_ hro
  simp only [Tryz.ntmps277, List.size_toArray, List.length_cons, List.length_nil, Nat.reduceAdd, Nat.reduceSub, Array.replicate_succ, Array.replicate_zero, List.push_toArray, List.append_toArray, List.nil_append, List.cons_append]
  gi_wp2
  go_ret
  exact ⟨rfl, rfl⟩
theorem backI_stops (F : Fence) (n : Nat) (hf : F.fn 313) (hro : F.round = none) (hn : 1 ≤ n) (Bs n₀ : Nat) (A : Option Addr) (len cap : Nat) (p : Nat → Prop) (w0 : World) (xs : List Img) (full : List (IB A p w0 xs)) (hfl : full.length = len)
    (hfi : ∀ (k : Nat) (y : IB A p w0 xs), full[k]? = some y → y.1.1 + k + 1 = len) (hlen : len ≤ 100000) (hn₀ : w0.heap.size ≤ n₀) (hBn : Bs < n₀) (w : World) (hnw : n₀ ≤ w.heap.size) (hw : Below w0.heap.size w0 w) (hc : w.cell? ⟨Bs, 0, none⟩ = some (.slice A len cap)) :
    SeqStopsK F n Tryz.prog 313 #[.pointer (some ⟨Bs, 0, none⟩)] (fun x : IB A p w0 xs => #[Value.int .i64 ((x.1.1 : Nat) : Int), x.1.2]) (Below n₀) (fun ys => ys = full) (fun pre => pre <+: full) len w := fun l J Jx W hW _ _ hY h0 =>
  backI_in F n hf hro hn l Bs n₀ A len cap p w0 xs full hfl hfi hlen hn₀ hBn J Jx hY W (hw.trans (hW.mono (Nat.le_trans hn₀ hnw))) ((hW.cell (p := ⟨Bs, 0, none⟩) (by show Bs < _; omega)).trans hc) h0

/-- block g is just the cells cs -/
def Blk (w : World) (g : Nat) (t : TypeId) (cs : Array Value) : Prop := w.heap[g]? = some (.cells cs t (0, 0))
theorem Blk.lt {w : World} {g : Nat} {t : TypeId} {cs : Array Value} (h : Blk w g t cs) : g < w.heap.size := (Array.getElem?_eq_some_iff.1 h).1
theorem Blk.cell {w : World} {g : Nat} {t : TypeId} {cs : Array Value} (h : Blk w g t cs) (i : Nat) : w.cell? ⟨g, i, none⟩ = cs[i]? := cell_of_row w g i cs t (0, 0) h
theorem Blk.new (w : World) (t : TypeId) (cs : Array Value) : Blk (w.alloc (.cells cs t)) w.heap.size t cs := heap_alloc_new w _
theorem Blk.alloc {w : World} {g : Nat} {t : TypeId} {cs : Array Value} (h : Blk w g t cs) (o : Obj) : Blk (w.alloc o) g t cs := (Below.heap_alloc w o g h.lt).trans h
theorem Blk.kept {W W' : World} {row : Option Nat} {B : Nat} {t : TypeId} {cs : Array Value} (h : Blk W B t cs) (hg : W.grownBy W' row) (hne : some B ≠ row) : Blk W' B t cs := (hg.block B h.lt hne).trans h
theorem Blk.far {w : World} {g : Nat} {t : TypeId} {cs : Array Value} (h : Blk w g t cs) {p : Addr} (hp : g ≠ p.block) (u : Value) : Blk (w.setCell p u) g t cs := (Below.heap_setCell w p u g hp).trans h
theorem blk_own {β : Type} (B : Nat) (t : TypeId) (f : β → Array Value) : Own (fun s W => Blk W B t (f s)) := fun s X Y row hs hg hrow =>
  hs.kept hg (fun e' => by obtain ⟨o, ho, hc⟩ := hrow B e'.symm; rw [show X.heap[B]? = _ from hs] at ho; cases ho; cases hc)
theorem Boxed.below_ {B : Nat} {W W' : World} {g : Nat} {t : TypeId} {v : Value} (h : Boxed W g t v) (hb : Below B W W') (hg : g < B) : Boxed W' g t v := (hb.block g hg).trans h
theorem Blk.below_ {B : Nat} {W W' : World} {g : Nat} {t : TypeId} {cs : Array Value} (h : Blk W g t cs) (hb : Below B W W') (hg : g < B) : Blk W' g t cs := (hb.block g hg).trans h
/-- no image of these is the block's -/
def NoneT {A : Option Addr} {p : Nat → Prop} {w : World} {xs : List Txn} (z q : Int) (pre : List (TB A p w xs)) : Prop := ∀ y ∈ pre, ∀ t, xs[y.1.1]? = some t → ∀ x ∈ t.images, hit z q x = false
def NoneI {A : Option Addr} {p : Nat → Prop} {w : World} {xs : List Img} (z q : Int) (pre : List (IB A p w xs)) : Prop := ∀ y ∈ pre, ∀ t, xs[y.1.1]? = some t → hit z q t = false
theorem NoneI.all {A : Option Addr} {p : Nat → Prop} {w : World} {xs : List Img} {z q : Int} {full : List (IB A p w xs)} {n : Nat} (hl : full.length = n) (hx : xs.length = n) (hi : ∀ (k : Nat) (y : IB A p w xs), full[k]? = some y → y.1.1 + k + 1 = n) (h : NoneI z q full) : ∀ x ∈ xs, hit z q x = false := by
  intro x hxm
  obtain ⟨j, hj⟩ := List.getElem?_of_mem hxm
  have hjn : j < n := by have := (List.getElem?_eq_some_iff.1 hj).1; omega
  obtain ⟨y, hy⟩ : ∃ y, full[n - 1 - j]? = some y := ⟨_, List.getElem?_eq_getElem (by omega)⟩
  have := hi _ _ hy
  have e : y.1.1 = j := by omega
  exact h y (List.mem_of_getElem? hy) x (by rw [e]; exact hj)
theorem NoneT.all {A : Option Addr} {p : Nat → Prop} {w : World} {xs : List Txn} {z q : Int} {full : List (TB A p w xs)} {n : Nat} (hl : full.length = n) (hx : xs.length = n) (hi : ∀ (k : Nat) (y : TB A p w xs), full[k]? = some y → y.1.1 + k + 1 = n) (h : NoneT z q full) : ∀ t ∈ xs, ∀ x ∈ t.images, hit z q x = false := by
  intro x hxm
  obtain ⟨j, hj⟩ := List.getElem?_of_mem hxm
  have hjn : j < n := by have := (List.getElem?_eq_some_iff.1 hj).1; omega
  obtain ⟨y, hy⟩ : ∃ y, full[n - 1 - j]? = some y := ⟨_, List.getElem?_eq_getElem (by omega)⟩
  have := hi _ _ hy
  have e : y.1.1 = j := by omega
  exact h y (List.mem_of_getElem? hy) x (by rw [e]; exact hj)
theorem NoneI.after {A : Option Addr} {p : Nat → Prop} {w : World} {xs : List Img} {z q : Int} {full pre : List (IB A p w xs)} {y : IB A p w xs} {n : Nat} (hl : full.length = n) (hx : xs.length = n) (hi : ∀ (k : Nat) (y : IB A p w xs), full[k]? = some y → y.1.1 + k + 1 = n) (hp : pre ++ [y] <+: full) (h : NoneI z q pre) : ∀ j x, y.1.1 < j → xs[j]? = some x → hit z q x = false := by
  intro j x hlt hj
  have hjn : j < n := by have := (List.getElem?_eq_some_iff.1 hj).1; omega
  obtain ⟨tl, htl⟩ := hp
  have hy : full[pre.length]? = some y := by rw [← htl]; simp
  have h1 := hi _ _ hy
  have h3 : full.length = pre.length + (tl.length + 1) := by rw [← htl]; simp
  have hk : n - 1 - j < pre.length := by omega
  obtain ⟨u, hu⟩ : ∃ u, pre[n - 1 - j]? = some u := ⟨_, List.getElem?_eq_getElem hk⟩
  have hu2 : full[n - 1 - j]? = some u := by rw [← htl, List.append_assoc, List.getElem?_append_left hk, hu]
  have := hi _ _ hu2
  have e : u.1.1 = j := by omega
  exact h u (List.mem_of_getElem? hu) x (by rw [e]; exact hj)
theorem NoneT.after {A : Option Addr} {p : Nat → Prop} {w : World} {xs : List Txn} {z q : Int} {full pre : List (TB A p w xs)} {y : TB A p w xs} {n : Nat} (hl : full.length = n) (hx : xs.length = n) (hi : ∀ (k : Nat) (y : TB A p w xs), full[k]? = some y → y.1.1 + k + 1 = n) (hp : pre ++ [y] <+: full) (h : NoneT z q pre) : ∀ j t, y.1.1 < j → xs[j]? = some t → ∀ x ∈ t.images, hit z q x = false := by
  intro j x hlt hj
  have hjn : j < n := by have := (List.getElem?_eq_some_iff.1 hj).1; omega
  obtain ⟨tl, htl⟩ := hp
  have hy : full[pre.length]? = some y := by rw [← htl]; simp
  have h1 := hi _ _ hy
  have h3 : full.length = pre.length + (tl.length + 1) := by rw [← htl]; simp
  have hk : n - 1 - j < pre.length := by omega
  obtain ⟨u, hu⟩ : ∃ u, pre[n - 1 - j]? = some u := ⟨_, List.getElem?_eq_getElem hk⟩
  have hu2 : full[n - 1 - j]? = some u := by rw [← htl, List.append_assoc, List.getElem?_append_left hk, hu]
  have := hi _ _ hu2
  have e : u.1.1 = j := by omega
  exact h u (List.mem_of_getElem? hu) x (by rw [e]; exact hj)
/-- what find leaves -/
def Found (xs : List Txn) (z q : Int) (W : World) (e : Ending) (w' : World) : Prop :=
  ((∃ (a i : Nat) (t : Txn) (x : Img), e = .returned (.tuple #[.int .i64 (a : Int), .int .i64 (i : Int), .bool true]) ∧ xs[a]? = some t ∧ t.images[i]? = some x ∧ lastT z q xs = some (t, x)) ∨
    (e = .returned (.tuple #[.int .i64 0, .int .i64 0, .bool false]) ∧ lastT z q xs = none)) ∧ Below W.heap.size W w'
/-- the two boxes of what is looked for, and the cells of the results -/
def Cs (s0 s1 s2 s3 s4 : Nat) (z q : Int) (a i : Int) (b : Bool) (W : World) : Prop := ((((Boxed W s0 3 (.int .i64 z) ∧ Boxed W s1 3 (.int .i64 q)) ∧ Boxed W s2 3 (.int .i64 a)) ∧ Boxed W s3 3 (.int .i64 i)) ∧ Boxed W s4 4 (.bool b))
theorem Cs.own {β : Type} (B s0 s1 s2 s3 s4 : Nat) (z q a i : Int) (b : Bool) : OwnFrom B (fun (_ : β) W => Cs s0 s1 s2 s3 s4 z q a i b W) :=
  OwnFrom.and (OwnFrom.and (OwnFrom.and (OwnFrom.and (Own.from (boxed_own _ _ _) _) (Own.from (boxed_own _ _ _) _)) (Own.from (boxed_own _ _ _) _)) (Own.from (boxed_own _ _ _) _)) (Own.from (boxed_own _ _ _) _)
theorem Cs.below {B s0 s1 s2 s3 s4 : Nat} {z q a i : Int} {b : Bool} {W W' : World} (h : Cs s0 s1 s2 s3 s4 z q a i b W) (hb : Below B W W') (hs : s0 < B ∧ s1 < B ∧ s2 < B ∧ s3 < B ∧ s4 < B) : Cs s0 s1 s2 s3 s4 z q a i b W' :=
  ⟨⟨⟨⟨Boxed.below_ h.1.1.1.1 hb hs.1, Boxed.below_ h.1.1.1.2 hb hs.2.1⟩, Boxed.below_ h.1.1.2 hb hs.2.2.1⟩, Boxed.below_ h.1.2 hb hs.2.2.2.1⟩, Boxed.below_ h.2 hb hs.2.2.2.2⟩
theorem Cs.set3 {s0 s1 s2 s3 s4 : Nat} {z q a i : Int} {b : Bool} {W : World} (h : Cs s0 s1 s2 s3 s4 z q a i b W) (d : s0 < s1 ∧ s1 < s2 ∧ s2 < s3 ∧ s3 < s4) (a' i' : Int) (b' : Bool) :
    Cs s0 s1 s2 s3 s4 z q a' i' b' (((W.setCell ⟨s2, 0, none⟩ (.int .i64 a')).setCell ⟨s3, 0, none⟩ (.int .i64 i')).setCell ⟨s4, 0, none⟩ (.bool b')) := by
  obtain ⟨⟨⟨⟨h0, h1⟩, h2⟩, h3⟩, h4⟩ := h
  refine ⟨⟨⟨⟨((h0.other (by omega) _).other (by omega) _).other (by omega) _, ((h1.other (by omega) _).other (by omega) _).other (by omega) _⟩, ((h2.set _).other (by omega) _).other (by omega) _⟩, ((h3.other (by omega) _).set _).other (by omega) _⟩, ((h4.other (by omega) _).other (by omega) _).set _⟩
theorem keepsFrom_below {B : Nat} {W W1 W' : World} (h1 : Below W.heap.size W W1) (h : Below W1.heap.size W1 W') : KeepsFrom B W W' :=
  ⟨Nat.le_trans h1.size h.size, fun k o _ hk _ => by
    have hlt := (Array.getElem?_eq_some_iff.1 hk).1
    exact ((h.block k (Nat.lt_of_lt_of_le hlt h1.size)).trans (h1.block k hlt)).trans hk⟩
/-- the outer loop's hit -/
def HitT {A : Option Addr} {p : Nat → Prop} {w : World} {xs : List Txn} (z q : Int) (pre : List (TB A p w xs)) (a i : Nat) : Prop :=
  ∃ (pre' : List (TB A p w xs)) (y : TB A p w xs) (t : Txn) (x : Img), pre = pre' ++ [y] ∧ NoneT z q pre' ∧ a = y.1.1 ∧ xs[a]? = some t ∧ t.images[i]? = some x ∧ lastI z q t.images = some x
def HitI {A : Option Addr} {p : Nat → Prop} {w : World} {xs : List Img} (z q : Int) (pre : List (IB A p w xs)) (i : Nat) : Prop :=
  ∃ (pre' : List (IB A p w xs)) (y : IB A p w xs) (x : Img), pre = pre' ++ [y] ∧ NoneI z q pre' ∧ i = y.1.1 ∧ xs[i]? = some x ∧ hit z q x = true
set_option maxRecDepth 100000 in
set_option maxHeartbeats 4000000 in
theorem find_in (F : Fence) (n' : Nat) (h27 : F.fn 219) (h38 : F.fn 276) (h39 : F.fn 277) (h47 : F.fn 312) (h48 : F.fn 313) (hro : F.round = none) (hn' : 6 ≤ n') (A : Option Addr) (n c : Nat) (xs : List Txn) (z q : Int) (p : Nat → Prop) (w : World)
    (h : Slc 4 txnE p w A n xs) (hn : n ≤ 100000) (hx : ∀ x ∈ xs, x.images.length ≤ 100000) :
    CallsIn F n' Tryz.prog 219 #[.slice A n c, .int .i64 z, .int .i64 q] w (Found xs z q w) := by
  have h1 : 1 ≤ n' := by omega
  obtain ⟨full, hfl, hfi⟩ := fullT h n (Nat.le_refl _)
  refine callsIn_of_wp_marks Tryz.func219 rfl h27 ?_ hro
  simp only [Tryz.ntmps219, List.size_toArray, List.length_cons, List.length_nil, Nat.reduceAdd, Nat.reduceSub, Array.replicate_succ, Array.replicate_zero, List.push_toArray, List.append_toArray, List.nil_append, List.cons_append]
  have HFL := Lib.hid hfl
  have HFI := Lib.hid hfi
  have HXL := Lib.hid h.1
  have HX := Lib.hid hx
  clear hfl hfi hx
  gi_wp2_with (gi_at_call 276; refine (BackT_in F (n' - 1) h38 hro _ _ _ _).mono ?_; rintro e w' ⟨rfl, rfl⟩)
  have hB0 : Below w.heap.size w ((((((w.alloc (.cells #[.int .i64 z] 3)).alloc (.cells #[.int .i64 q] 3)).alloc (.cells #[.int .i64 0] 3)).alloc (.cells #[.int .i64 0] 3)).alloc (.cells #[.bool false] 4)).alloc (.cells #[.slice A n c] 61)) :=
    ((((((Below.refl _ w).alloc (Nat.le_refl _) _).alloc (by simp) _).alloc (by simp; omega) _).alloc (by simp; omega) _).alloc (by simp; omega) _).alloc (by simp; omega) _
  have hC0 : Cs w.heap.size (w.heap.size + 1) (w.heap.size + 1 + 1) (w.heap.size + 1 + 1 + 1) (w.heap.size + 1 + 1 + 1 + 1) z q 0 0 false ((((((w.alloc (.cells #[.int .i64 z] 3)).alloc (.cells #[.int .i64 q] 3)).alloc (.cells #[.int .i64 0] 3)).alloc (.cells #[.int .i64 0] 3)).alloc (.cells #[.bool false] 4)).alloc (.cells #[.slice A n c] 61)) := by
    refine ⟨⟨⟨⟨(((((Boxed.new w 3 (.int .i64 z)).alloc _).alloc _).alloc _).alloc _).alloc _, ?_⟩, ?_⟩, ?_⟩, ?_⟩
    · have := (((((Boxed.new (w.alloc (.cells #[.int .i64 z] 3)) 3 (.int .i64 q)).alloc (.cells #[.int .i64 0] 3)).alloc (.cells #[.int .i64 0] 3)).alloc (.cells #[.bool false] 4)).alloc (.cells #[.slice A n c] 61))
      simpa only [World.size_alloc] using this
    · have := ((((Boxed.new ((w.alloc (.cells #[.int .i64 z] 3)).alloc (.cells #[.int .i64 q] 3)) 3 (.int .i64 0)).alloc (.cells #[.int .i64 0] 3)).alloc (.cells #[.bool false] 4)).alloc (.cells #[.slice A n c] 61))
      simpa only [World.size_alloc] using this
    · have := (((Boxed.new (((w.alloc (.cells #[.int .i64 z] 3)).alloc (.cells #[.int .i64 q] 3)).alloc (.cells #[.int .i64 0] 3)) 3 (.int .i64 0)).alloc (.cells #[.bool false] 4)).alloc (.cells #[.slice A n c] 61))
      simpa only [World.size_alloc] using this
    · have := ((Boxed.new ((((w.alloc (.cells #[.int .i64 z] 3)).alloc (.cells #[.int .i64 q] 3)).alloc (.cells #[.int .i64 0] 3)).alloc (.cells #[.int .i64 0] 3)) 4 (.bool false)).alloc (.cells #[.slice A n c] 61))
      simpa only [World.size_alloc] using this
  have bS := Boxed.new (((((w.alloc (.cells #[.int .i64 z] 3)).alloc (.cells #[.int .i64 q] 3)).alloc (.cells #[.int .i64 0] 3)).alloc (.cells #[.int .i64 0] 3)).alloc (.cells #[.bool false] 4)) 61 (.slice A n c)
  simp only [World.size_alloc] at bS
  have hsz : (((((((w.alloc (.cells #[.int .i64 z] 3)).alloc (.cells #[.int .i64 q] 3)).alloc (.cells #[.int .i64 0] 3)).alloc (.cells #[.int .i64 0] 3)).alloc (.cells #[.bool false] 4)).alloc (.cells #[.slice A n c] 61)).heap.size) = w.heap.size + 6 := by simp
  obtain ⟨W0, hW0⟩ : ∃ W0, ((((((w.alloc (.cells #[.int .i64 z] 3)).alloc (.cells #[.int .i64 q] 3)).alloc (.cells #[.int .i64 0] 3)).alloc (.cells #[.int .i64 0] 3)).alloc (.cells #[.bool false] 4)).alloc (.cells #[.slice A n c] 61)) = W0 := ⟨_, rfl⟩
  rw [hW0] at hB0 hC0 bS hsz ⊢
  clear hW0
  obtain ⟨s5, e5⟩ : ∃ k, w.heap.size + 1 + 1 + 1 + 1 + 1 = k := ⟨_, rfl⟩
  obtain ⟨s4, e4⟩ : ∃ k, w.heap.size + 1 + 1 + 1 + 1 = k := ⟨_, rfl⟩
  obtain ⟨s3, e3⟩ : ∃ k, w.heap.size + 1 + 1 + 1 = k := ⟨_, rfl⟩
  obtain ⟨s2, e2⟩ : ∃ k, w.heap.size + 1 + 1 = k := ⟨_, rfl⟩
  obtain ⟨s1, e1⟩ : ∃ k, w.heap.size + 1 = k := ⟨_, rfl⟩
  obtain ⟨s0, e0⟩ : ∃ k, w.heap.size = k := ⟨_, rfl⟩
  have ds : s0 < s1 ∧ s1 < s2 ∧ s2 < s3 ∧ s3 < s4 := by omega
  have dsz : s4 < s5 ∧ s5 < W0.heap.size ∧ w.heap.size ≤ s0 := by omega
  rw [e5] at bS ⊢
  rw [e4] at hC0 ⊢
  rw [e3] at hC0 ⊢
  rw [e2] at hC0 ⊢
  rw [e1] at hC0 ⊢
  have hC1 : Cs s0 s1 s2 s3 s4 z q 0 0 false W0 := by rw [← e0]; exact hC0
  have HB0 := Lib.hid hB0
  clear hC0 hB0 hsz
  rw [e0]
  clear e0 e1 e2 e3 e4 e5
  refine wpIn_rangeFunc_ownH hro h1 (gf := 312) (lb := #[.pointer (some ⟨s5, 0, none⟩)]) rfl h47 (enters_of Tryz.func312 (by kernel_rfl) rfl)
    (backT_stops F (n' - 1) h47 hro (by omega) s5 W0.heap.size A n c p w xs full HFL.out HFI.out hn HB0.out.size dsz.2.1 W0 (Nat.le_refl _) HB0.out bS.cell) belowK_t (belowK_b (Nat.le_refl _)) (Below.refl _ _) (fun _ => rfl)
    (fun pre W => NoneT z q pre ∧ Below W0.heap.size W0 W)
    (fun cd pre W => ∃ a i, (cd = .ret ∧ HitT z q pre a i) ∧ Cs s0 s1 s2 s3 s4 z q (a : Nat) (i : Nat) true W ∧ Below w.heap.size w W)
    (OwnFrom.and (ownFrom_pure _ _) (ownFrom_below (Nat.le_refl _) (Nat.le_refl _)))
    (fun cd pre X Y row hs hg hr => by
      obtain ⟨a, i, h1, h2, h3⟩ := hs
      exact ⟨a, i, h1, Cs.own W0.heap.size s0 s1 s2 s3 s4 z q a i true () X Y row h2 hg hr, ownFrom_below (β := Unit) (n₀ := w.heap.size) (Nat.le_refl _) (by omega) () X Y row h3 hg hr⟩)
    ⟨fun y hy => by simp at hy, Below.refl _ _⟩
    (fun x a' W => ∃ Bx By, W0.heap.size ≤ Bx ∧ W0.heap.size ≤ By ∧ Boxed W Bx 3 (.int .i64 ((x.1.1 : Nat) : Int)) ∧ (∃ cs, x.1.2 = .agg cs ∧ Blk W By 162 cs) ∧ a' = { tmps := #[.slice A n c, .int .i64 z, .int .i64 q, undef, .pointer (some ⟨s0, 0, none⟩), .pointer (some ⟨s1, 0, none⟩), .pointer (some ⟨s2, 0, none⟩), .pointer (some ⟨s3, 0, none⟩), .pointer (some ⟨s4, 0, none⟩), .pointer (some ⟨Bx, 0, none⟩), .pointer (some ⟨By, 0, none⟩), undef, undef, .slice A n c, .func (.func 312) #[] #[.pointer (some ⟨s5, 0, none⟩)], .int .i64 ((x.1.1 : Nat) : Int), x.1.2, undef, undef, undef, undef, undef, undef, undef, undef, undef, undef, undef, undef, undef, undef, undef, undef, undef], defers := [] })
    (fun x a' _ X Y row hs hg hr => by
      obtain ⟨Bx, By, g1, g2, g3, ⟨cs, g4, g5⟩, g6⟩ := hs
      exact ⟨Bx, By, g1, g2, boxed_own Bx 3 (fun (_ : Unit) => Value.int .i64 ((x.1.1 : Nat) : Int)) () X Y row g3 hg (fun r e => (hr r e).2), ⟨cs, g4, blk_own By 162 (fun (_ : Unit) => cs) () X Y row g5 hg (fun r e => (hr r e).2)⟩, g6⟩)
    ?assign ?body ?done ?stop
  case assign =>
    rintro l pre x W K ⟨hp, hB1⟩ hK
    obtain ⟨b, o, t, A2, n2, c2, hA, g0, g1, g2, g3, hv, hxt, k1, k2, k3⟩ := x.2
    dsimp only
    rw [hv]
    have HV := Lib.hid hv
    clear hv hA g0 g1 g2 g3 hxt
    gi_wp2
    refine hK _ _ (((KeepsOthers.alloc _ _).trans (KeepsOthers.alloc _ _)).from _) (((Below.refl _ W).alloc hB1.size _).alloc (by have := hB1.size; simp; omega) _) ⟨hp, (hB1.alloc hB1.size _).alloc (by have := hB1.size; simp; omega) _⟩
      ⟨W.heap.size, W.heap.size + 1, hB1.size, by have := hB1.size; omega, (Boxed.new W 3 _).alloc _, ⟨_, HV.out, ?_⟩, by rw [HV.out]⟩
    have := Blk.new (W.alloc (.cells #[.int .i64 ((x.1.1 : Nat) : Int)] 3)) 162 #[.int .i64 t.seq, .int .i64 t.pos, .int .i64 t.n, .slice A2 n2 c2]
    rwa [World.size_alloc] at this
  case body =>
    rintro l pre x a' W hl ⟨r, hr⟩ ⟨hp, hB1⟩ ⟨Bx, By, hBx, hBy, bX, ⟨cs, hcs, bY⟩, rfl⟩ hlt
    obtain ⟨b, o, t, A2, n2, c2, hA, g0, g1, g2, g3, hv, hxt, k1, k2, k3⟩ := x.2
    rw [hv] at hcs
    injection hcs with hcs
    subst hcs
    have cY : W.cell? ⟨By, 3, none⟩ = some (.slice A2 n2 c2) := bY.cell 3
    have h1' : 1 ≤ n' - 1 - 1 := by omega
    have hi2 : t.images.length ≤ 100000 := HX.out t (List.mem_of_getElem? hxt)
    obtain ⟨fulI, hfl2, hfi2⟩ := fullI k3 n2 (Nat.le_refl _)
    have hn2 : n2 ≤ 100000 := by rw [← k3.1]; exact hi2
    have HFL2 := Lib.hid hfl2
    have HFI2 := Lib.hid hfi2
    have HK3 := Lib.hid k3
    have HXT := Lib.hid hxt
    clear hfl2 hfi2 k3 hxt hv hA g0 g1 g2 g3
    gi_wp2_with (gi_at_call 277; refine (CallsIn.inRound l (BackI_in F (n' - 1 - 1 - 1) h39 hro _ _ _ _)).mono ?_; rintro e w' ⟨rfl, rfl⟩)
    have bN := Boxed.new W 160 (.slice A2 n2 c2)
    have hWW : Below W.heap.size W (W.alloc (.cells #[.slice A2 n2 c2] 160)) := (Below.refl _ _).alloc (Nat.le_refl _) _
    have hs1 : (W.alloc (.cells #[.slice A2 n2 c2] 160)).heap.size = W.heap.size + 1 := by simp
    have hr' : (W.alloc (.cells #[.slice A2 n2 c2] 160)).heap[l]? = some (.loop r) := (Below.heap_alloc W _ l (Array.getElem?_eq_some_iff.1 hr).1).trans hr
    have bX1 := bX.alloc (.cells #[.slice A2 n2 c2] 160)
    obtain ⟨W1, hW1⟩ : ∃ W1, W.alloc (.cells #[.slice A2 n2 c2] 160) = W1 := ⟨_, rfl⟩
    rw [hW1] at bN hWW hs1 hr' bX1 ⊢
    clear hW1
    have hsB := hB1.size
    have hBw1 : Below w.heap.size w W1 := (HB0.out.trans (hB1.mono HB0.out.size)).trans (hWW.mono (Nat.le_trans HB0.out.size hB1.size))
    refine wpIn_rangeFunc_ownN (l₀ := l) (r₀ := r) rfl hr' h1' (gf := 313) (lb := #[.pointer (some ⟨W.heap.size, 0, none⟩)]) rfl h48 (enters_of Tryz.func313 (by kernel_rfl) rfl)
      ((backI_stops F (n' - 1 - 1 - 1) h48 hro (by omega) W.heap.size W1.heap.size A2 n2 c2 p w t.images fulI HFL2.out HFI2.out hn2 hBw1.size (by omega) W1 (Nat.le_refl _) hBw1 bN.cell).inRound l) belowK_t (belowK_b (Nat.le_refl _)) (Below.refl _ _) (fun _ => rfl)
      (fun pre' W' => NoneI z q pre' ∧ Below W1.heap.size W1 W')
      (fun cd pre' W' => ∃ i, (cd = .ret ∧ HitI z q pre' i) ∧ Cs s0 s1 s2 s3 s4 z q (x.1.1 : Nat) (i : Nat) true W' ∧ (Below w.heap.size w W' ∧ KeepsFrom W0.heap.size W W'))
      (OwnFrom.and (ownFrom_pure _ _) (ownFrom_below (Nat.le_refl _) (Nat.le_refl _)))
      (fun cd pre' X Y row hs hg hr => by
        obtain ⟨i, h1, h2, h3, h4⟩ := hs
        exact ⟨i, h1, Cs.own W1.heap.size s0 s1 s2 s3 s4 z q x.1.1 i true () X Y row h2 hg hr, ownFrom_below (β := Unit) (n₀ := w.heap.size) (Nat.le_refl _) hBw1.size () X Y row h3 hg hr, ownFrom_keepsFrom (β := Unit) (B := W0.heap.size) (w₀ := W) (B' := W1.heap.size) (by omega) () X Y row h4 hg hr⟩)
      ⟨fun y hy => by simp at hy, Below.refl _ _⟩
      (fun y a'' W' => ∃ Bz, W1.heap.size ≤ Bz ∧ (∃ cs, y.1.2 = .agg cs ∧ Blk W' Bz 139 cs) ∧ a'' = { tmps := #[.slice A n c, .int .i64 z, .int .i64 q, undef, .pointer (some ⟨s0, 0, none⟩), .pointer (some ⟨s1, 0, none⟩), .pointer (some ⟨s2, 0, none⟩), .pointer (some ⟨s3, 0, none⟩), .pointer (some ⟨s4, 0, none⟩), .pointer (some ⟨Bx, 0, none⟩), .pointer (some ⟨By, 0, none⟩), .int .i64 ((y.1.1 : Nat) : Int), .pointer (some ⟨Bz, 0, none⟩), .slice A n c, .func (.func 312) #[] #[.pointer (some ⟨s5, 0, none⟩)], .int .i64 ((x.1.1 : Nat) : Int), x.1.2, .pointer (some ⟨By, 3, none⟩), .slice A2 n2 c2, .func (.func 313) #[] #[.pointer (some ⟨W.heap.size, 0, none⟩)], .int .i64 ((y.1.1 : Nat) : Int), y.1.2, undef, undef, undef, undef, undef, undef, undef, undef, undef, undef, undef, undef], defers := [] })
      (fun y a'' _ X Y row hs hg hr => by
        obtain ⟨Bz, g1, ⟨cs, g4, g5⟩, g6⟩ := hs
        exact ⟨Bz, g1, ⟨cs, g4, blk_own Bz 139 (fun (_ : Unit) => cs) () X Y row g5 hg (fun r e => (hr r e).2)⟩, g6⟩)
      ?assign2 ?body2 ?done2 ?stop2
    case assign2 =>
      rintro l2 pre' y W' K ⟨hq, hBW⟩ hK
      obtain ⟨b2, o2, u, A3, n3, c3, hA3, g0, g1, g2, hv, hyt⟩ := y.2
      dsimp only
      rw [hv]
      have HV := Lib.hid hv
      clear hv hA3 g0 g1 g2 hyt
      gi_wp2
      exact hK _ _ ((KeepsOthers.alloc _ _).from _) ((Below.refl _ W').alloc hBW.size _) ⟨hq, hBW.alloc hBW.size _⟩ ⟨W'.heap.size, hBW.size, ⟨_, HV.out, Blk.new W' 139 _⟩, by rw [HV.out]⟩
    case body2 =>
      rintro l2 pre' y a'' W' _ _ ⟨hq, hBW⟩ ⟨Bz, hBz, ⟨cs, hcs, bZ⟩, rfl⟩ _
      obtain ⟨b2, o2, u, A3, n3, c3, hA3, g0, g1, g2, hv, hyt⟩ := y.2
      rw [hv] at hcs
      injection hcs with hcs
      subst hcs
      have z0 : W'.cell? ⟨Bz, 0, none⟩ = some (.int .i64 u.zone) := bZ.cell 0
      have z1 : W'.cell? ⟨Bz, 1, none⟩ = some (.int .i64 u.what) := bZ.cell 1
      have hC : Cs s0 s1 s2 s3 s4 z q 0 0 false W' := ((hC1.below hB1 (by omega)).below hWW (by omega)).below hBW (by omega)
      have HC := Lib.hid hC
      have x0 := (Boxed.below_ bX1 hBW bX1.lt).cell
      have v0 := hC.1.1.1.1.cell
      have v1 := hC.1.1.1.2.cell
      have v2 := hC.1.1.2.cell
      have v3 := hC.1.2.cell
      have v4 := hC.2.cell
      have f2 := hC.1.1.2.frozen
      have f3 := hC.1.2.frozen
      have f4 := hC.2.frozen
      have HQ := Lib.hid hq
      have HYT := Lib.hid hyt
      have HBW := Lib.hid hBW
      have HHIT : Hid (hit z q u = ((u.zone == z) && (u.what == q))) := rfl
      clear hC hq hyt hBW hv hA3 g0 g1 g2
      by_cases e1 : u.zone = z
      · by_cases e2 : u.what = q
        · have q1 : (u.zone == z) = true := beq_iff_eq.2 e1
          have q2 : (u.what == q) = true := beq_iff_eq.2 e2
          have hh : Hid (hit z q u = true) := by have := HHIT.out; rw [q1, q2] at this; exact this
          clear e1 e2
          gi_wp2
          exact ⟨(((KeepsOthers.setCell _ _ _).trans (KeepsOthers.setCell _ _ _)).trans (KeepsOthers.setCell _ _ _)).from _, y.1.1, ⟨rfl, pre', y, u, rfl, HQ.out, rfl, HYT.out, hh.out⟩, HC.out.set3 ds _ _ _,
            (((hBw1.trans (HBW.out.mono hBw1.size)).setCell (p := ⟨s2, 0, none⟩) (show w.heap.size ≤ s2 by omega) _).setCell (p := ⟨s3, 0, none⟩) (show w.heap.size ≤ s3 by omega) _).setCell (p := ⟨s4, 0, none⟩) (show w.heap.size ≤ s4 by omega) _,
            (keepsFrom_below hWW HBW.out).trans ((((KeepsOthers.setCell _ _ _).trans (KeepsOthers.setCell _ _ _)).trans (KeepsOthers.setCell _ _ _)).from _)⟩
        · have q1 : (u.zone == z) = true := beq_iff_eq.2 e1
          have q2 : (u.what == q) = false := beq_eq_false_iff_ne.2 e2
          have hh : Hid (hit z q u = false) := by have := HHIT.out; rw [q1, q2] at this; exact this
          clear e1 e2
          gi_wp2
          exact ⟨KeepsFrom.refl _ _, Below.refl _ _, fun v hv t' ht' => (List.mem_append.1 hv).elim (fun h5 => HQ.out v h5 t' ht') (fun h5 => by
            rw [List.mem_singleton] at h5
            subst h5
            rw [HYT.out] at ht'
            injection ht' with ht'
            rw [← ht']; exact hh.out), HBW.out⟩
      · have q1 : (u.zone == z) = false := beq_eq_false_iff_ne.2 e1
        have hh : Hid (hit z q u = false) := by have := HHIT.out; rw [q1] at this; exact this
        clear e1
        gi_wp2
        exact ⟨KeepsFrom.refl _ _, Below.refl _ _, fun v hv t' ht' => (List.mem_append.1 hv).elim (fun h5 => HQ.out v h5 t' ht') (fun h5 => by
          rw [List.mem_singleton] at h5
          subst h5
          rw [HYT.out] at ht'
          injection ht' with ht'
          rw [← ht']; exact hh.out), HBW.out⟩
    case done2 =>
      rintro ys W' rfl ⟨hq, hBW⟩
      have HALL := Lib.hid (NoneI.all HFL2.out HK3.out.1 HFI2.out hq)
      have HBW := Lib.hid hBW
      clear hq hBW
      gi_wp2
      exact ⟨keepsFrom_below hWW HBW.out, (hWW.mono hsB).trans (HBW.out.mono (by omega)), fun v hv t' ht' => (List.mem_append.1 hv).elim (fun h5 => hp v h5 t' ht') (fun h5 => by
        rw [List.mem_singleton] at h5
        subst h5
        rw [HXT.out] at ht'
        injection ht' with ht'
        subst ht'
        exact HALL.out), hB1.trans ((hWW.mono hsB).trans (HBW.out.mono (by omega)))⟩
    case stop2 =>
      rintro cd pre' W' hpre ⟨i, ⟨rfl, pre2, y, u, hpe, hq2, rfl, hyt, hh⟩, hCs, hBb, hKF⟩
      subst hpe
      have HLI := Lib.hid (lastI_some hyt hh (NoneI.after HFL2.out HK3.out.1 HFI2.out hpre hq2))
      have HYT := Lib.hid hyt
      have HCS := Lib.hid hCs
      clear hyt hh hCs hq2
      gi_wp2
      exact ⟨hKF, x.1.1, y.1.1, ⟨rfl, pre, x, t, u, rfl, hp, rfl, HXT.out, HYT.out, HLI.out⟩, HCS.out, hBb⟩
  case done =>
    rintro D ys W hD rfl ⟨hp, hB1⟩ hK
    have HALL := Lib.hid (lastT_none (NoneT.all HFL.out HXL.out HFI.out hp))
    have hC : Cs s0 s1 s2 s3 s4 z q 0 0 false W := hC1.below hB1 (by omega)
    have HC := Lib.hid hC
    have v2 := hC.1.1.2.cell
    have v3 := hC.1.2.cell
    have v4 := hC.2.cell
    have f2 := hC.1.1.2.frozen
    have f3 := hC.1.2.frozen
    have f4 := hC.2.frozen
    clear hC hp
    gi_wp2
    have HC3 := HC.out.set3 ds 0 0 false
    have hK' := (((KeepsOthers.setCell W ⟨s2, 0, none⟩ (.int .i64 0)).trans (KeepsOthers.setCell _ ⟨s3, 0, none⟩ (.int .i64 0))).trans (KeepsOthers.setCell _ ⟨s4, 0, none⟩ (.bool false))).same D _ hK rfl
    refine ⟨by simp, .inl ⟨_, _, rfl, run_takeDeferred hK', ?_⟩⟩
    have hc2 := cell_kept HC3.1.1.2.cell (grownBy_putObj' _ D (.deferred none)) (fun r e => by cases e; exact ⟨_, hK', rfl⟩)
    have hc3 := cell_kept HC3.1.2.cell (grownBy_putObj' _ D (.deferred none)) (fun r e => by cases e; exact ⟨_, hK', rfl⟩)
    have hc4 := cell_kept HC3.2.cell (grownBy_putObj' _ D (.deferred none)) (fun r e => by cases e; exact ⟨_, hK', rfl⟩)
    refine ⟨.tuple #[.int .i64 0, .int .i64 0, .bool false], ?_, .inr ⟨rfl, HALL.out⟩,
      ((((HB0.out.trans (hB1.mono HB0.out.size)).setCell (p := ⟨s2, 0, none⟩) (show w.heap.size ≤ s2 by omega) _).setCell (p := ⟨s3, 0, none⟩) (show w.heap.size ≤ s3 by omega) _).setCell (p := ⟨s4, 0, none⟩) (show w.heap.size ≤ s4 by omega) _).trans (belowK_b (w := w) (Nat.le_refl _) _ D _ _ (by omega) hK' rfl rfl)⟩
    simp [results, Tryz.f219, go_sem, hc2, hc3, hc4]
  case stop =>
    rintro D cd pre W hD hpre ⟨a, i, ⟨rfl, pre', y, t, x, hpe, hp, rfl, hxt, hyt, hh⟩, hCs, hBb⟩ hK
    subst hpe
    have HLT := Lib.hid (lastT_some hxt hh (NoneT.after HFL.out HXL.out HFI.out hpre hp))
    have HXT := Lib.hid hxt
    have HYT := Lib.hid hyt
    have HCS := Lib.hid hCs
    clear hxt hyt hh hCs hp
    gi_wp2
    refine ⟨by simp, .inl ⟨_, _, rfl, run_takeDeferred hK, ?_⟩⟩
    have hc2 := cell_kept HCS.out.1.1.2.cell (grownBy_putObj' _ D (.deferred none)) (fun r e => by cases e; exact ⟨_, hK, rfl⟩)
    have hc3 := cell_kept HCS.out.1.2.cell (grownBy_putObj' _ D (.deferred none)) (fun r e => by cases e; exact ⟨_, hK, rfl⟩)
    have hc4 := cell_kept HCS.out.2.cell (grownBy_putObj' _ D (.deferred none)) (fun r e => by cases e; exact ⟨_, hK, rfl⟩)
    refine ⟨.tuple #[.int .i64 ((y.1.1 : Nat) : Int), .int .i64 ((i : Nat) : Int), .bool true], ?_, .inl ⟨_, _, t, x, rfl, HXT.out, HYT.out, HLT.out⟩, hBb.trans (belowK_b (w := w) (Nat.le_refl _) W D _ _ (by omega) hK rfl rfl)⟩
    simp [results, Tryz.f219, go_sem, hc2, hc3, hc4]
theorem find_any (A : Option Addr) (n c : Nat) (xs : List Txn) (z q : Int) (p : Nat → Prop) (w : World) (h : Slc 4 txnE p w A n xs) (hn : n ≤ 100000) (hx : ∀ x ∈ xs, x.images.length ≤ 100000) :
    Calls Tryz.prog 219 #[.slice A n c, .int .i64 z, .int .i64 q] w (Found xs z q w) :=
  (callsIn_wide (n := 6)).1 (find_in Fence.wide 6 trivial trivial trivial trivial trivial rfl (Nat.le_refl _) A n c xs z q p w h hn hx)
end Go.Proofs.YtbcmcdmflblgkaaGreatDoor
