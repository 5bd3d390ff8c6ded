/-
  slices.Backward: what its two instances hand a loop's body.
-/
import Derived.RangeFuncNested
import Derived.RangeFuncBound
import Derived.RangeFuncCalls
import Derived.RangeFuncLeaves
import Derived.Shelf.Abstract
import Derived.OwnWalkIn
import Derived.TacticsInMore
import Derived.LoopNIn
import Derived.LoopIn
import Derived.Test.YtedgalbhjfmafaaTwin2
namespace Go.Proofs.Ytedgalbhjfmafaa
open Go.RowKit Go.Shelf
set_option linter.unusedVariables false
attribute [local go_sem] Oper.semAt_some
/-- the element x.1 of the slice at A, and its value x.2 -/
def TEl (A : Option Addr) (p : Nat → Prop) (w : World) (xs : List Txn) (x : Nat × Value) : Prop :=
  ∃ (b o : Nat) (t : Txn) (A2 : Option Addr) (n2 c2 : Nat), A = some ⟨b, o, none⟩ ∧ w.cell? ⟨b, o + x.1 * 4, none⟩ = some (.int .i64 t.seq) ∧ w.cell? ⟨b, o + x.1 * 4 + 1, none⟩ = some (.int .i64 t.pos) ∧ w.cell? ⟨b, o + x.1 * 4 + 2, none⟩ = some (.int .i64 t.n) ∧ w.cell? ⟨b, o + x.1 * 4 + 3, none⟩ = some (.slice A2 n2 c2) ∧ x.2 = .agg #[(.int .i64 t.seq), (.int .i64 t.pos), (.int .i64 t.n), (.slice A2 n2 c2)] ∧ xs[x.1]? = some t ∧ n2 ≤ c2 ∧ c2 ≤ maxLen ∧ Slc 3 imgE p w A2 n2 t.images
abbrev TB (A : Option Addr) (p : Nat → Prop) (w : World) (xs : List Txn) : Type := { x : Nat × Value // TEl A p w xs x }
theorem fullT {A : Option Addr} {p : Nat → Prop} {w : World} {xs : List Txn} {n : Nat} (h : Slc 4 txnE p w A n xs) : ∀ m, m ≤ n → ∃ full : List (TB A p w xs), full.length = m ∧ ∀ (k : Nat) (y : TB A p w xs), full[k]? = some y → y.1.1 + k + 1 = m
  | 0, _ => ⟨[], rfl, fun k y hk => by simp at hk⟩
  | m + 1, hm => by
    obtain ⟨full, hl, hi⟩ := fullT h m (by omega)
    obtain ⟨t, ht⟩ : ∃ t, xs[m]? = some t := ⟨_, List.getElem?_eq_getElem (by rw [h.1]; omega)⟩
    obtain ⟨b, o, A2, n2, c2, e, hp, h0, h1, h2, h3, g1, g2, g3⟩ := txnE.at_ h ht
    refine ⟨⟨(m, .agg #[(.int .i64 t.seq), (.int .i64 t.pos), (.int .i64 t.n), (.slice A2 n2 c2)]), b, o, t, A2, n2, c2, e, h0, h1, h2, h3, rfl, ht, g1, g2, g3⟩ :: full, by simp [hl], fun k y hk => ?_⟩
    cases k with
    | zero => simp at hk; subst hk; rfl
    | succ k =>
      rw [List.getElem?_cons_succ] at hk
      have := hi k y hk
      omega
theorem take_snoc_T {α : Type} {l : List α} {k : Nat} {x : α} (h : l[k]? = some x) : l.take (k + 1) = l.take k ++ [x] := by rw [List.take_add_one, h]; rfl
set_option maxRecDepth 100000 in
set_option maxHeartbeats 2000000 in
theorem backT_in (F : Fence) (n : Nat) (hf : F.fn 47) (hro : F.round = none) (hn : 1 ≤ n) (l Bs n₀ : Nat) (A : Option Addr) (len cap : Nat) (p : Nat → Prop) (w0 : World) (xs : List Txn) (full : List (TB A p w0 xs)) (hfl : full.length = len)
    (hfi : ∀ (k : Nat) (y : TB A p w0 xs), full[k]? = some y → y.1.1 + k + 1 = len) (hlen : len ≤ 100000) (hn₀ : w0.heap.size ≤ n₀) (hBn : Bs < n₀) (J Jx : List (TB A p w0 xs) → World → Prop)
    (hY : ∀ pre x W, J pre W → pre.length < len → YieldAt F (n - 1) Try.prog l #[.int .i64 ((x.1.1 : Nat) : Int), x.1.2] W fun e W' =>
      (e = .returned (.bool true) ∧ J (pre ++ [x]) W' ∧ Below n₀ W W') ∨ (e = .returned (.bool false) ∧ Jx (pre ++ [x]) W'))
    (W : World) (hW : Below w0.heap.size w0 W) (hBs : W.cell? ⟨Bs, 0, none⟩ = some (.slice A len cap)) (h0 : J [] W) :
    CallsIn F n Try.prog 47 #[.func (.yield l) #[] #[], .pointer (some ⟨Bs, 0, none⟩)] W fun e W' => (∃ v, e = .returned v) ∧ ((∃ ys, ys = full ∧ J ys W') ∨ (∃ pre, pre <+: full ∧ Jx pre W')) := by
  have HFL := Lib.hid hfl
  have HFI := Lib.hid hfi
  clear hfl hfi
  refine callsIn_of_wp Try.func47 rfl hf ?_ hro
  simp only [Try.ntmps47, List.size_toArray, List.length_cons, List.length_nil, Nat.reduceAdd, Nat.reduceSub, Array.replicate_succ, Array.replicate_zero, List.push_toArray, List.append_toArray, List.nil_append, List.cons_append]
  gi_wp2
  gi_loopw [3] (fun i wr => ∃ (m : Nat) (q : Int), m ≤ len ∧ q + 1 = (m : Int) ∧ i = .int .i64 q ∧ J (full.take (len - m)) wr ∧ Below n₀ W wr)
    (fun i _ => (intOf i + 1).toNat)
  case atStart => exact ⟨len, (len : Int) - 1, Nat.le_refl _, by omega, rfl, by simpa using h0, Below.refl _ _⟩
  case round =>
    obtain ⟨m, q, hm, hq, rfl, hJs, hnx⟩ := hrel
    have hcb : wr.cell? ⟨Bs, 0, none⟩ = some (.slice A len cap) := (hnx.cell (p := ⟨Bs, 0, none⟩) hBn).trans hBs
    cases m with
    | zero =>
      obtain rfl : q = -1 := by omega
      have HJ : Hid (J full wr) := by
        have := hJs
        rwa [Nat.sub_zero, List.take_of_length_le (by rw [HFL.out]; exact Nat.le_refl _)] at this
      clear hJs
      gi_wp2
      go_end0
      exact ⟨⟨_, rfl⟩, .inl ⟨_, rfl, HJ.out⟩⟩
    | succ m =>
      obtain rfl : q = (m : Int) := by omega
      clear hq
      obtain ⟨x, hx⟩ : ∃ x, full[len - (m + 1)]? = some x := ⟨_, List.getElem?_eq_getElem (by rw [HFL.out]; omega)⟩
      have hxi := HFI.out _ _ hx
      have hxm : x.1.1 = m := by omega
      have HTK := Lib.hid (take_snoc_T hx)
      have HJ1 : len - (m + 1) + 1 = len - m := by omega
      rw [HJ1] at HTK
      have HPRE : Hid (full.take (len - m) <+: full) := List.take_prefix _ _
      have hJlen : (full.take (len - (m + 1))).length < len := by rw [List.length_take]; omega
      have hYx := hY _ x wr hJs hJlen
      rw [← HTK.out] at hYx
      have hB2 : Below w0.heap.size w0 wr := hW.trans (hnx.mono hn₀)
      clear hx hxi HTK HJ1 hJs hJlen
      obtain ⟨⟨xi, xv⟩, b, o, t, A2, n2, c2, rfl, h0, h1, h2, h3, hv, hxt, g1, g2, g3⟩ := x
      dsimp only at hv hxm hYx h0 h1 h2 h3
      subst hv hxm
      have d0 := (hB2.cell (p := ⟨b, o + xi * 4, none⟩) (World.block_lt_of_cell? _ _ h0)).trans h0
      have d1 := (hB2.cell (p := ⟨b, o + xi * 4 + 1, none⟩) (World.block_lt_of_cell? _ _ h1)).trans h1
      have d2 := (hB2.cell (p := ⟨b, o + xi * 4 + 2, none⟩) (World.block_lt_of_cell? _ _ h2)).trans h2
      have d3 := (hB2.cell (p := ⟨b, o + xi * 4 + 3, none⟩) (World.block_lt_of_cell? _ _ h3)).trans h3
      clear hxt g1 g2 g3 h0 h1 h2 h3
      obtain ⟨fn, tmps, assign, body, hy, hR⟩ := hYx
      have i0 : (0 : Int) ≤ (xi : Int) := by omega
      have i1 : (xi : Int) < (len : Int) := by omega
      gi_wp2
      refine hR.mono ?_
      rintro e W3 (⟨rfl, hJ3, hk3⟩ | ⟨rfl, hJx3⟩)
      · have HJ3 := Lib.hid hJ3
        clear hJ3
        gi_wp2
        go_roundw
        case rel => exact ⟨xi, (xi : Int) - 1, by omega, by omega, by first | rfl | go_num, HJ3.out, hnx.trans hk3⟩
        case measure => simp [intOf]
      · gi_wp2
        refine bodyPost_ret (results_none rfl _ _ _) rfl ?_
        exact ⟨⟨_, rfl⟩, .inr ⟨_, HPRE.out, hJx3⟩⟩
set_option maxHeartbeats 1000000 in
theorem BackT_in (F : Fence) (n : Nat) (hf : F.fn 38) (hro : F.round = none) (A : Option Addr) (len cap : Nat) (w : World) :
    CallsIn F n Try.prog 38 #[.slice A len cap] w fun e w' => e = .returned (.func (.func 47) #[] #[.pointer (some ⟨w.heap.size, 0, none⟩)]) ∧ w' = w.alloc (.cells #[.slice A len cap] 22) := by
  refine callsIn_of_wp Try.func38 rfl hf ?_ hro
  simp only [Try.ntmps38, List.size_toArray, List.length_cons, List.length_nil, Nat.reduceAdd, Nat.reduceSub, Array.replicate_succ, Array.replicate_zero, List.push_toArray, List.append_toArray, List.nil_append, List.cons_append]
  gi_wp2
  go_ret
  exact ⟨rfl, rfl⟩
theorem backT_stops (F : Fence) (n : Nat) (hf : F.fn 47) (hro : F.round = none) (hn : 1 ≤ n) (Bs n₀ : Nat) (A : Option Addr) (len cap : Nat) (p : Nat → Prop) (w0 : World) (xs : List Txn) (full : List (TB A p w0 xs)) (hfl : full.length = len)
    (hfi : ∀ (k : Nat) (y : TB A p w0 xs), full[k]? = some y → y.1.1 + k + 1 = len) (hlen : len ≤ 100000) (hn₀ : w0.heap.size ≤ n₀) (hBn : Bs < n₀) (w : World) (hnw : n₀ ≤ w.heap.size) (hw : Below w0.heap.size w0 w) (hc : w.cell? ⟨Bs, 0, none⟩ = some (.slice A len cap)) :
    SeqStopsK F n Try.prog 47 #[.pointer (some ⟨Bs, 0, none⟩)] (fun x : TB A p w0 xs => #[Value.int .i64 ((x.1.1 : Nat) : Int), x.1.2]) (Below n₀) (fun ys => ys = full) (fun pre => pre <+: full) len w := fun l J Jx W hW _ _ hY h0 =>
  backT_in F n hf hro hn l Bs n₀ A len cap p w0 xs full hfl hfi hlen hn₀ hBn J Jx hY W (hw.trans (hW.mono (Nat.le_trans hn₀ hnw))) ((hW.cell (p := ⟨Bs, 0, none⟩) (by show Bs < _; omega)).trans hc) h0
/-- the element x.1 of the slice at A, and its value x.2 -/
def IEl (A : Option Addr) (p : Nat → Prop) (w : World) (xs : List Img) (x : Nat × Value) : Prop :=
  ∃ (b o : Nat) (t : Img) (A2 : Option Addr) (n2 c2 : Nat), A = some ⟨b, o, none⟩ ∧ w.cell? ⟨b, o + x.1 * 3, none⟩ = some (.int .i64 t.zone) ∧ w.cell? ⟨b, o + x.1 * 3 + 1, none⟩ = some (.int .i64 t.what) ∧ w.cell? ⟨b, o + x.1 * 3 + 2, none⟩ = some (.slice A2 n2 c2) ∧ x.2 = .agg #[(.int .i64 t.zone), (.int .i64 t.what), (.slice A2 n2 c2)] ∧ xs[x.1]? = some t ∧ n2 ≤ c2 ∧ c2 ≤ maxLen ∧ Slc 1 (intE .u8) p w A2 n2 t.bytes
abbrev IB (A : Option Addr) (p : Nat → Prop) (w : World) (xs : List Img) : Type := { x : Nat × Value // IEl A p w xs x }
theorem fullI {A : Option Addr} {p : Nat → Prop} {w : World} {xs : List Img} {n : Nat} (h : Slc 3 imgE p w A n xs) : ∀ m, m ≤ n → ∃ full : List (IB A p w xs), full.length = m ∧ ∀ (k : Nat) (y : IB A p w xs), full[k]? = some y → y.1.1 + k + 1 = m
  | 0, _ => ⟨[], rfl, fun k y hk => by simp at hk⟩
  | m + 1, hm => by
    obtain ⟨full, hl, hi⟩ := fullI h m (by omega)
    obtain ⟨t, ht⟩ : ∃ t, xs[m]? = some t := ⟨_, List.getElem?_eq_getElem (by rw [h.1]; omega)⟩
    obtain ⟨b, o, A2, n2, c2, e, hp, h0, h1, h2, g1, g2, g3⟩ := imgE.at_ h ht
    refine ⟨⟨(m, .agg #[(.int .i64 t.zone), (.int .i64 t.what), (.slice A2 n2 c2)]), b, o, t, A2, n2, c2, e, h0, h1, h2, rfl, ht, g1, g2, g3⟩ :: full, by simp [hl], fun k y hk => ?_⟩
    cases k with
    | zero => simp at hk; subst hk; rfl
    | succ k =>
      rw [List.getElem?_cons_succ] at hk
      have := hi k y hk
      omega
theorem take_snoc_I {α : Type} {l : List α} {k : Nat} {x : α} (h : l[k]? = some x) : l.take (k + 1) = l.take k ++ [x] := by rw [List.take_add_one, h]; rfl
set_option maxRecDepth 100000 in
set_option maxHeartbeats 2000000 in
theorem backI_in (F : Fence) (n : Nat) (hf : F.fn 48) (hro : F.round = none) (hn : 1 ≤ n) (l Bs n₀ : Nat) (A : Option Addr) (len cap : Nat) (p : Nat → Prop) (w0 : World) (xs : List Img) (full : List (IB A p w0 xs)) (hfl : full.length = len)
    (hfi : ∀ (k : Nat) (y : IB A p w0 xs), full[k]? = some y → y.1.1 + k + 1 = len) (hlen : len ≤ 100000) (hn₀ : w0.heap.size ≤ n₀) (hBn : Bs < n₀) (J Jx : List (IB A p w0 xs) → World → Prop)
    (hY : ∀ pre x W, J pre W → pre.length < len → YieldAt F (n - 1) Try.prog l #[.int .i64 ((x.1.1 : Nat) : Int), x.1.2] W fun e W' =>
      (e = .returned (.bool true) ∧ J (pre ++ [x]) W' ∧ Below n₀ W W') ∨ (e = .returned (.bool false) ∧ Jx (pre ++ [x]) W'))
    (W : World) (hW : Below w0.heap.size w0 W) (hBs : W.cell? ⟨Bs, 0, none⟩ = some (.slice A len cap)) (h0 : J [] W) :
    CallsIn F n Try.prog 48 #[.func (.yield l) #[] #[], .pointer (some ⟨Bs, 0, none⟩)] W fun e W' => (∃ v, e = .returned v) ∧ ((∃ ys, ys = full ∧ J ys W') ∨ (∃ pre, pre <+: full ∧ Jx pre W')) := by
  have HFL := Lib.hid hfl
  have HFI := Lib.hid hfi
  clear hfl hfi
  refine callsIn_of_wp Try.func48 rfl hf ?_ hro
  simp only [Try.ntmps48, List.size_toArray, List.length_cons, List.length_nil, Nat.reduceAdd, Nat.reduceSub, Array.replicate_succ, Array.replicate_zero, List.push_toArray, List.append_toArray, List.nil_append, List.cons_append]
  gi_wp2
  gi_loopw [3] (fun i wr => ∃ (m : Nat) (q : Int), m ≤ len ∧ q + 1 = (m : Int) ∧ i = .int .i64 q ∧ J (full.take (len - m)) wr ∧ Below n₀ W wr)
    (fun i _ => (intOf i + 1).toNat)
  case atStart => exact ⟨len, (len : Int) - 1, Nat.le_refl _, by omega, rfl, by simpa using h0, Below.refl _ _⟩
  case round =>
    obtain ⟨m, q, hm, hq, rfl, hJs, hnx⟩ := hrel
    have hcb : wr.cell? ⟨Bs, 0, none⟩ = some (.slice A len cap) := (hnx.cell (p := ⟨Bs, 0, none⟩) hBn).trans hBs
    cases m with
    | zero =>
      obtain rfl : q = -1 := by omega
      have HJ : Hid (J full wr) := by
        have := hJs
        rwa [Nat.sub_zero, List.take_of_length_le (by rw [HFL.out]; exact Nat.le_refl _)] at this
      clear hJs
      gi_wp2
      go_end0
      exact ⟨⟨_, rfl⟩, .inl ⟨_, rfl, HJ.out⟩⟩
    | succ m =>
      obtain rfl : q = (m : Int) := by omega
      clear hq
      obtain ⟨x, hx⟩ : ∃ x, full[len - (m + 1)]? = some x := ⟨_, List.getElem?_eq_getElem (by rw [HFL.out]; omega)⟩
      have hxi := HFI.out _ _ hx
      have hxm : x.1.1 = m := by omega
      have HTK := Lib.hid (take_snoc_I hx)
      have HJ1 : len - (m + 1) + 1 = len - m := by omega
      rw [HJ1] at HTK
      have HPRE : Hid (full.take (len - m) <+: full) := List.take_prefix _ _
      have hJlen : (full.take (len - (m + 1))).length < len := by rw [List.length_take]; omega
      have hYx := hY _ x wr hJs hJlen
      rw [← HTK.out] at hYx
      have hB2 : Below w0.heap.size w0 wr := hW.trans (hnx.mono hn₀)
      clear hx hxi HTK HJ1 hJs hJlen
      obtain ⟨⟨xi, xv⟩, b, o, t, A2, n2, c2, rfl, h0, h1, h2, hv, hxt, g1, g2, g3⟩ := x
      dsimp only at hv hxm hYx h0 h1 h2
      subst hv hxm
      have d0 := (hB2.cell (p := ⟨b, o + xi * 3, none⟩) (World.block_lt_of_cell? _ _ h0)).trans h0
      have d1 := (hB2.cell (p := ⟨b, o + xi * 3 + 1, none⟩) (World.block_lt_of_cell? _ _ h1)).trans h1
      have d2 := (hB2.cell (p := ⟨b, o + xi * 3 + 2, none⟩) (World.block_lt_of_cell? _ _ h2)).trans h2
      clear hxt g1 g2 g3 h0 h1 h2
      obtain ⟨fn, tmps, assign, body, hy, hR⟩ := hYx
      have i0 : (0 : Int) ≤ (xi : Int) := by omega
      have i1 : (xi : Int) < (len : Int) := by omega
      gi_wp2
      refine hR.mono ?_
      rintro e W3 (⟨rfl, hJ3, hk3⟩ | ⟨rfl, hJx3⟩)
      · have HJ3 := Lib.hid hJ3
        clear hJ3
        gi_wp2
        go_roundw
        case rel => exact ⟨xi, (xi : Int) - 1, by omega, by omega, by first | rfl | go_num, HJ3.out, hnx.trans hk3⟩
        case measure => simp [intOf]
      · gi_wp2
        refine bodyPost_ret (results_none rfl _ _ _) rfl ?_
        exact ⟨⟨_, rfl⟩, .inr ⟨_, HPRE.out, hJx3⟩⟩
set_option maxHeartbeats 1000000 in
theorem BackI_in (F : Fence) (n : Nat) (hf : F.fn 39) (hro : F.round = none) (A : Option Addr) (len cap : Nat) (w : World) :
    CallsIn F n Try.prog 39 #[.slice A len cap] w fun e w' => e = .returned (.func (.func 48) #[] #[.pointer (some ⟨w.heap.size, 0, none⟩)]) ∧ w' = w.alloc (.cells #[.slice A len cap] 35) := by
  refine callsIn_of_wp Try.func39 rfl hf ?_ hro
  simp only [Try.ntmps39, List.size_toArray, List.length_cons, List.length_nil, Nat.reduceAdd, Nat.reduceSub, Array.replicate_succ, Array.replicate_zero, List.push_toArray, List.append_toArray, List.nil_append, List.cons_append]
  gi_wp2
  go_ret
  exact ⟨rfl, rfl⟩
theorem backI_stops (F : Fence) (n : Nat) (hf : F.fn 48) (hro : F.round = none) (hn : 1 ≤ n) (Bs n₀ : Nat) (A : Option Addr) (len cap : Nat) (p : Nat → Prop) (w0 : World) (xs : List Img) (full : List (IB A p w0 xs)) (hfl : full.length = len)
    (hfi : ∀ (k : Nat) (y : IB A p w0 xs), full[k]? = some y → y.1.1 + k + 1 = len) (hlen : len ≤ 100000) (hn₀ : w0.heap.size ≤ n₀) (hBn : Bs < n₀) (w : World) (hnw : n₀ ≤ w.heap.size) (hw : Below w0.heap.size w0 w) (hc : w.cell? ⟨Bs, 0, none⟩ = some (.slice A len cap)) :
    SeqStopsK F n Try.prog 48 #[.pointer (some ⟨Bs, 0, none⟩)] (fun x : IB A p w0 xs => #[Value.int .i64 ((x.1.1 : Nat) : Int), x.1.2]) (Below n₀) (fun ys => ys = full) (fun pre => pre <+: full) len w := fun l J Jx W hW _ _ hY h0 =>
  backI_in F n hf hro hn l Bs n₀ A len cap p w0 xs full hfl hfi hlen hn₀ hBn J Jx hY W (hw.trans (hW.mono (Nat.le_trans hn₀ hnw))) ((hW.cell (p := ⟨Bs, 0, none⟩) (by show Bs < _; omega)).trans hc) h0
end Go.Proofs.Ytedgalbhjfmafaa
