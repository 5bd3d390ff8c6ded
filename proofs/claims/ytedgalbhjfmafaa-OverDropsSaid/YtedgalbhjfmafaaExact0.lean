/-
  What OverExact keeps from call to call.
-/
import Derived.Test.YtedgalbhjfmafaaPut
import Derived.Test.YtedgalbhjfmafaaRead2
import Derived.Test.YtedgalbhjfmafaaOverLast
namespace Go.Proofs.Ytedgalbhjfmafaa
open Go.ChangeShapes Go.WideShapes Go.ChangeAt Go.RowKit
set_option linter.unusedVariables false
set_option maxHeartbeats 400000 in
theorem Over_at (A : Option Addr) (n c : Nat) (B : Nat) (w : World) (h : LooseB B w A n) (hn : n ≤ maxLen) :
    Calls Try.prog 17 #[.slice A n c] w fun e w' => e = .returned (.tuple #[]) ∧ OverStep B w w' ∧ Agree (fun g => n = 0 ∨ ∀ o, A ≠ some ⟨g, o, none⟩) w w' := by
  unfold maxLen at hn
  go_enter Try.func17, Try.ntmps17
  go_wp2_with fail
  go_loopw [2] (fun i wr => ∃ k : Nat, k ≤ n ∧ i = .int .i64 k ∧ Hid (OverStep B w wr) ∧ Hid (Agree (fun g => n = 0 ∨ ∀ o, A ≠ some ⟨g, o, none⟩) w wr)) (fun i _ => n - (intOf i).toNat)
  case atStart => exact ⟨0, by omega, rfl, OverStep.refl _ _, Agree.refl _ _⟩
  case round =>
    obtain ⟨k, hk, rfl, hS, hG⟩ := hrel
    by_cases hlt : k < n
    · obtain ⟨b, o, rfl, hb, ht, hc⟩ := (h.step hS.out) (by omega)
      obtain ⟨y, hy⟩ := hc k hlt
      have hf := thawed_frozen ht (o + k)
      have HSET : Hid (∀ z, OverStep B w (wr.setCell ⟨b, o + k, none⟩ (.int .u8 z))) := fun z => hS.out.trans (OverStep.set hy hb z)
      have HSET2 : Hid (∀ z, Agree (fun g => n = 0 ∨ ∀ o', some (⟨b, o, none⟩ : Addr) ≠ some ⟨g, o', none⟩) w (wr.setCell ⟨b, o + k, none⟩ (.int .u8 z))) := fun z => hG.out.trans (Agree.setCell (fun g hg e => by
        rcases hg with hg | hg
        · omega
        · have e' : g = b := e
          exact hg o (by rw [e'])) _)
      have i0 : (0 : Int) ≤ (k : Int) := by omega
      have i1 : (k : Int) < (n : Int) := by omega
      clear hc h hG
      go_wp2_with fail
      go_roundw
      case rel => exact ⟨k + 1, by omega, by go_num, HSET.out _, HSET2.out _⟩
      case measure => simp [intOf]; omega
    · obtain rfl : k = n := by omega
      clear h
      go_wp2_with fail
      go_end0
      exact ⟨rfl, hS.out, hG.out⟩
theorem OverStep.of_below {B : Nat} {W W' : World} (h : Below W.heap.size W W') (hB : B ≤ W.heap.size) : OverStep B W W' :=
  ⟨h.mono hB, fun b o v hv _ => (h.cell (p := ⟨b, o, none⟩) (World.block_lt_of_cell? _ _ hv)).trans hv, fun b o x hx => ⟨x, (h.cell (p := ⟨b, o, none⟩) (World.block_lt_of_cell? _ _ hx)).trans hx⟩, fun b hb => hb.below h⟩
theorem Slc.front_ {α : Type} {k : Nat} {E : Elt α} {p : Nat → Prop} {w : World} {A : Option Addr} {n m : Nat} {xs : List α} (h : Slc k E p w A n xs) (hm : m ≤ n) : Slc k E p w A m (xs.take m) := by
  refine ⟨by rw [List.length_take, h.1]; omega, fun h0 => ?_⟩
  obtain ⟨b, o, e, hp, hc, hx⟩ := h.2 (by omega)
  refine ⟨b, o, e, hp, fun i hi => hc i (Nat.lt_of_lt_of_le hi (Nat.mul_le_mul_right k hm)), fun j x hj => ?_⟩
  have hjk : j < m := by have := (List.getElem?_eq_some_iff.1 hj).1; rw [List.length_take] at this; omega
  rw [List.getElem?_take_of_lt hjk] at hj
  exact hx j x hj
theorem Slc.tail_ {α : Type} {k : Nat} {E : Elt α} (hE : Good k E) {p : Nat → Prop} {w : World} {b o n c : Nat} {x : α} {xs : List α} (h : Slc k E p w (some ⟨b, o, none⟩) n (x :: xs)) (hc : n ≤ c) : Slc k E p w (if c = 1 then some ⟨b, o, none⟩ else some ⟨b, o + k, none⟩) (n - 1) xs := by
  have hl := h.1
  rw [List.length_cons] at hl
  refine ⟨by omega, fun h0 => ?_⟩
  obtain ⟨b', o', e, hp, hcell, hx⟩ := h.2 (by omega)
  injection e with e
  injection e with e1 e2
  subst e1 e2
  rw [if_neg (by omega)]
  refine ⟨b, o + k, rfl, hp, fun i hi => ?_, fun j y hj => ?_⟩
  · have := hcell (k + i) (by
      have h1 : (n - 1) * k + k = n * k := by rw [← Nat.succ_mul]; congr 1; omega
      omega)
    rwa [Nat.add_assoc]
  · refine hE.here (fun i hi => ?_) (hx (j + 1) y (by simpa using hj))
    congr 2
    rw [Nat.add_mul, Nat.one_mul]
    omega
theorem ints_same {A B : Option Addr} {n c m c' : Nat} {xs : List Int} {p p' : Nat → Prop} {w : World} (hl : Slc 1 (intE .i64) p w A n xs) (hm : Slc 1 (intE .i64) p' w B m xs) (hn : n ≤ maxLen) :
    Calls Try.prog 14 #[.slice A n c, .slice B m c'] w (Says true w) := by
  refine (ints_any A B n c m c' xs xs p p' w hl hm hn).mono ?_
  rintro e w' ⟨rfl, hb⟩
  exact ⟨ret_bool (decide_eq_true rfl), hb⟩
/-- what came in and the twin -/
structure K1 (w : World) (n : Nat) (A2 : Option Addr) (xs : List Txn) (ca : Array Value) (B2 : Nat) (W : World) : Prop where
  below : Below w.heap.size w W
  box : Blk W w.heap.size 25 ca
  inn : Slc 4 txnE (fun g => g < B2) W A2 n xs
  size : B2 ≤ W.heap.size
theorem K1.next {w : World} {n : Nat} {A2 : Option Addr} {xs : List Txn} {ca : Array Value} {B2 : Nat} {W W' : World} (h : K1 w n A2 xs ca B2 W) (hb : Below W.heap.size W W') : K1 w n A2 xs ca B2 W' :=
  ⟨h.below.trans (hb.mono h.below.size), h.box.below_ hb h.box.lt, h.inn.below txnE.good (by decide) hb, Nat.le_trans h.size hb.size⟩
theorem K1.step {w : World} {n : Nat} {A2 : Option Addr} {xs : List Txn} {ca : Array Value} {B2 B : Nat} {W W' : World} (h : K1 w n A2 xs ca B2 W) (hs : OverStep B W W') (hw : w.heap.size < B2) (hB : B2 ≤ B) : K1 w n A2 xs ca B2 W' :=
  ⟨h.below.trans (hs.below.mono (by omega)), h.box.below_ hs.below (by omega), h.inn.keep txnE.good (by decide) (Agree.of_lt hs.below (fun b hb => by omega)), Nat.le_trans h.size hs.below.size⟩
/-- the bytes that Find told -/
def KB (B2 N3 : Nat) (A3 : Option Addr) (n3 : Nat) (bs : List Int) (W : World) : Prop := Slc 1 (intE .u8) (fun g => Fr B2 W g ∧ g < N3) W A3 n3 bs
theorem KB.next {B2 N3 n3 : Nat} {A3 : Option Addr} {bs : List Int} {W W' : World} (h : KB B2 N3 A3 n3 bs W) (hb : Below W.heap.size W W') : KB B2 N3 A3 n3 bs W' :=
  (Slc.below (intE.good _) (by decide) hb h).mono (intE.good _) (fun b hb' => ⟨Fr.below hb b hb'.1, hb'.2⟩)
/-- the first transaction in its box, and the others -/
structure KX (B5 gx : Nat) (t : Txn) (A8 : Option Addr) (n8 c8 : Nat) (A9 : Option Addr) (n9 : Nat) (ts : List Txn) (W : World) : Prop where
  x0 : W.cell? ⟨gx, 0, none⟩ = some (.int .i64 t.seq)
  x1 : W.cell? ⟨gx, 1, none⟩ = some (.int .i64 t.pos)
  x2 : W.cell? ⟨gx, 2, none⟩ = some (.int .i64 t.n)
  x3 : W.cell? ⟨gx, 3, none⟩ = some (.slice A8 n8 c8)
  im : Slc 3 imgE (Fr B5 W) W A8 n8 t.images
  rest : Slc 4 txnE (Fr B5 W) W A9 n9 ts
theorem KX.agree {B5 gx n8 c8 n9 : Nat} {t : Txn} {A8 A9 : Option Addr} {ts : List Txn} {W W' : World} (h : KX B5 gx t A8 n8 c8 A9 n9 ts W) (hg : B5 ≤ gx) (ha : Agree (fun g => B5 ≤ g) W W') (ht : ∀ b, Thawed W b → Thawed W' b) : KX B5 gx t A8 n8 c8 A9 n9 ts W' :=
  ⟨ha gx hg 0 _ h.x0, ha gx hg 1 _ h.x1, ha gx hg 2 _ h.x2, ha gx hg 3 _ h.x3,
    (h.im.keep imgE.good (by decide) (fun b hb => ha b hb.1)).mono imgE.good (fun b hb => ⟨hb.1, ht b hb.2⟩),
    (h.rest.keep txnE.good (by decide) (fun b hb => ha b hb.1)).mono txnE.good (fun b hb => ⟨hb.1, ht b hb.2⟩)⟩
theorem KX.next {B5 gx n8 c8 n9 : Nat} {t : Txn} {A8 A9 : Option Addr} {ts : List Txn} {W W' : World} (h : KX B5 gx t A8 n8 c8 A9 n9 ts W) (hg : B5 ≤ gx) (hb : Below W.heap.size W W') : KX B5 gx t A8 n8 c8 A9 n9 ts W' :=
  h.agree hg (Agree.of_below hb) (fun b hb' => hb'.below hb)
/-- Over of what Find told leaves what Drop told -/
theorem over_far {B2 N3 B5 n3 : Nat} {A3 : Option Addr} {bs : List Int} {W W' : World} (h : KB B2 N3 A3 n3 bs W) (hN : N3 ≤ B5) (ha : Agree (fun g => n3 = 0 ∨ ∀ o, A3 ≠ some ⟨g, o, none⟩) W W') : Agree (fun g => B5 ≤ g) W W' := fun g hg => ha g (by
  rcases Nat.eq_zero_or_pos n3 with h0 | h0
  · exact .inl h0
  · obtain ⟨b, o, e, hp, _⟩ := h.2 h0
    refine .inr (fun o' e' => ?_)
    rw [e] at e'
    injection e' with e'
    injection e' with e1 e2
    have := hp.2
    omega)
theorem KB.loose {B2 N3 n3 : Nat} {A3 : Option Addr} {bs : List Int} {W : World} (h : KB B2 N3 A3 n3 bs W) : LooseB B2 W A3 n3 := LooseB.of (h.mono (intE.good _) (fun b hb => hb.1))
/-- what Drop told, both ways in one -/
theorem dropped_in {xs : List Txn} {W w' : World} {e : Ending} (h : Dropped xs W e w') : ∃ (t : Txn) (ts : List Txn) (A8 : Option Addr) (n8 c8 : Nat) (A9 : Option Addr) (n9 c9 : Nat) (er : Int),
    e = .returned (.tuple #[.agg #[.int .i64 t.seq, .int .i64 t.pos, .int .i64 t.n, .slice A8 n8 c8], .slice A9 n9 c9, .int .i64 er]) ∧ n8 ≤ c8 ∧ c8 ≤ maxLen ∧ n9 ≤ c9 ∧ c9 ≤ maxLen ∧
    Slc 3 imgE (Fr W.heap.size w') w' A8 n8 t.images ∧ Slc 4 txnE (Fr W.heap.size w') w' A9 n9 ts ∧
    ((xs = [] ∧ er = 10 ∧ t = ⟨0, 0, 0, []⟩ ∧ n8 = 0 ∧ n9 = 0) ∨ (xs = t :: ts ∧ er = 0)) ∧ Below W.heap.size W w' := by
  obtain ⟨⟨rfl, rfl⟩ | ⟨t, ts, iv, yv, rfl, rfl, ⟨A8, n8, c8, rfl, h1, h2, h3⟩, ⟨A9, n9, c9, rfl, h4, h5, h6⟩⟩, hb⟩ := h
  · exact ⟨⟨0, 0, 0, []⟩, [], none, 0, 0, none, 0, 0, 10, rfl, Nat.le_refl _, Nat.zero_le _, Nat.le_refl _, Nat.zero_le _, Slc.nil_, Slc.nil_, .inl ⟨rfl, rfl, rfl, rfl, rfl⟩, hb⟩
  · exact ⟨t, ts, A8, n8, c8, A9, n9, c9, 0, rfl, h1, h2, h4, h5, h3, h6, .inr ⟨rfl, rfl⟩, hb⟩
theorem rootOf_out {hs : List Hm} {xs : List Txn} {z : Int} (h : ¬ (0 ≤ z ∧ z < hs.length)) : rootOf hs xs z = (0, 1) := by rw [rootOf, if_neg h]
end Go.Proofs.Ytedgalbhjfmafaa
