/-
  Twins: slices in memory of their own.
-/
import Derived.Test.YtedgalbhjfmafaaRead
import Derived.Test.YtedgalbhjfmafaaShelf
import Derived.StillTactics
import Derived.Deep.RegionHeld3
import Derived.Lib.SlBytesConst
namespace Go.Proofs.Ytedgalbhjfmafaa
open Go.ChangeShapes Go.WideShapes Go.ChangeAt Go.RowKit
set_option linter.unusedVariables false
def Thawed (W : World) (b : Nat) : Prop := ∃ cs t, W.heap[b]? = some (.cells cs t (0, 0))
/-- new since there were B blocks, and not frozen -/
def Fr (B : Nat) (W : World) : Nat → Prop := fun b => B ≤ b ∧ Thawed W b
theorem Thawed.lt {W : World} {b : Nat} (h : Thawed W b) : b < W.heap.size := by
  obtain ⟨cs, t, h⟩ := h
  exact (Array.getElem?_eq_some_iff.1 h).1
theorem Thawed.below {W W' : World} {b : Nat} (h : Thawed W b) (hb : Below W.heap.size W W') : Thawed W' b := by
  obtain ⟨cs, t, h'⟩ := h
  exact ⟨cs, t, (hb.block b (Thawed.lt ⟨cs, t, h'⟩)).trans h'⟩
theorem Thawed.grown {W W' : World} {b : Nat} {row : Option Nat} (h : Thawed W b) (hg : W.grownBy W' row) (hne : row ≠ some b) : Thawed W' b := by
  obtain ⟨cs, t, h'⟩ := h
  exact ⟨cs, t, (hg.block b (Thawed.lt ⟨cs, t, h'⟩) (fun e => hne e.symm)).trans h'⟩
theorem Fr.below {B : Nat} {W W' : World} (hb : Below W.heap.size W W') : ∀ b, Fr B W b → Fr B W' b := fun b h => ⟨h.1, h.2.below hb⟩
theorem Fr.lt {B : Nat} {W : World} {b : Nat} (h : Fr B W b) : b < W.heap.size := h.2.lt
theorem own_thawed {W : World} {base : Nat} {e : TypeId} {k : Nat} {v : Value} {n : Nat} {xs : List Value} (h : W.ownsRow base e k v n xs) : ∀ g, v.ownBlock = some g → Fr base W g := fun g hg => by
  rcases h.2 with ⟨rfl, _⟩ | ⟨g', cap, cur, rfl, hb, hh, _⟩
  · cases hg
  · have : g' = g := by injection hg
    subst this
    exact ⟨hb, cur, e, hh⟩
theorem own_below {W W' : World} {base : Nat} {e : TypeId} {k : Nat} {v : Value} {n : Nat} {xs : List Value} (h : W.ownsRow base e k v n xs) (hb : Below W.heap.size W W') : W'.ownsRow base e k v n xs := by
  refine ⟨h.1, ?_⟩
  rcases h.2 with h0 | ⟨g, cap, cur, e1, e2, e3, e4⟩
  · exact .inl h0
  · exact .inr ⟨g, cap, cur, e1, e2, (hb.block g (Array.getElem?_eq_some_iff.1 e3).1).trans e3, e4⟩
theorem Agree.drew (p : Nat → Prop) (W : World) : Agree p W W.drew := fun _ _ _ _ h => h
theorem Agree.drewN (p : Nat → Prop) (W : World) (n : Nat) : Agree p W (W.drewN n) := fun _ _ _ _ h => h
/-- what a function that hands back new memory leaves -/
def Gives (P : Value → World → Prop) (W : World) (e : Ending) (w' : World) : Prop := ∃ v, e = .returned v ∧ P v w' ∧ Below W.heap.size W w'
theorem info5 : (Try.prog.info? 5).map (fun i => (i.zero, i.size, i.bytes)) = some (some (.int .u8 0), 1, 1) := by kernel_rfl
theorem info3 : (Try.prog.info? 3).map (fun i => (i.zero, i.size, i.bytes)) = some (some (.int .i64 0), 1, 8) := by kernel_rfl
theorem info49 : (Try.prog.info? 49).map (fun i => (i.zero, i.size, i.bytes)) = some (some (.agg #[.int .i64 0, .int .i64 0, .slice none 0 0]), 3, 40) := by kernel_rfl
theorem info37 : (Try.prog.info? 37).map (fun i => (i.zero, i.size, i.bytes)) = some (some (.agg #[.int .i64 0, .int .i64 0, .int .i64 0, .slice none 0 0]), 4, 48) := by kernel_rfl
theorem ints_one {q : IntKind} (xs : List Int) : ∀ u ∈ xs.map (Value.int q), u.oneCell' = true := by
  intro u hu
  obtain ⟨c, _, rfl⟩ := List.mem_map.1 hu
  rfl
set_option maxHeartbeats 400000 in
theorem twin_any (A : Option Addr) (n c : Nat) (bs : List Int) (p : Nat → Prop) (w : World) (h : Slc 1 (intE .u8) p w A n bs) (hn : n ≤ 100000) :
    Calls Try.prog 29 #[.slice A n c] w (Gives (fun v w' => SlcV 1 (intE .u8) (Fr w.heap.size w') w' v bs) w) := by
  obtain ⟨i0, hi, hz0, hz1, hz2⟩ := info_parts info5
  obtain ⟨cells, hr, hw⟩ := h.cells_ (by decide)
  have hcells := (hw (intE.good _)).bytes
  subst hcells
  have HR := Lib.hid hr
  have HL := Lib.hid h.1
  have HO := Lib.hid (ints_one (q := .u8) bs)
  clear h hr hw
  go_enter Try.func29, Try.ntmps29
  go_wp2_with (at_builtin; (refine wpList_append_any _ rfl (.tmp 4) (.tmp 5) 29 rfl w.heap.size 5 i0 (.int .u8 0) 1 1 Try.underlying29 hi hz0 hz1 hz2 rfl (by decide) _ 0 [] rfl (World.ownsRow_nil _ _ _ _) w.heap.size A n c (bs.map (Value.int .u8)) rfl HR.out HO.out (by unfold maxLen; omega) (by omega) (Nat.le_refl _) ?_); intro v' w1 hown hgrow _)
  go_ret
  rw [Nat.zero_add, List.nil_append] at hown
  exact ⟨v', rfl, SlcV.of_own (intE.good _) hown (Rw.of_ints bs) HL.out (own_thawed hown), (Below.refl _ _).grown hgrow (Nat.le_refl _) (fun k hk => by cases hk)⟩
set_option maxHeartbeats 400000 in
theorem twinI_any (A : Option Addr) (n c : Nat) (bs : List Int) (p : Nat → Prop) (w : World) (h : Slc 1 (intE .i64) p w A n bs) (hn : n ≤ 100000) :
    Calls Try.prog 43 #[.slice A n c] w (Gives (fun v w' => SlcV 1 (intE .i64) (Fr w.heap.size w') w' v bs) w) := by
  obtain ⟨i0, hi, hz0, hz1, hz2⟩ := info_parts info3
  obtain ⟨cells, hr, hw⟩ := h.cells_ (by decide)
  have hcells := (hw (intE.good _)).bytes
  subst hcells
  have HR := Lib.hid hr
  have HL := Lib.hid h.1
  have HO := Lib.hid (ints_one (q := .i64) bs)
  clear h hr hw
  go_enter Try.func43, Try.ntmps43
  go_wp2_with (at_builtin; (refine wpList_append_any _ rfl (.tmp 4) (.tmp 5) 42 rfl w.heap.size 3 i0 (.int .i64 0) 1 8 Try.underlying42 hi hz0 hz1 hz2 rfl (by decide) _ 0 [] rfl (World.ownsRow_nil _ _ _ _) w.heap.size A n c (bs.map (Value.int .i64)) rfl HR.out HO.out (by unfold maxLen; omega) (by omega) (Nat.le_refl _) ?_); intro v' w1 hown hgrow _)
  go_ret
  rw [Nat.zero_add, List.nil_append] at hown
  exact ⟨v', rfl, SlcV.of_own (intE.good _) hown (Rw.of_ints bs) HL.out (own_thawed hown), (Below.refl _ _).grown hgrow (Nat.le_refl _) (fun k hk => by cases hk)⟩
theorem own_empty (w : World) (e : TypeId) (k : Nat) : (w.alloc (.cells #[] e)).ownsRow w.heap.size e k (.slice (some ⟨w.heap.size, 0, none⟩) 0 0) 0 [] :=
  ⟨by simp, .inr ⟨w.heap.size, 0, #[], rfl, Nat.le_refl _, heap_alloc_new w _, Nat.le_refl _, by unfold maxLen; omega, by simp, by simp⟩⟩
set_option maxHeartbeats 400000 in
theorem cloneT_own (A : Option Addr) (n c : Nat) (cells : List Value) (w : World) (hr : Reads w w.heap.size 4 A n cells) (hone : ∀ u ∈ cells, u.oneCell' = true) (hn : n ≤ 100000) :
    Calls Try.prog 31 #[.slice A n c] w (Gives (fun v w' => w'.ownsRow w.heap.size 37 4 v n cells) w) := by
  obtain ⟨i0, hi, hz0, hz1, hz2⟩ := info_parts info37
  have q22 : ∀ (w : World) (a : Option Addr) (n c n' c' : Nat), (binOp .eql 22 (.slice a n c) (.slice none n' c')).run Try.prog w = .ok (.bool a.isNone) w := fun w a n c n' c' => Lib.run_eql_slice_nil w _ _ a n c n' c' Try.underlying22
  rcases A with _ | ad
  · have h0 : n = 0 := by
      rcases Nat.eq_zero_or_pos n with h | h
      · exact h
      · obtain ⟨ad, hx, _⟩ := hr.2 h; cases hx
    subst h0
    have : cells = [] := List.eq_nil_of_length_eq_zero (by have := hr.1; omega)
    subst this
    clear hr hone
    go_enter Try.func31, Try.ntmps31
    go_wp2_with fail
    go_ret
    exact ⟨_, rfl, World.ownsRow_nil _ _ _ _, Below.refl _ _⟩
  · have HR := Lib.hid hr
    have HO := Lib.hid hone
    clear hr hone
    go_enter Try.func31, Try.ntmps31
    go_wp2_with (at_builtin; (refine wpList_append_any _ rfl (.tmp 5) (.tmp 6) 22 rfl w.heap.size 37 i0 _ 4 48 Try.underlying22 hi hz0 hz1 hz2 rfl (by decide) _ 0 [] rfl (own_empty w _ _) w.heap.size (some ad) n c cells rfl (HR.out.alloc (Nat.le_refl _) _) HO.out (by unfold maxLen; omega) (by omega) (by simp) ?_); intro v' w1 hown hgrow hat)
    go_ret
    rw [Nat.zero_add, List.nil_append] at hown
    exact ⟨v', rfl, hown, ((Below.refl _ _).alloc (Nat.le_refl _) _).grown hgrow (by simp) (fun k hk => Nat.le_of_eq (Option.some.inj hk))⟩
set_option maxHeartbeats 400000 in
theorem cloneI_own (A : Option Addr) (n c : Nat) (cells : List Value) (w : World) (hr : Reads w w.heap.size 3 A n cells) (hone : ∀ u ∈ cells, u.oneCell' = true) (hn : n ≤ 100000) :
    Calls Try.prog 40 #[.slice A n c] w (Gives (fun v w' => w'.ownsRow w.heap.size 49 3 v n cells) w) := by
  obtain ⟨i0, hi, hz0, hz1, hz2⟩ := info_parts info49
  have q22 : ∀ (w : World) (a : Option Addr) (n c n' c' : Nat), (binOp .eql 35 (.slice a n c) (.slice none n' c')).run Try.prog w = .ok (.bool a.isNone) w := fun w a n c n' c' => Lib.run_eql_slice_nil w _ _ a n c n' c' Try.underlying35
  rcases A with _ | ad
  · have h0 : n = 0 := by
      rcases Nat.eq_zero_or_pos n with h | h
      · exact h
      · obtain ⟨ad, hx, _⟩ := hr.2 h; cases hx
    subst h0
    have : cells = [] := List.eq_nil_of_length_eq_zero (by have := hr.1; omega)
    subst this
    clear hr hone
    go_enter Try.func40, Try.ntmps40
    go_wp2_with fail
    go_ret
    exact ⟨_, rfl, World.ownsRow_nil _ _ _ _, Below.refl _ _⟩
  · have HR := Lib.hid hr
    have HO := Lib.hid hone
    clear hr hone
    go_enter Try.func40, Try.ntmps40
    go_wp2_with (at_builtin; (refine wpList_append_any _ rfl (.tmp 5) (.tmp 6) 35 rfl w.heap.size 49 i0 _ 3 40 Try.underlying35 hi hz0 hz1 hz2 rfl (by decide) _ 0 [] rfl (own_empty w _ _) w.heap.size (some ad) n c cells rfl (HR.out.alloc (Nat.le_refl _) _) HO.out (by unfold maxLen; omega) (by omega) (by simp) ?_); intro v' w1 hown hgrow hat)
    go_ret
    rw [Nat.zero_add, List.nil_append] at hown
    exact ⟨v', rfl, hown, ((Below.refl _ _).alloc (Nat.le_refl _) _).grown hgrow (by simp) (fun k hk => Nat.le_of_eq (Option.some.inj hk))⟩
set_option maxHeartbeats 400000 in
theorem cloneB_own (A : Option Addr) (n c : Nat) (cells : List Value) (w : World) (hr : Reads w w.heap.size 1 A n cells) (hone : ∀ u ∈ cells, u.oneCell' = true) (hn : n ≤ 100000) :
    Calls Try.prog 28 #[.slice A n c] w (Gives (fun v w' => w'.ownsRow w.heap.size 5 1 v n cells) w) := by
  obtain ⟨i0, hi, hz0, hz1, hz2⟩ := info_parts info5
  have q22 : ∀ (w : World) (a : Option Addr) (n c n' c' : Nat), (binOp .eql 29 (.slice a n c) (.slice none n' c')).run Try.prog w = .ok (.bool a.isNone) w := fun w a n c n' c' => Lib.run_eql_slice_nil w _ _ a n c n' c' Try.underlying29
  rcases A with _ | ad
  · have h0 : n = 0 := by
      rcases Nat.eq_zero_or_pos n with h | h
      · exact h
      · obtain ⟨ad, hx, _⟩ := hr.2 h; cases hx
    subst h0
    have : cells = [] := List.eq_nil_of_length_eq_zero (by have := hr.1; omega)
    subst this
    clear hr hone
    go_enter Try.func28, Try.ntmps28
    go_wp2_with fail
    go_ret
    exact ⟨_, rfl, World.ownsRow_nil _ _ _ _, Below.refl _ _⟩
  · have HR := Lib.hid hr
    have HO := Lib.hid hone
    clear hr hone
    go_enter Try.func28, Try.ntmps28
    go_wp2_with (at_builtin; (refine wpList_append_any _ rfl (.tmp 5) (.tmp 6) 29 rfl w.heap.size 5 i0 _ 1 1 Try.underlying29 hi hz0 hz1 hz2 rfl (by decide) _ 0 [] rfl (own_empty w _ _) w.heap.size (some ad) n c cells rfl (HR.out.alloc (Nat.le_refl _) _) HO.out (by unfold maxLen; omega) (by omega) (by simp) ?_); intro v' w1 hown hgrow hat)
    go_ret
    rw [Nat.zero_add, List.nil_append] at hown
    exact ⟨v', rfl, hown, ((Below.refl _ _).alloc (Nat.le_refl _) _).grown hgrow (by simp) (fun k hk => Nat.le_of_eq (Option.some.inj hk))⟩
theorem cloneB_any (A : Option Addr) (n c : Nat) (bs : List Int) (p : Nat → Prop) (w : World) (h : Slc 1 (intE .u8) p w A n bs) (hn : n ≤ 100000) :
    Calls Try.prog 28 #[.slice A n c] w (Gives (fun v w' => SlcV 1 (intE .u8) (Fr w.heap.size w') w' v bs) w) := by
  obtain ⟨cells, hr, hw⟩ := h.cells_ (by decide)
  have hcells := (hw (intE.good _)).bytes
  subst hcells
  refine (cloneB_own A n c _ w hr (ints_one bs) hn).mono ?_
  rintro e w' ⟨v, rfl, hown, hb⟩
  exact ⟨v, rfl, SlcV.of_own (intE.good _) hown (Rw.of_ints bs) h.1 (own_thawed hown), hb⟩
end Go.Proofs.Ytedgalbhjfmafaa
