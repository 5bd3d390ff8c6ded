/-
  put: into a rising list, once.
-/
import Derived.Test.YtedgalbhjfmafaaRef2
namespace Go.Proofs.Ytedgalbhjfmafaa
open Go.ChangeShapes Go.WideShapes Go.ChangeAt Go.RowKit
set_option linter.unusedVariables false
set_option maxHeartbeats 400000 in
theorem twinI_own (A : Option Addr) (n c : Nat) (bs : List Int) (p : Nat → Prop) (w : World) (h : Slc 1 (intE .i64) p w A n bs) (hn : n ≤ 1100000) :
    Calls Try.prog 43 #[.slice A n c] w (Gives (fun v w' => w'.ownsRow w.heap.size 3 1 v n (bs.map (Value.int .i64))) w) := by
  obtain ⟨i0, hi, hz0, hz1, hz2⟩ := info_parts info3
  obtain ⟨cells, hr, hw⟩ := h.cells_ (by decide)
  have hcells := (hw (intE.good _)).bytes
  subst hcells
  have HR := Lib.hid hr
  have HL := Lib.hid h.1
  have HO := Lib.hid (ints_one (q := .i64) bs)
  clear h hr hw
  go_enter Try.func43, Try.ntmps43
  go_wp2_with (at_builtin; (refine wpList_append_any _ rfl (.tmp 4) (.tmp 5) 42 rfl w.heap.size 3 i0 (.int .i64 0) 1 8 Try.underlying42 hi hz0 hz1 hz2 rfl (by decide) _ 0 [] rfl (World.ownsRow_nil _ _ _ _) w.heap.size A n c (bs.map (Value.int .i64)) rfl HR.out HO.out (by unfold maxLen; omega) (by omega) (Nat.le_refl _) ?_); intro v' w1 hown hgrow _)
  go_ret
  rw [Nat.zero_add, List.nil_append] at hown
  exact ⟨v', rfl, hown, (Below.refl _ _).grown hgrow (Nat.le_refl _) (fun k hk => by cases hk)⟩
theorem news_one (W : World) (u : Value) (t : TypeId) : ∀ j v, [u][j]? = some v → (W.alloc (.cells #[u] t)).cell? (Addr.add ⟨W.heap.size, 0, none⟩ j) = some v :=
  World.news_of_block (cs := #[u]) (t := t) (fr := (0, 0)) (heap_alloc_new W (.cells #[u] t))
theorem Slc.front {q : IntKind} {p : Nat → Prop} {w : World} {A : Option Addr} {n k : Nat} {zs : List Int} (h : Slc 1 (intE q) p w A n zs) (hk : k ≤ n) : Slc 1 (intE q) p w A k (zs.take k) := by
  refine ⟨by rw [List.length_take, h.1]; omega, fun h0 => ?_⟩
  obtain ⟨b, o, e, hp, hc, hx⟩ := h.2 (by omega)
  refine ⟨b, o, e, hp, fun i hi => hc i (by omega), fun j x hj => ?_⟩
  have hjk : j < k := by have := (List.getElem?_eq_some_iff.1 hj).1; rw [List.length_take] at this; omega
  rw [List.getElem?_take_of_lt hjk] at hj
  exact hx j x hj
set_option maxRecDepth 100000 in
set_option maxHeartbeats 3200000 in
theorem put_any (A : Option Addr) (n c : Nat) (zs : List Int) (z : Int) (p : Nat → Prop) (w : World) (h : Slc 1 (intE .i64) p w A n zs) (hnc : n ≤ c) (hc : c ≤ maxLen) (hn : n ≤ 1100000) (hr : zs.Pairwise (· < ·)) :
    Calls Try.prog 34 #[.slice A n c, .int .i64 z] w (Gives (fun v w' => Ints (fun _ => True) w' v (putF zs z)) w) := by
  obtain ⟨i0, hi, hz0, hz1, hz2⟩ := info_parts info3
  have HC := Lib.hid hc
  unfold maxLen at hc
  have HS := Lib.hid h
  have HR := Lib.hid hr
  have HL := Lib.hid h.1
  clear h hr
  go_enter Try.func34, Try.ntmps34
  go_wp2_with fail
  go_loopw [5] (fun i wr => ∃ k : Nat, k ≤ n ∧ i = .int .i64 k ∧ Hid (∀ j y, j < k → zs[j]? = some y → y < z) ∧ Below w.heap.size w wr) (fun i _ => n - (intOf i).toNat)
  case atStart => exact ⟨0, by omega, rfl, fun j y hj => absurd hj (by omega), Below.refl _ _⟩
  case round =>
    obtain ⟨k, hk, rfl, hlo, hb⟩ := hrel
    by_cases h8 : k < n
    · obtain ⟨x, hx⟩ : ∃ x, zs[k]? = some x := ⟨_, List.getElem?_eq_getElem (by rw [HL.out]; exact h8)⟩
      obtain ⟨b1, o1, rfl, c1⟩ := ints_at (HS.out.keep (intE.good _) (by decide) (Agree.of_below hb)) hx
      have i0' : (0 : Int) ≤ (k : Int) := by omega
      have i1 : (k : Int) < (n : Int) := by omega
      have hd : decide ((k : Int) < (n : Int)) = true := by simpa using h8
      have HX := Lib.hid hx
      clear hx
      by_cases h9 : x < z
      · have he : decide (x < z) = true := by simpa using h9
        have HLO : Hid (∀ j y, j < k + 1 → zs[j]? = some y → y < z) := fun j y hj hy => by
          by_cases e : j = k
          · subst e; rw [HX.out] at hy; injection hy with hy; omega
          · exact hlo j y (by omega) hy
        go_wp2_with fail
        go_roundw
        case rel => exact ⟨k + 1, by omega, by go_num, HLO, hb⟩
        case measure => simp [intOf]; omega
      · have he : decide (x < z) = false := by simpa using h9
        by_cases h10 : x = z
        · subst h10
          have hf : (x == x) = true := by simp
          have HP : Hid (putF zs x = zs) := putF_here HX.out
          have HF : Hid (Slc 1 (intE .i64) (fun _ => True) wr (some ⟨b1, o1, none⟩) n zs) := (HS.out.keep (intE.good _) (by decide) (Agree.of_below hb)).mono (intE.good _) (fun _ _ => trivial)
          go_wp2_with fail
          go_ret
          exact ⟨_, rfl, by rw [HP.out]; exact ⟨_, _, _, rfl, hnc, HC.out, HF.out⟩, hb⟩
        · have hf : (x == z) = false := beq_eq_false_iff_ne.2 h10
          have HBW := Lib.hid hb
          have HTK : Hid (Slc 1 (intE .i64) p wr (some ⟨b1, o1, none⟩) k (zs.take k)) := (HS.out.keep (intE.good _) (by decide) (Agree.of_below hb)).front hk
          obtain ⟨cells, hrc, hwc⟩ := (HS.out.keep (intE.good _) (by decide) (Agree.of_below hb)).cells_ (by decide)
          have hcells := (hwc (intE.good _)).bytes
          subst hcells
          have hrd := hrc.cut hk hnc
          rw [show (Option.map (fun x : Addr => x.add (k * 1)) (some (⟨b1, o1, none⟩ : Addr))) = some ⟨b1, o1 + k, none⟩ from by simp [add_flat], Nat.mul_one, ← List.map_drop] at hrd
          rw [if_neg (show ¬ c = k by omega)] at hrd
          have HRD := Lib.hid hrd
          have HPF : Hid (putF zs z = zs.take k ++ [z] ++ zs.drop k) := putF_at (by have := HL.out; omega) hlo (fun y hy => by rw [HX.out] at hy; injection hy with hy; omega) HR.out
          have kc : (k : Int) ≤ (c : Int) := by omega
          clear hrc hwc hrd hb hlo
          go_wp2_with fail
          refine (twinI_own _ _ _ (zs.take k) p _ HTK.out (by omega)).mono ?_
          rintro e w1 ⟨v1, rfl, hown, hb1⟩
          obtain ⟨A1, c1', rfl⟩ := own_form hown
          have HOWN := Lib.hid hown
          have HB1 := Lib.hid hb1
          have HSZ1 := Lib.hid hb1.size
          have HBW1 : Hid (Below w.heap.size w w1) := HBW.out.trans (hb1.mono HBW.out.size)
          have hsz0 := Lib.hid HBW.out.size
          clear hown hb1
          go_wp2_with (at_builtin; first | ((refine wpList_append_any _ rfl (.tmp 37) (.tmp 39) 42 rfl wr.heap.size 3 i0 (.int .i64 0) 1 8 Try.underlying42 hi hz0 hz1 hz2 rfl (by decide) _ _ _ rfl (World.ownsRow.alloc HOWN.out (.cells #[.int .i64 z] 3)) (w1.heap.size + 1) (some ⟨w1.heap.size, 0, none⟩) 1 1 [.int .i64 z] rfl ⟨rfl, fun _ => ⟨_, rfl, by simp, news_one _ _ _⟩⟩ (by simp [Value.oneCell']) (by unfold maxLen; omega) (by omega) (by have := HSZ1.out; simp; omega) ?_); intro v2 w2 hown2 hgrow2 hat2; have HOWN2 := Lib.hid hown2; have hbq2 : Below wr.heap.size wr w2 := (HB1.out.alloc HSZ1.out _).grown hgrow2 (by have := HSZ1.out; simp; omega) (fun g hg => (World.ownsRow.lt HOWN.out g hg).1); have HB2 := Lib.hid hbq2; clear hown2 hgrow2 hat2 hbq2) | ((refine wpList_append_any _ rfl (.tmp 41) (.tmp 44) 42 rfl wr.heap.size 3 i0 (.int .i64 0) 1 8 Try.underlying42 hi hz0 hz1 hz2 rfl (by decide) _ _ _ rfl HOWN2.out wr.heap.size _ _ _ ((zs.drop k).map (Value.int .i64)) rfl (HRD.out.below HB2.out) (ints_one _) (by unfold maxLen; omega) (by omega) HB2.out.size ?_); intro v3 w3 hown3 hgrow3 hat3; have HOWN3 := Lib.hid hown3; have hbq3 : Below wr.heap.size wr w3 := HB2.out.grown hgrow3 HB2.out.size (fun g hg => (World.ownsRow.lt HOWN2.out g hg).1); have HB3 := Lib.hid hbq3; clear hown3 hgrow3 hat3 hbq3))
          go_ret
          refine ⟨_, rfl, ?_, HBW.out.trans (HB3.out.mono hsz0.out)⟩
          have h3 := HOWN3.out
          rw [HPF.out, show (zs.take k).map (Value.int .i64) ++ [Value.int .i64 z] ++ (zs.drop k).map (Value.int .i64) = (zs.take k ++ [z] ++ zs.drop k).map (Value.int .i64) by simp] at *
          exact SlcV.of_own (intE.good _) h3 (Rw.of_ints _) (by have := HL.out; simp; omega) (fun _ _ => trivial)
    · obtain rfl : k = n := by omega
      have hd : decide ((k : Int) < (k : Int)) = false := by simp
      have HBW := Lib.hid hb
      have HTK : Hid (Slc 1 (intE .i64) p wr A k (zs.take k)) := (HS.out.keep (intE.good _) (by decide) (Agree.of_below hb)).front hk
      have HPF : Hid (putF zs z = zs.take k ++ [z] ++ zs.drop k) := putF_at (by have := HL.out; omega) hlo (fun y hy => by have := (List.getElem?_eq_some_iff.1 hy).1; have := HL.out; omega) HR.out
      have HRD : ∀ A', Hid (Reads wr wr.heap.size 1 A' 0 ((zs.drop k).map (Value.int .i64))) := fun A' => ⟨by have := HL.out; simp; omega, fun h => absurd h (by omega)⟩
      have kc : (k : Int) ≤ (c : Int) := by omega
      clear hb hlo
      rcases A with _ | ad
      ·
        go_wp2_with fail
        refine (twinI_own _ _ _ (zs.take k) p _ HTK.out (by omega)).mono ?_
        rintro e w1 ⟨v1, rfl, hown, hb1⟩
        obtain ⟨A1, c1', rfl⟩ := own_form hown
        have HOWN := Lib.hid hown
        have HB1 := Lib.hid hb1
        have HSZ1 := Lib.hid hb1.size
        have HBW1 : Hid (Below w.heap.size w w1) := HBW.out.trans (hb1.mono HBW.out.size)
        have hsz0 := Lib.hid HBW.out.size
        clear hown hb1
        go_wp2_with (at_builtin; first | ((refine wpList_append_any _ rfl (.tmp 37) (.tmp 39) 42 rfl wr.heap.size 3 i0 (.int .i64 0) 1 8 Try.underlying42 hi hz0 hz1 hz2 rfl (by decide) _ _ _ rfl (World.ownsRow.alloc HOWN.out (.cells #[.int .i64 z] 3)) (w1.heap.size + 1) (some ⟨w1.heap.size, 0, none⟩) 1 1 [.int .i64 z] rfl ⟨rfl, fun _ => ⟨_, rfl, by simp, news_one _ _ _⟩⟩ (by simp [Value.oneCell']) (by unfold maxLen; omega) (by omega) (by have := HSZ1.out; simp; omega) ?_); intro v2 w2 hown2 hgrow2 hat2; have HOWN2 := Lib.hid hown2; have hbq2 : Below wr.heap.size wr w2 := (HB1.out.alloc HSZ1.out _).grown hgrow2 (by have := HSZ1.out; simp; omega) (fun g hg => (World.ownsRow.lt HOWN.out g hg).1); have HB2 := Lib.hid hbq2; clear hown2 hgrow2 hat2 hbq2) | ((refine wpList_append_any _ rfl (.tmp 41) (.tmp 44) 42 rfl wr.heap.size 3 i0 (.int .i64 0) 1 8 Try.underlying42 hi hz0 hz1 hz2 rfl (by decide) _ _ _ rfl HOWN2.out wr.heap.size _ _ _ ((zs.drop k).map (Value.int .i64)) rfl ((HRD _).out.below HB2.out) (ints_one _) (by unfold maxLen; omega) (by omega) HB2.out.size ?_); intro v3 w3 hown3 hgrow3 hat3; have HOWN3 := Lib.hid hown3; have hbq3 : Below wr.heap.size wr w3 := HB2.out.grown hgrow3 HB2.out.size (fun g hg => (World.ownsRow.lt HOWN2.out g hg).1); have HB3 := Lib.hid hbq3; clear hown3 hgrow3 hat3 hbq3))
        go_ret
        refine ⟨_, rfl, ?_, HBW.out.trans (HB3.out.mono hsz0.out)⟩
        have h3 := HOWN3.out
        rw [HPF.out, show (zs.take k).map (Value.int .i64) ++ [Value.int .i64 z] ++ (zs.drop k).map (Value.int .i64) = (zs.take k ++ [z] ++ zs.drop k).map (Value.int .i64) by simp] at *
        exact SlcV.of_own (intE.good _) h3 (Rw.of_ints _) (by have := HL.out; simp; omega) (fun _ _ => trivial)
      · obtain ⟨A5, hA5⟩ : ∃ A5, (if c = k then some ad else some (ad.add k)) = A5 := ⟨_, rfl⟩
        go_wp2_with fail
        refine (twinI_own _ _ _ (zs.take k) p _ HTK.out (by omega)).mono ?_
        rintro e w1 ⟨v1, rfl, hown, hb1⟩
        obtain ⟨A1, c1', rfl⟩ := own_form hown
        have HOWN := Lib.hid hown
        have HB1 := Lib.hid hb1
        have HSZ1 := Lib.hid hb1.size
        have HBW1 : Hid (Below w.heap.size w w1) := HBW.out.trans (hb1.mono HBW.out.size)
        have hsz0 := Lib.hid HBW.out.size
        clear hown hb1
        go_wp2_with (at_builtin; first | ((refine wpList_append_any _ rfl (.tmp 37) (.tmp 39) 42 rfl wr.heap.size 3 i0 (.int .i64 0) 1 8 Try.underlying42 hi hz0 hz1 hz2 rfl (by decide) _ _ _ rfl (World.ownsRow.alloc HOWN.out (.cells #[.int .i64 z] 3)) (w1.heap.size + 1) (some ⟨w1.heap.size, 0, none⟩) 1 1 [.int .i64 z] rfl ⟨rfl, fun _ => ⟨_, rfl, by simp, news_one _ _ _⟩⟩ (by simp [Value.oneCell']) (by unfold maxLen; omega) (by omega) (by have := HSZ1.out; simp; omega) ?_); intro v2 w2 hown2 hgrow2 hat2; have HOWN2 := Lib.hid hown2; have hbq2 : Below wr.heap.size wr w2 := (HB1.out.alloc HSZ1.out _).grown hgrow2 (by have := HSZ1.out; simp; omega) (fun g hg => (World.ownsRow.lt HOWN.out g hg).1); have HB2 := Lib.hid hbq2; clear hown2 hgrow2 hat2 hbq2) | ((refine wpList_append_any _ rfl (.tmp 41) (.tmp 44) 42 rfl wr.heap.size 3 i0 (.int .i64 0) 1 8 Try.underlying42 hi hz0 hz1 hz2 rfl (by decide) _ _ _ rfl HOWN2.out wr.heap.size _ _ _ ((zs.drop k).map (Value.int .i64)) rfl ((HRD _).out.below HB2.out) (ints_one _) (by unfold maxLen; omega) (by omega) HB2.out.size ?_); intro v3 w3 hown3 hgrow3 hat3; have HOWN3 := Lib.hid hown3; have hbq3 : Below wr.heap.size wr w3 := HB2.out.grown hgrow3 HB2.out.size (fun g hg => (World.ownsRow.lt HOWN2.out g hg).1); have HB3 := Lib.hid hbq3; clear hown3 hgrow3 hat3 hbq3))
        go_ret
        refine ⟨_, rfl, ?_, HBW.out.trans (HB3.out.mono hsz0.out)⟩
        have h3 := HOWN3.out
        rw [HPF.out, show (zs.take k).map (Value.int .i64) ++ [Value.int .i64 z] ++ (zs.drop k).map (Value.int .i64) = (zs.take k ++ [z] ++ zs.drop k).map (Value.int .i64) by simp] at *
        exact SlcV.of_own (intE.good _) h3 (Rw.of_ints _) (by have := HL.out; simp; omega) (fun _ _ => trivial)
theorem tw_len (f : Int → Bool) (l : List Int) : (l.takeWhile f).length + (l.dropWhile f).length = l.length := by
  rw [← List.length_append, List.takeWhile_append_dropWhile]
theorem putF_len (l : List Int) (x : Int) : (putF l x).length ≤ l.length + 1 := by
  unfold putF
  split
  · omega
  · have := tw_len (fun y => decide (y < x)) l
    simp only [List.length_append, List.length_singleton]
    omega
theorem putAll_len (zs : List Int) : ∀ l : List Int, (zs.foldl putF l).length ≤ l.length + zs.length := by
  induction zs with
  | nil => intro l; simp
  | cons z zs ih =>
    intro l
    have := ih (putF l z)
    have := putF_len l z
    rw [List.foldl_cons, List.length_cons]
    omega
theorem putAll_snoc {zs ys us : List Int} {z : Int} (h : ys = us ++ [z]) : (zs ++ ys).foldl putF [] = putF ((zs ++ us).foldl putF []) z := by
  rw [h, ← List.append_assoc, List.foldl_append]
  rfl
set_option maxRecDepth 100000 in
set_option maxHeartbeats 3200000 in
theorem rZones_any (A : Option Addr) (n c : Nat) (xs : List Txn) (p : Nat → Prop) (w : World) (h : Slc 4 txnE p w A n xs) (hn : n ≤ 1000) (hx : ∀ x ∈ xs, x.images.length ≤ 1000) :
    Calls Try.prog 16 #[.slice A n c] w (Gives (fun v w' => Ints (fun _ => True) w' v (zonesOf xs)) w) := by
  rw [← zones_same]
  have HL := Lib.hid h.1
  have HX := Lib.hid hx
  have HS := Lib.hid h
  have HZL : Hid (∀ k, (zonesT (xs.take k)).length ≤ k * 1000) := zonesT_len hx
  clear hx h
  go_enter Try.func16, Try.ntmps16
  go_wp2_with fail
  go_loopw [3, 4] (fun v i wr => ∃ k : Nat, k ≤ n ∧ i = .int .i64 k ∧ Hid (Ints (fun _ => True) wr v ((zonesT (xs.take k)).foldl putF [])) ∧ Hid (Below w.heap.size w wr)) (fun _ i _ => n - (intOf i).toNat)
  case atStart => exact ⟨0, by omega, rfl, SlcV.nil_, Below.refl _ _⟩
  case round =>
    obtain ⟨k, hk, rfl, hO, hB⟩ := hrel
    by_cases hlt : k < n
    · obtain ⟨t, ht⟩ : ∃ t, xs[k]? = some t := ⟨_, List.getElem?_eq_getElem (by rw [HL.out]; exact hlt)⟩
      obtain ⟨b, o, A2, n2, c2, rfl, hp, d0, d1, d2, d3, g1, g2, hs2⟩ := txnE.at_ HS.out ht
      have hl : b < w.heap.size := World.block_lt_of_cell? _ _ d0
      have hn2 := HX.out t (List.mem_of_getElem? ht)
      have HS2 := Lib.hid hs2
      have HL2 := Lib.hid hs2.1
      have HD3 := Lib.hid d3
      have HZT := Lib.hid (zonesT_take ht)
      have hzl := HZL.out k
      rw [hs2.1] at hn2
      have i0' : (0 : Int) ≤ (k : Int) := by omega
      have i1' : (k : Int) < (n : Int) := by omega
      clear ht hs2 d0 d1 d2 d3 hp
      obtain ⟨wo, rfl⟩ : ∃ wo, wo = wr := ⟨_, rfl⟩
      go_wp2_with fail
      go_loopw [3, 5] (fun v i wi => ∃ j : Nat, j ≤ n2 ∧ i = .int .i64 j ∧ Hid (Ints (fun _ => True) wi v ((zonesT (xs.take k) ++ zonesI (t.images.take j)).foldl putF [])) ∧ Hid (Below w.heap.size w wi)) (fun _ i _ => n2 - (intOf i).toNat)
      case atStart =>
        refine ⟨0, by omega, rfl, ?_, hB.out⟩
        have := hO.out
        simpa [zonesI, Hid] using this
      case round =>
        obtain ⟨j, hj, rfl, hO2, hB2⟩ := hrel
        have e3 := (hB2.out.cell (p := ⟨b, o + k * 4 + 3, none⟩) hl).trans HD3.out
        by_cases hlt2 : j < n2
        · obtain ⟨x, hx⟩ : ∃ x, t.images[j]? = some x := ⟨_, List.getElem?_eq_getElem (by rw [HL2.out]; exact hlt2)⟩
          obtain ⟨b2, o2, A3, n3, c3', rfl, hp2, d0, d1, d2, g3, g4, hs3⟩ := imgE.at_ HS2.out hx
          have hl2 : b2 < w.heap.size := World.block_lt_of_cell? _ _ d0
          have e0 := (hB2.out.cell (p := ⟨b2, o2 + j * 3, none⟩) hl2).trans d0
          have HZI := Lib.hid (zonesI_take hx)
          have j0 : (0 : Int) ≤ (j : Int) := by omega
          have j1 : (j : Int) < (n2 : Int) := by omega
          obtain ⟨A9, n9, c9, rfl, q1, q2, hs9⟩ := hO2.out
          have hlen : n9 ≤ 1100000 := by
            have h1 := putAll_len (zonesT (xs.take k) ++ zonesI (t.images.take j)) []
            rw [hs9.1, List.length_append] at h1
            simp [zonesI] at h1
            omega
          have HS9 := Lib.hid hs9
          have HQ2 := Lib.hid q2
          have HPW : Hid (((zonesT (xs.take k) ++ zonesI (t.images.take j)).foldl putF []).Pairwise (· < ·)) := putAll_rises _ _ List.Pairwise.nil
          clear hx hs3 d0 d1 d2 hp2 hs9 q2
          go_wp2_with fail
          refine (put_any _ _ _ _ x.zone (fun _ => True) _ HS9.out q1 HQ2.out hlen HPW.out).mono ?_
          rintro e w2 ⟨v2, rfl, hi2, hb2⟩
          have hO3 : Hid (Ints (fun _ => True) w2 v2 ((zonesT (xs.take k) ++ zonesI (t.images.take (j + 1))).foldl putF [])) := by
            rw [putAll_snoc HZI.out]
            exact hi2
          have hB3 : Hid (Below w.heap.size w w2) := hB2.out.trans (hb2.mono hB2.out.size)
          clear hi2 hb2
          go_wp2_with fail
          go_roundw
          case rel => exact ⟨j + 1, by omega, by go_num, hO3, hB3⟩
          case measure => simp [intOf]; omega
        · obtain rfl : j = n2 := by omega
          have HO3 : Hid (Ints (fun _ => True) wr u3 ((zonesT (xs.take (k + 1))).foldl putF [])) := by
            have h3 := hO2.out
            have h4 : t.images.take j = t.images := List.take_of_length_le (by rw [HL2.out]; exact Nat.le_refl _)
            rw [h4, ← HZT.out] at h3
            exact h3
          clear hO2
          go_wp2_with fail
          go_roundw
          case rel => exact ⟨k + 1, by omega, by go_num, HO3, hB2⟩
          case measure => simp [intOf]; omega
    · obtain rfl : k = n := by omega
      have hO2 : Hid (Ints (fun _ => True) wr u3 ((zonesT xs).foldl putF [])) := by
        have := hO.out
        rw [List.take_of_length_le (by rw [HL.out]; exact Nat.le_refl _)] at this
        exact this
      clear hO
      go_wp2_with fail
      go_ret
      exact ⟨_, rfl, hO2.out, hB.out⟩
end Go.Proofs.Ytedgalbhjfmafaa
