/-
  over.Zones.
-/
import Derived.Sort.OwnSortedInts
import Derived.Test.YtedgalbhjfmafaaTwin2
namespace Go.Proofs.Ytedgalbhjfmafaa
open Go.ChangeShapes Go.WideShapes Go.ChangeAt Go.RowKit
set_option linter.unusedVariables false
def srt (zs : List Int) : List Int := zs.mergeSort fun x y => decide (x ≤ y)
theorem srt_length (zs : List Int) : (srt zs).length = zs.length := by simp [srt]
def OwnI (B : Nat) (wr : World) (v : Value) (zs : List Int) : Prop := wr.ownsRow B 3 1 v zs.length (zs.map (Value.int .i64))
theorem OwnI.ints {B : Nat} {wr : World} {v : Value} {zs : List Int} (h : OwnI B wr v zs) : Ints (Fr B wr) wr v zs := SlcV.of_own (intE.good _) h (Rw.of_ints zs) rfl (own_thawed h)
theorem grow_none (w : World) : Go.Sort.grow w #[] = w := by simp [Go.Sort.grow]
theorem sort_own (A : Option Addr) (n cap : Nat) (zs : List Int) (B : Nat) (w : World) (h : OwnI B w (.slice A n cap) zs) (hz : zs.length = n) (hB : B ≤ w.heap.size) (hn : n ≤ 4000000) :
    Calls Try.prog 32 #[.slice A n cap] w fun e w' => e = .returned (.tuple #[]) ∧ OwnI B w' (.slice A n cap) (srt zs) ∧ Below B w w' := by
  subst hz
  rcases h.2 with ⟨hv, h0⟩ | ⟨g, cap', cur, hv, hg, hb, hn1, hcap, hs, ht⟩
  · injection hv with h1 h2 h3
    have : zs = [] := List.eq_nil_of_length_eq_zero h0
    subst this
    refine (Try.slices_Sort_int_none A cap w).mono ?_
    rintro e w' ⟨rfl, rfl⟩
    exact ⟨rfl, by simpa [srt] using h, Below.refl _ _⟩
  · injection hv with h1 h2 h3
    subst h1 h3
    refine (Try.slices_Sort_int g 0 cap zs w (holds_of_blockI hb (by simpa using ht)) (Array.getElem?_eq_some_iff.1 hb).1 (by omega)).mono ?_
    rintro e w' ⟨rfl, q, os, rfl⟩
    refine ⟨rfl, ?_, (Below.refl _ _).grown (grownBy_sortedI _) hB (fun k hk => by cases hk; exact hg)⟩
    have := ownsRow_sortedI (ts := srt zs) (n := q) (os := os) (srt_length zs) hg hb hn1 hcap hs
    show World.ownsRow _ _ _ _ _ (srt zs).length _
    rw [srt_length]
    exact this
theorem own_take {w : World} {B g cap n : Nat} {e : TypeId} {xs : List Value} (h : w.ownsRow B e 1 (.slice (some ⟨g, 0, none⟩) n cap) n xs) {m : Nat} (hm : m ≤ n) : w.ownsRow B e 1 (.slice (some ⟨g, 0, none⟩) m cap) m (xs.take m) := by
  rcases h.2 with ⟨hv, _⟩ | ⟨g', cap', cur, hv, hg, hb, hn1, hcap, hs, ht⟩
  · cases hv
  · cases hv
    refine ⟨by rw [List.length_take, h.1]; omega, .inr ⟨_, _, cur, rfl, hg, hb, by omega, hcap, hs, ?_⟩⟩
    rw [← ht, List.take_take]
    congr 1
    omega
theorem compact_len (zs : List Int) : (Lib.compact zs).length ≤ zs.length := by
  unfold Lib.compact Lib.compactUpTo
  rw [List.length_map]
  exact Nat.le_trans (List.length_filter_le _ _) (by simp)
theorem compact_own (A : Option Addr) (n cap : Nat) (zs : List Int) (B : Nat) (w : World) (h : OwnI B w (.slice A n cap) zs) (hz : zs.length = n) (hB : B ≤ w.heap.size) (hn : n ≤ 4000000) :
    Calls Try.prog 33 #[.slice A n cap] w fun e w' => ∃ v, e = .returned v ∧ OwnI B w' v (Lib.compact zs) ∧ Below B w w' := by
  subst hz
  rcases h.2 with ⟨hv, h0⟩ | ⟨g, cap', cur, hv, hg, hb, hn1, hcap, hs, ht⟩
  · injection hv with h1 h2 h3
    have : zs = [] := List.eq_nil_of_length_eq_zero h0
    subst this
    refine (Try.slices_Compact_int_empty A cap w).mono ?_
    rintro e w' ⟨rfl, rfl⟩
    exact ⟨_, rfl, h, Below.refl _ _⟩
  · injection hv with h1 h2 h3
    subst h1 h3
    refine (Try.slices_Compact_int g 0 cap zs w (holds_of_blockI hb (by simpa using ht)) (by omega) hn1).mono ?_
    rintro e w' ⟨rfl, q, rfl⟩
    have hl : (Lib.compact zs ++ List.replicate (zs.length - (Lib.compact zs).length) 0).length = zs.length := by have := compact_len zs; simp; omega
    have hown := ownsRow_sortedI (n := q) (os := #[]) hl hg hb hn1 hcap hs
    have hgr := grownBy_sortedI (w := w) (g := g) (n := q) (os := #[]) (Lib.compact zs ++ List.replicate (zs.length - (Lib.compact zs).length) 0).toArray
    rw [grow_none] at hown hgr
    refine ⟨_, rfl, ?_, (Below.refl _ _).grown hgr hB (fun k hk => by cases hk; exact hg)⟩
    have := own_take hown (compact_len zs)
    rw [List.map_append, List.take_append_of_le_length (by simp), List.take_of_length_le (by simp)] at this
    exact this
def zonesI (xs : List Img) : List Int := xs.map (·.zone)
def zonesT (xs : List Txn) : List Int := xs.flatMap fun t => zonesI t.images
/-- the zones of all images, rising -/
def zonesOf (xs : List Txn) : List Int := Lib.compact (srt (zonesT xs))
theorem zonesT_take {xs : List Txn} {k : Nat} {t : Txn} (h : xs[k]? = some t) : zonesT (xs.take (k + 1)) = zonesT (xs.take k) ++ zonesI t.images := by
  unfold zonesT
  rw [List.take_add_one, h, List.flatMap_append]
  simp
theorem zonesI_take {xs : List Img} {k : Nat} {t : Img} (h : xs[k]? = some t) : zonesI (xs.take (k + 1)) = zonesI (xs.take k) ++ [t.zone] := by
  unfold zonesI
  rw [List.take_add_one, h]
  simp
set_option maxRecDepth 100000 in
theorem zonesT_len {xs : List Txn} (hx : ∀ t ∈ xs, t.images.length ≤ 1000) : ∀ k, (zonesT (xs.take k)).length ≤ k * 1000
  | 0 => by simp [zonesT]
  | k + 1 => by
    cases h : xs[k]? with
    | none => rw [List.take_add_one, h]; have := zonesT_len hx k; simp; omega
    | some t =>
      rw [zonesT_take h, List.length_append]
      have := zonesT_len hx k
      have := hx t (List.mem_of_getElem? h)
      simp [zonesI]
      omega
theorem own_form {w : World} {base e size n : Nat} {v : Value} {xs : List Value} (h : w.ownsRow base e size v n xs) : ∃ a c, v = .slice a n c := by
  rcases h.2 with ⟨rfl, rfl⟩ | ⟨g, cap, cur, rfl, _⟩
  · exact ⟨_, _, rfl⟩
  · exact ⟨_, _, rfl⟩
theorem own_snoc {B : Nat} {w2 : World} {v2 : Value} {ls bs cs : List Int} {z : Int} (hz : cs = bs ++ [z]) (h : w2.ownsRow B 3 1 v2 ((ls ++ bs).length + 1) ((ls ++ bs).map (Value.int .i64) ++ [.int .i64 z])) : OwnI B w2 v2 (ls ++ cs) := by
  subst hz
  show World.ownsRow _ _ _ _ _ _ _
  rw [← List.append_assoc, List.map_append, List.length_append]
  exact h
theorem news_two (W : World) (o : Obj) (u : Value) (t : TypeId) : ∀ j v, [u][j]? = some v → ((W.alloc o).alloc (.cells #[u] t)).cell? (Addr.add ⟨W.heap.size + 1, 0, none⟩ j) = some v := by
  have h := heap_alloc_new (W.alloc o) (.cells #[u] t)
  rw [World.size_alloc] at h
  exact World.news_of_block (cs := #[u]) (t := t) (fr := (0, 0)) h
set_option maxRecDepth 100000 in
set_option maxHeartbeats 3200000 in
theorem Zones_any (A : Option Addr) (n c : Nat) (xs : List Txn) (p : Nat → Prop) (w : World) (h : Slc 4 txnE p w A n xs) (hn : n ≤ 1000) (hx : ∀ x ∈ xs, x.images.length ≤ 1000) :
    Calls Try.prog 15 #[.slice A n c] w (Gives (fun v w' => OwnI w.heap.size w' v (zonesOf xs)) w) := by
  obtain ⟨i0, hi, hz0, hz1, hz2⟩ := info_parts info3
  have HL := Lib.hid h.1
  have HX := Lib.hid hx
  have HS := Lib.hid h
  have HZL : Hid (∀ k, (zonesT (xs.take k)).length ≤ k * 1000) := zonesT_len hx
  clear hx h
  go_enter Try.func15, Try.ntmps15
  go_wp2_with fail
  go_loopw [3, 10] (fun v i wr => ∃ k : Nat, k ≤ n ∧ i = .int .i64 k ∧ Hid (OwnI w.heap.size wr v (zonesT (xs.take k))) ∧ Hid (Below w.heap.size w wr)) (fun _ i _ => n - (intOf i).toNat)
  case atStart => exact ⟨0, by omega, rfl, World.ownsRow_nil _ _ _ _, Below.refl _ _⟩
  case round =>
    obtain ⟨k, hk, rfl, hO, hB⟩ := hrel
    by_cases hlt : k < n
    · obtain ⟨t, ht⟩ : ∃ t, xs[k]? = some t := ⟨_, List.getElem?_eq_getElem (by rw [HL.out]; exact hlt)⟩
      obtain ⟨b, o, A2, n2, c2, rfl, hp, d0, d1, d2, d3, g1, g2, hs2⟩ := txnE.at_ HS.out ht
      have hl : b < w.heap.size := World.block_lt_of_cell? _ _ d0
      have c0 := (hB.out.cell (p := ⟨b, o + k * 4, none⟩) hl).trans d0
      have c1 := (hB.out.cell (p := ⟨b, o + k * 4 + 1, none⟩) hl).trans d1
      have c2' := (hB.out.cell (p := ⟨b, o + k * 4 + 2, none⟩) hl).trans d2
      have c3 := (hB.out.cell (p := ⟨b, o + k * 4 + 3, none⟩) hl).trans d3
      have hn2 := HX.out t (List.mem_of_getElem? ht)
      have HS2 := Lib.hid hs2
      have HL2 := Lib.hid hs2.1
      have HZT := Lib.hid (zonesT_take ht)
      have hzl := HZL.out k
      have HT := Lib.hid ht
      rw [hs2.1] at hn2
      have i0' : (0 : Int) ≤ (k : Int) := by omega
      have i1' : (k : Int) < (n : Int) := by omega
      have HSZ := Lib.hid hB.out.size
      clear ht hs2 d0 d1 d2 d3 hp
      go_wp2_with fail
      go_loopw [3, 17] (fun v i wi => ∃ j : Nat, j ≤ n2 ∧ i = .int .i64 j ∧ Hid (OwnI w.heap.size wi v (zonesT (xs.take k) ++ zonesI (t.images.take j))) ∧ Hid (Below w.heap.size w wi)) (fun _ i _ => n2 - (intOf i).toNat)
      case atStart =>
        refine ⟨0, by omega, rfl, ?_, ?_⟩
        · have := hO.out.alloc (.cells #[.int .i64 t.seq, .int .i64 t.pos, .int .i64 t.n, .slice A2 n2 c2] 37)
          simpa [zonesI, OwnI, Hid] using this
        · exact hB.out.alloc HSZ.out _
      case round =>
        obtain ⟨j, hj, rfl, hO2, hB2⟩ := hrel
        by_cases hlt2 : j < n2
        · obtain ⟨x, hx⟩ : ∃ x, t.images[j]? = some x := ⟨_, List.getElem?_eq_getElem (by rw [HL2.out]; exact hlt2)⟩
          obtain ⟨b2, o2, A3, n3, c3', rfl, hp2, d0, d1, d2, g3, g4, hs3⟩ := imgE.at_ HS2.out hx
          have hl2 : b2 < w.heap.size := World.block_lt_of_cell? _ _ d0
          have e0 := (hB2.out.cell (p := ⟨b2, o2 + j * 3, none⟩) hl2).trans d0
          have e1 := (hB2.out.cell (p := ⟨b2, o2 + j * 3 + 1, none⟩) hl2).trans d1
          have e2 := (hB2.out.cell (p := ⟨b2, o2 + j * 3 + 2, none⟩) hl2).trans d2
          have HZI := Lib.hid (zonesI_take hx)
          have j0 : (0 : Int) ≤ (j : Int) := by omega
          have j1 : (j : Int) < (n2 : Int) := by omega
          have HSZ2 := Lib.hid hB2.out.size
          have hlen : (zonesT (xs.take k) ++ zonesI (t.images.take j)).length ≤ 1000000 + 1000 := by
            rw [List.length_append]; simp [zonesI]; omega
          have HLEN := Lib.hid hlen
          clear hx hs3 d0 d1 d2 hp2 hlen
          go_wp2_with (at_builtin; (refine wpList_append_any _ rfl (.tmp 21) (.tmp 24) 42 rfl w.heap.size 3 i0 (.int .i64 0) 1 8 Try.underlying42 hi hz0 hz1 hz2 rfl (by decide) _ _ _ rfl (World.ownsRow.alloc (World.ownsRow.alloc hO2.out (.cells #[.int .i64 x.zone, .int .i64 x.what, .slice A3 n3 c3'] 49)) (.cells #[.int .i64 x.zone] 3)) (wr.heap.size + 2) (some ⟨wr.heap.size + 1, 0, none⟩) 1 1 [.int .i64 x.zone] rfl ⟨rfl, fun _ => ⟨_, rfl, by simp, news_two _ _ _ _⟩⟩ (by simp [Value.oneCell']) (by have := HLEN.out; unfold maxLen; omega) (by have := HLEN.out; omega) (by have := HSZ2.out; simp; omega) ?_); intro v2 w2 hown2 hgrow hat; have hO3 : Hid (OwnI w.heap.size w2 v2 (zonesT (xs.take k) ++ zonesI (t.images.take (j + 1)))) := (own_snoc HZI.out hown2); have hB3 : Hid (Below w.heap.size w w2) := ((hB2.out.alloc HSZ2.out _).alloc (by have := HSZ2.out; simp; omega) _).grown hgrow (by have := HSZ2.out; simp; omega) (fun g hg => (World.ownsRow.lt hO2.out g hg).1); clear hown2 hgrow hat)
          go_roundw
          case rel => exact ⟨j + 1, by omega, by go_num, hO3, hB3⟩
          case measure => simp [intOf]; omega
        · obtain rfl : j = n2 := by omega
          have HO3 : Hid (OwnI w.heap.size wr u3 (zonesT (xs.take (k + 1)))) := by
            have h3 := hO2.out
            have h4 : t.images.take j = t.images := List.take_of_length_le (by rw [HL2.out]; exact Nat.le_refl _)
            rw [h4, ← HZT.out] at h3
            exact h3
          clear hO2
          go_wp2_with fail
          go_roundw
          case rel => exact ⟨k + 1, by omega, by go_num, HO3, hB2⟩
          case measure => simp [intOf]; omega
    · obtain rfl : k = n := by omega
      have hO2 : Hid (OwnI w.heap.size wr u3 (zonesT xs)) := by
        have := hO.out
        rw [List.take_of_length_le (by rw [HL.out]; exact Nat.le_refl _)] at this
        exact this
      have hzl := HZL.out k
      rw [List.take_of_length_le (by rw [HL.out]; exact Nat.le_refl _)] at hzl
      obtain ⟨A3, c3, rfl⟩ := own_form hO2.out
      have hm : (zonesT xs).length ≤ 4000000 := by omega
      obtain ⟨m, hm2⟩ : ∃ m, (zonesT xs).length = m := ⟨_, rfl⟩
      have HM := Lib.hid hm2
      have HSZ := Lib.hid hB.out.size
      rw [hm2] at hm ⊢
      clear hO hzl hm2
      go_wp2_with fail
      refine (sort_own _ _ _ _ _ _ (by have := hO2.out; rw [OwnI, HM.out] at this; rw [OwnI, HM.out]; exact this) HM.out HSZ.out hm).mono ?_
      rintro e w1 ⟨rfl, ho1, hb1⟩
      have HO1 := Lib.hid ho1
      have HB1 := Lib.hid hb1
      clear ho1 hb1
      go_wp2_with fail
      refine (compact_own _ _ _ _ _ _ HO1.out (by rw [srt_length]; exact HM.out) (Nat.le_trans HSZ.out HB1.out.size) hm).mono ?_
      rintro e w2 ⟨v, rfl, ho2, hb2⟩
      have HO2 := Lib.hid ho2
      have HB2 : Hid (Below w.heap.size w w2) := (hB.out.trans HB1.out).trans hb2
      clear ho2 hb2
      go_wp2_with fail
      go_ret
      exact ⟨v, rfl, HO2.out, HB2.out⟩
end Go.Proofs.Ytedgalbhjfmafaa
