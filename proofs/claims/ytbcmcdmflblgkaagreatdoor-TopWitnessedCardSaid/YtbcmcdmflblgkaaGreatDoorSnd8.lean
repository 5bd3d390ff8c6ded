/-
  Snd6: append, copy, clear.
  Snd7: an operation of the model, whichever it is.
  Snd8: an operation over the frame's slots; a region that does not draw.
-/
import Derived.Test.YtbcmcdmflblgkaaGreatDoorSnd5
import Derived.Laws.AppendOwn
import Derived.Tactics
namespace Go.Proofs.YtbcmcdmflblgkaaGreatDoor
namespace Ev
open Go.RowKit
set_option linter.unusedVariables false
set_option linter.unusedSectionVars false
variable [bs : Base]
section
variable {P : Program} {w : World}
def upd (ρ : Rho) (b : Po) (p : Nat × Nat × Nat) : Rho := fun c => if c = b then some p else ρ c
theorem upd_ext {ρ : Rho} {h : H} (hw : WR ρ h w) (p : Nat × Nat × Nat) : Ext ρ (upd ρ h.nx p) := fun b q hq => by
  unfold upd
  split
  · rename_i e
    subst e
    rw [hw.new _ (Nat.le_refl _)] at hq
    cases hq
  · exact hq
theorem upd_own {ρ : Rho} {h : H} (hw : WR ρ h w) {b : Po} {B s L : Nat} (hB : bs.Fr B) : ∀ c C q, upd ρ b (B, s, L) c = some (C, q) → bs.Fr C := by
  intro c C q h1
  unfold upd at h1
  split at h1
  · injection h1 with h1
    injection h1 with e1 _
    rw [← e1]
    exact hB
  · exact hw.own c C q h1
theorem upd_lt {ρ : Rho} {h : H} (hw : WR ρ h w) {w' : World} {b : Po} {B s L : Nat} (hB : B < w'.heap.size) (hs : w.heap.size ≤ w'.heap.size) : ∀ c C q, upd ρ b (B, s, L) c = some (C, q) → C < w'.heap.size := by
  intro c C q h1
  unfold upd at h1
  split at h1
  · injection h1 with h1
    injection h1 with e1 _
    rw [← e1]
    exact hB
  · exact Nat.lt_of_lt_of_le (hw.lt c C q h1) hs
theorem upd_st {ρ : Rho} {h h' : H} (p : Nat × Nat × Nat) (hup : h'.nx.nat = h.nx.nat + 1) (hk : ∀ b, b.nat < h.nx.nat → ρ b = none → h'.get b = h.get b) : St ρ h (upd ρ h.nx p) h' :=
  ⟨fun b hb => if_neg (fun e => by rw [e] at hb; omega), by omega, hk⟩
theorem upd_new {ρ : Rho} {h h' : H} (hw : WR ρ h w) (p : Nat × Nat × Nat) (hup : h'.nx.nat = h.nx.nat + 1) : ∀ b, h'.nx.nat ≤ b.nat → upd ρ h.nx p b = none := fun b hb => by
  unfold upd
  rw [if_neg (fun e => by rw [e] at hb; omega)]
  exact hw.new b (by omega)
/-- a new block -/
theorem WR.fresh {ρ : Rho} {h : H} (hw : WR ρ h w) {cs : List V} {arr : Array Value} {e : TypeId} (hc : ∀ (i : Nat) (v : V), cs[i]? = some v → ∃ u : Value, arr[i]? = some u ∧ VR ρ v u) :
    WR (upd ρ h.nx (w.heap.size, 0, arr.size)) (h.new cs) (w.alloc (.cells arr e)) ∧ St ρ h (upd ρ h.nx (w.heap.size, 0, arr.size)) (h.new cs) := by
  have hext := upd_ext hw (w.heap.size, 0, arr.size)
  have hlt : ∀ {B : Nat} {o : Obj}, w.heap[B]? = some o → B < w.heap.size := fun h => (Array.getElem?_eq_some_iff.1 h).1
  have hold : ∀ {B : Nat} {o : Obj}, w.heap[B]? = some o → (w.alloc (.cells arr e)).heap[B]? = some o := fun {B o} h => by
    have := hlt h
    simp only [World.alloc]
    rw [Array.getElem?_push_lt this]
    rw [← h, Array.getElem?_eq_getElem this]
  refine ⟨⟨fun c ds hcc B s L hB => ?_, fun c c' ds ds' hcc hcc' B q q' h1 h2 => ?_, upd_new hw _ (H.nx_new h cs), upd_own hw (bs.fr _ hw.below.size), hw.below.alloc _, upd_lt hw (by simp) (by simp)⟩, upd_st _ (H.nx_new h cs) (fun b hb _ => by rw [H.get_new, if_neg (fun e => by rw [e] at hb; omega)])⟩
  · rw [H.get_new] at hcc
    unfold upd at hB
    split at hcc
    · rename_i e'
      subst e'
      rw [if_pos rfl] at hB
      injection hcc with hcc
      injection hB with hB
      injection hB with e1 e2
      injection e2 with e2 e3
      subst hcc e1 e2 e3
      refine ⟨arr, e, heap_alloc_new w _, rfl, fun i v hv => ?_⟩
      obtain ⟨u, hu, hvu⟩ := hc i v hv
      exact ⟨u, by rw [Nat.zero_add]; exact hu, hvu.ext hext⟩
    · rename_i hne
      rw [if_neg hne] at hB
      obtain ⟨arr', e', ha, hL, hcell⟩ := hw.cells c ds hcc B s L hB
      exact ⟨arr', e', hold ha, hL, fun i v hv => by obtain ⟨u, hu, hvu⟩ := hcell i v hv; exact ⟨u, hu, hvu.ext hext⟩⟩
  · rw [H.get_new] at hcc hcc'
    unfold upd at h1 h2
    by_cases e1 : c = h.nx <;> by_cases e2 : c' = h.nx
    · rw [e1, e2]
    · rw [if_pos e1] at h1
      rw [if_neg e2] at h2 hcc'
      injection h1 with h1
      injection h1 with h1 _
      obtain ⟨s', L'⟩ := q'
      obtain ⟨arr', e', ha, _⟩ := hw.cells c' ds' hcc' B s' L' h2
      have := hlt ha
      omega
    · rw [if_pos e2] at h2
      rw [if_neg e1] at h1 hcc
      injection h2 with h2
      injection h2 with h2 _
      obtain ⟨s', L'⟩ := q
      obtain ⟨arr', e', ha, _⟩ := hw.cells c ds hcc B s' L' h1
      have := hlt ha
      omega
    · rw [if_neg e1] at h1 hcc
      rw [if_neg e2] at h2 hcc'
      exact hw.inj c c' ds ds' hcc hcc' B q q' h1 h2
/-- fewer blocks -/
theorem WR.fewer {ρ : Rho} {h h' : H} (hw : WR ρ h w) (hs : ∀ b cs, h'.get b = some cs → h.get b = some cs) (hn : h'.nx.nat = h.nx.nat) : WR ρ h' w :=
  ⟨fun b cs hb => hw.cells b cs (hs b cs hb), fun b b' cs cs' hb hb' => hw.inj b b' cs cs' (hs _ _ hb) (hs _ _ hb'), fun b hb => hw.new b (by omega), hw.own, hw.below, hw.lt⟩
/-- a block goes over to another number, and some cells of it anew -/
theorem WR.steal {ρ : Rho} {h : H} (hw : WR ρ h w) {b : Po} {ds : List V} {B s L : Nat} {arr : Array Value} {e : TypeId} (hb : h.get b = some ds) (hr : ρ b = some (B, s, L)) (ha : w.heap[B]? = some (.cells arr e (0, 0)))
    {o : Nat} {old new : List V} {olds news : List Value} (ho : VRs ρ old olds) (hn : VRs ρ new news) (hold : ∀ j u, olds[j]? = some u → arr[s + o + j]? = some u) (hsz : s + o + olds.length + news.length ≤ arr.size) :
    WR (upd ρ h.nx (B, s + o, L)) ((h.put b none).new (old ++ new)) (w.setRow B (arr.toList.take (s + o + olds.length) ++ news ++ arr.toList.drop (s + o + olds.length + news.length)).toArray) ∧ St ρ h (upd ρ h.nx (B, s + o, L)) ((h.put b none).new (old ++ new)) := by
  have hext := upd_ext hw (B, s + o, L)
  have hup : ((h.put b none).new (old ++ new)).nx.nat = h.nx.nat + 1 := H.nx_new _ _
  have hget : ∀ c, ((h.put b none).new (old ++ new)).get c = if c = h.nx then some (old ++ new) else if c = b then none else h.get c := fun c => by rw [H.get_new, H.get_put]; rfl
  obtain ⟨arr0, e0, ha0, hL, _⟩ := hw.cells b ds hb B s L hr
  rw [ha] at ha0
  injection ha0 with ha0
  injection ha0 with e3 _ _
  subst e3
  have hother : ∀ c cs, c ≠ b → h.get c = some cs → ∀ C q, ρ c = some (C, q) → C ≠ B := fun c cs hcb hc C q hq e => hcb (hw.inj c b cs ds hc hb B q (s, L) (by rw [← e]; exact hq) hr)
  refine ⟨⟨fun c cs hc C t Lt hct => ?_, fun c c' cs cs' hc hc' C q q' h1 h2 => ?_, upd_new hw _ hup, upd_own hw (hw.own _ _ _ hr), below_setRow hw.below (hw.own _ _ _ hr), upd_lt hw (by simpa [World.setRow] using hw.lt _ _ _ hr) (by simp [World.setRow])⟩, upd_st _ hup (fun c hc hn => by
    rw [hget, if_neg (fun e => by rw [e] at hc; omega), if_neg (fun e => by rw [e, hr] at hn; cases hn)])⟩
  · rw [hget] at hc
    unfold upd at hct
    split at hc
    · rename_i e'
      subst e'
      rw [if_pos rfl] at hct
      injection hc with hc
      injection hct with hct
      injection hct with e1 e2
      injection e2 with e2 e4
      subst hc e1 e2 e4
      refine ⟨_, e, heap_setRow_at ha, by simp; omega, fun i v hv => ?_⟩
      have hs1 : (arr.toList.take (s + o + olds.length)).length = s + o + olds.length := by simp; omega
      simp only [List.getElem?_toArray, List.append_assoc]
      rcases Nat.lt_or_ge i old.length with hi | hi
      · rw [List.getElem?_append_left hi] at hv
        obtain ⟨u, hu, hvu⟩ := ho.at_ hv
        have hol := ho.1
        refine ⟨u, ?_, hvu.ext hext⟩
        rw [List.getElem?_append_left (by rw [hs1]; omega), List.getElem?_take_of_lt (by omega)]
        simpa using hold i u hu
      · rw [List.getElem?_append_right hi] at hv
        obtain ⟨u, hu, hvu⟩ := hn.at_ hv
        have hol := ho.1
        have hlt := (List.getElem?_eq_some_iff.1 hu).1
        refine ⟨u, ?_, hvu.ext hext⟩
        rw [List.getElem?_append_right (by rw [hs1]; omega), hs1, List.getElem?_append_left (by omega)]
        have : s + o + i - (s + o + olds.length) = i - old.length := by omega
        rw [this]
        exact hu
    · split at hc
      · cases hc
      · rename_i hne hcb
        rw [if_neg hne] at hct
        obtain ⟨arr', e', ha', hL', hcell⟩ := hw.cells c cs hc C t Lt hct
        exact ⟨arr', e', (heap_setRow_ne (hother c cs hcb hc C _ hct)).trans ha', hL', fun i v hv => by obtain ⟨u, hu, hvu⟩ := hcell i v hv; exact ⟨u, hu, hvu.ext hext⟩⟩
  · rw [hget] at hc hc'
    unfold upd at h1 h2
    by_cases e1 : c = h.nx <;> by_cases e2 : c' = h.nx
    · rw [e1, e2]
    · rw [if_pos e1] at h1
      rw [if_neg e2] at h2 hc'
      injection h1 with h1
      injection h1 with h1 _
      split at hc'
      · cases hc'
      · rename_i hcb
        exact absurd h1.symm (hother c' cs' hcb hc' C q' h2)
    · rw [if_pos e2] at h2
      rw [if_neg e1] at h1 hc
      injection h2 with h2
      injection h2 with h2 _
      split at hc
      · cases hc
      · rename_i hcb
        exact absurd h2.symm (hother c cs hcb hc C q h1)
    · rw [if_neg e1] at h1 hc
      rw [if_neg e2] at h2 hc'
      split at hc
      · cases hc
      · split at hc'
        · cases hc'
        · exact hw.inj c c' cs cs' hc hc' C q q' h1 h2

/-! ### append -/
/-- what an append of 'x' does to any slice -/
structure AppRuns (P : Program) (w : World) (t u ty e : TypeId) (i : TypeInfo) (y x : Value) (m : Nat) (news : List Value) : Prop where
  nil : m = 0 → (Builtin.append_ #[t, u] ty #[.slice none 0 0, x]).run P w = .ok (.slice none 0 0) w
  room : ∀ (ad : Addr) (n c : Nat) (w' : World), n + m ≤ c → (storeCells (ad.add (n * i.size)) news).run P w = .ok () w' → (Builtin.append_ #[t, u] ty #[.slice (some ad) n c, x]).run P w = .ok (.slice (some ad) (n + m) c) w'
  grow : ∀ (A : Option Addr) (n c : Nat) (olds : List Value), (A = none → n = 0 ∧ c = 0) → olds.length = n * i.size → (∀ a, A = some a → ∀ j v, olds[j]? = some v → w.cell? (a.add j) = some v) → c < n + m → 0 < m → n + m ≤ 1000000 → (n + m) * i.bytes ≤ 1000000 →
    (Builtin.append_ #[t, u] ty #[.slice A n c, x]).run P w = .ok (.slice (some ⟨w.heap.size, 0, none⟩) (n + m) (grownCap w (n + m) c e)) (w.drew.alloc (.cells (olds.toArray ++ news.toArray ++ Builtin.zeroCells y.cells (grownCap w (n + m) c e - (n + m))) e))
theorem appRuns_slice {t ty e : TypeId} {i : TypeInfo} {y : Value} (ht : P.underlying t = some (.slice e)) (hi : P.info? e = some i) (hy : i.zero = some y) {A : Option Addr} {m c : Nat} {news : List Value} (hl : news.length = m * i.size)
    (hc : 0 < m → ∃ a, A = some a ∧ ∀ j x, news[j]? = some x → w.cell? (a.add j) = some x) : AppRuns P w t t ty e i y (.slice A m c) m news where
  nil := fun h0 => by
    subst h0
    have hf := run_first (P := P) (w := w) (c := c) hl hc
    simp [Builtin.append_, run_underlying ht, sizeOf, typeInfo, hi, Builtin.lenOf, hf]
  room := fun ad n c' w' hn hst => by
    have hf := run_first (P := P) (w := w) (c := c) hl hc
    simp [Builtin.append_, run_underlying ht, sizeOf, typeInfo, hi, Builtin.lenOf, hf, hn, hst]
  grow := fun A' n c' olds hA hlo hcell hg hm h1 h2 => by
    obtain ⟨a, rfl, hnews⟩ := hc hm
    rcases A' with _ | b
    · obtain ⟨rfl, rfl⟩ := hA rfl
      have ho : olds = [] := List.eq_nil_of_length_eq_zero (by simpa using hlo)
      subst ho
      have := run_append_nil (P := P) w t ty e i y ht hi hy a m c news hl hnews hm (by omega) (by rw [Nat.zero_add] at h2; omega)
      simpa using this
    · exact run_append_grow (P := P) w t ty e i y ht hi hy b n c' olds hlo (hcell b rfl) a m c news hl hnews hg (by omega) (growslice_fits hg (by omega))
theorem zeroCells_eq (y : Array Value) (n : Nat) : Builtin.zeroCells y n = madeCells y (n * y.size) := rfl
theorem appRuns_make {t u ty e : TypeId} {k : IntKind} {i : TypeInfo} {y : Value} (ht : P.underlying t = some (.slice e)) (hu : P.underlying u = some (.int k)) (hi : P.info? e = some i) (hy : i.zero = some y) (hys : y.cells.size = i.size) {kx : IntKind} {m : Nat} (hm : m ≤ 100000) (hb : m * i.bytes ≤ 1000000) :
    AppRuns P w t u ty e i y (.int kx (Int.ofNat m)) m (Builtin.zeroCells y.cells m).toList := by
  have wm : IntKind.i64.wrap (m : Int) = (m : Int) := by rw [IntKind.wrap_i64]; omega
  have n1 : ¬ ((m : Int) < 0) := by omega
  have n2 : ¬ (281474976710656 < (m : Int) * (i.bytes : Int)) := by
    have : ((m * i.bytes : Nat) : Int) ≤ ((1000000 : Nat) : Int) := Int.ofNat_le.2 hb
    rw [Int.natCast_mul] at this
    omega
  have hz0 : m * i.size = 0 → Builtin.zeroCells y.cells m = #[] := fun h => by
    rw [zeroCells_eq, hys, h]
    simp [madeCells]
  have happ : ∀ w : World, (if m * i.size = 0 then (pure #[] : Sem (Array Value)) else do pure (Builtin.zeroCells (← zeroValue e).cells m)).run P w = .ok (Builtin.zeroCells y.cells m) w := fun w => by
    split
    · rename_i h; rw [hz0 h]; rfl
    · simp [zeroValue, typeInfo, hi, hy]
  refine ⟨fun h0 => ?_, fun ad n c' w' hn hst => ?_, fun A' n c' olds hA hlo hcell hg hm0 h1 h2 => ?_⟩
  · subst h0
    have w0 : IntKind.i64.wrap 0 = 0 := by rw [IntKind.wrap_i64]; omega
    simp [Builtin.append_, run_underlying ht, run_underlying hu, sizeOf, typeInfo, hi, asInt, asIntOf, w0]
  · by_cases hmz : m = 0 ∨ i.size = 0
    · have hmz' : m * i.size = 0 := by rcases hmz with h | h <;> simp [h]
      rw [hz0 hmz'] at hst
      simp only [storeCells] at hst
      have hst' : (storeCells (ad.add (n * i.size)) []).run P w = .ok () w' := hst
      simp [Builtin.append_, run_underlying ht, run_underlying hu, sizeOf, typeInfo, hi, asInt, asIntOf, wm, n1, n2, hn, hst']
      exact fun h => absurd hmz' h
    · have hmz2 : ¬ (m * i.size = 0) := fun h => hmz (Nat.mul_eq_zero.1 h)
      simp [Builtin.append_, run_underlying ht, run_underlying hu, sizeOf, typeInfo, hi, asInt, asIntOf, wm, n1, n2, hn, hmz2, zeroValue, hy, hst]
  · have hn : ¬ (n + m ≤ c') := by omega
    have h63' : ¬ (9223372036854775807 < ((n : Int) + (m : Int))) := by omega
    have h48' : ¬ (281474976710656 < Builtin.nextslicecap (n + m) c' * i.bytes) := by
      have := growslice_fits (need := n + m) (old := c') (bytes := i.bytes) (by omega) (by omega)
      omega
    have hfo : (Builtin.firstCells i.size n (.slice A' n c')).run P w.drew = .ok olds.toArray w.drew := by
      rcases A' with _ | b
      · obtain ⟨rfl, rfl⟩ := hA rfl
        have ho : olds = [] := List.eq_nil_of_length_eq_zero (by simpa using hlo)
        subst ho
        simp [Builtin.firstCells]
      · exact run_firstCells_some (P := P) w.drew i.size n b n c' olds hlo (by simpa using hcell b rfl)
    have hfin : ∀ a b : Array Value, a ++ b = a ++ b := fun _ _ => rfl
    by_cases hmz : m = 0 ∨ i.size = 0
    · have hmz' : m * i.size = 0 := by rcases hmz with h | h <;> simp [h]
      rw [hz0 hmz']
      simp [Builtin.append_, run_underlying ht, run_underlying hu, sizeOf, typeInfo, hi, asInt, asIntOf, wm, n1, n2, hn, zeroValue, hy, h63', h48', Question.forced, hfo, newRow, grownCap]
      exact fun h => absurd hmz' h
    · have hmz2 : ¬ (m * i.size = 0) := fun h => hmz (Nat.mul_eq_zero.1 h)
      simp [Builtin.append_, run_underlying ht, run_underlying hu, sizeOf, typeInfo, hi, asInt, asIntOf, wm, n1, n2, hn, hmz2, zeroValue, hy, h63', h48', Question.forced, hfo, newRow, grownCap]
theorem zeros_one {z : List V} (n : Nat) (h : (zeros n z).all V.one = true) : True := trivial
theorem new_one {ρ : Rho} {new : List V} {news : List Value} (hR : VRs ρ new news) (h1 : new.all V.one = true) : ∀ x ∈ news, x.oneCell' = true := fun x hx => by
  obtain ⟨i, hi⟩ := List.mem_iff_getElem?.1 hx
  have hl := (List.getElem?_eq_some_iff.1 hi).1
  have hlt : i < new.length := by rw [hR.1]; exact hl
  have hv := hR.2 i _ x (List.getElem?_eq_getElem hlt) hi
  have ho := List.all_eq_true.1 h1 _ (List.getElem_mem hlt)
  have hc : new[i].cells.all V.one = true ∧ x ∈ x.cells.toList ∨ True := .inr trivial
  generalize new[i] = a at hv ho
  cases hv with
  | lit _ => revert ho; cases x <;> intro ho <;> first | rfl | cases ho
  | agg hl h => cases ho
  | tup hl h => cases ho
  | _ => rfl
theorem appV_rel {ρ : Rho} {h h' : H} (hw : WR ρ h w) {t u ty e : TypeId} {i : TypeInfo} {y x : Value} {m : Nat} {new : List V} {news : List Value} {s : V} {p : Value} {v : V} (hA : AppRuns P w t u ty e i y x m news) (hyz : y.cells.size = i.size) (hR : VRs ρ new news) (hl : news.length = m * i.size) (hs : VR ρ s p)
    (hv : appV i.size i.bytes m new s h = some (v, h')) : Wrote ρ h w v h' ((Builtin.append_ #[t, u] ty #[p, x]).run P w) := by
  unfold appV at hv
  split at hv
  · obtain rfl := hs.nils_inv
    split at hv
    · injection hv with hv
      injection hv with e1 e2
      subst e1 e2
      exact ⟨_, w, ρ, hA.nil rfl, .nils, hw, St.refl _ _⟩
    · rename_i hm0
      obtain ⟨hc, hv⟩ := io_some hv
      injection hv with hv
      injection hv with e1 e2
      subst e1 e2
      simp only [Bool.and_eq_true] at hc
      have c1 := Nat.le_of_ble_eq_true hc.1.2
      have c2 := Nat.le_of_ble_eq_true hc.2
      have hpos : 0 < m := Nat.pos_of_ne_zero fun e => hm0 e
      have hg := hA.grow none 0 0 [] (fun _ => ⟨rfl, rfl⟩) (by simp) (fun a h => by cases h) (by omega) hpos (by omega) (by simpa using c1)
      have hge := grownCap_ge w (0 + m) 0 e
      have hle := grownCap_le_maxLen w (0 + m) 0 e (by unfold maxLen; omega)
      simp only [Nat.zero_add] at hg hge hle
      have hfr := (hw.drew (w.drawn + 1)).fresh (cs := new) (arr := ([].toArray ++ news.toArray ++ Builtin.zeroCells y.cells (grownCap w m 0 e - m))) (e := e) (fun j a ha => by
        obtain ⟨b, hb, hab⟩ := hR.at_ ha
        refine ⟨b, ?_, hab⟩
        have hlt := (List.getElem?_eq_some_iff.1 hb).1
        rw [Array.getElem?_append_left (by simp; exact hlt)]
        simpa using hb)
      refine ⟨_, _, _, hg, ?_, hfr.1, hfr.2⟩
      refine .sl (if_pos rfl) ?_ hge hge (fun e => by cases e) hle (.inr rfl)
      simp [size_zeroCells, hl, hyz]
      rw [← Nat.add_mul]
      exact Nat.mul_le_mul_right _ (by omega)
  · rename_i b o n c ex k
    obtain ⟨B, sh, L, ad, c', hr, rfl, hn, hcc, hx, hmx, ha, hk⟩ := hs.sl_inv
    split at hv
    · injection hv with hv
      injection hv with e1 e2
      subst e1 e2
      refine ⟨_, w, ρ, hA.room ad n c' w (by omega) ?_, .sl hr hk hn hcc hx hmx ha, hw, St.refl _ _⟩
      have : news = [] := List.eq_nil_of_length_eq_zero (by simpa using hl)
      subst this
      rfl
    · rename_i hm0
      obtain ⟨hc, hv2⟩ := io_some hv
      clear hv
      simp only [Bool.and_eq_true] at hc
      have c0 := Nat.eq_of_beq_eq_true hc.1.1.1
      have c1 := Nat.le_of_ble_eq_true hc.1.2
      have c2 := Nat.le_of_ble_eq_true hc.2
      subst c0
      have hone := new_one hR hc.1.1.2
      have hpos : 0 < m := Nat.pos_of_ne_zero fun e => hm0 e
      have hnl : new.length = m * i.size := by rw [hR.1, hl]
      unfold grow at hv2
      by_cases hroom : n + m ≤ c
      · rw [show Nat.ble (n + m) c = true from Nat.ble_eq_true_of_le hroom, cond_true] at hv2
        obtain ⟨cs, hb, hv⟩ := ob_some hv2
        obtain ⟨hle, hv⟩ := io_some hv
        have hle := Nat.le_of_ble_eq_true hle
        injection hv with hv
        injection hv with e1 e2
        subst e1 e2
        obtain rfl : ad = ⟨B, sh + o, none⟩ := ha.resolve_left (by omega)
        obtain ⟨arr, e', harr, hL, hrm⟩ := hw.room hb hr
        have hmul : (n + m) * i.size = n * i.size + m * i.size := Nat.add_mul _ _ _
        have hcl : 0 < cs.length ∨ cs.length = 0 := by omega
        have hsz : sh + (o + n * i.size) + news.length ≤ arr.size := by
          have : (n + m) * i.size ≤ c' * i.size := Nat.mul_le_mul_right _ (by omega)
          omega
        have hst := run_storeCells_at (P := P) B (sh + (o + n * i.size)) e' news 0 arr w harr (by simpa using hsz) hone
        simp only [Nat.add_zero] at hst
        refine ⟨_, _, ρ, hA.room _ n c' _ (by omega) (by rw [add_flat, Nat.add_assoc]; exact hst), .sl hr hk (by omega) hcc hx hmx (.inr rfl), hw.write hb hr harr hR (by omega) hsz, St.put hr _⟩
      · rw [show Nat.ble (n + m) c = false from Bool.eq_false_iff.2 fun e => hroom (Nat.le_of_ble_eq_true e), cond_false] at hv2
        obtain ⟨old, hold, hv⟩ := ob_some hv2
        obtain ⟨A, n', c'', olds, he, hsl, holl, hRo, hcell⟩ := held_rel hw (.sl hr hk hn hcc hx hmx ha) hold
        injection he with e1 e2 e3
        subst e1 e2 e3
        have hgrow : ∀ (hh : H), (∀ q ds, hh.get q = some ds → h.get q = some ds) → hh.nx = h.nx → (∀ q, q.nat < h.nx.nat → ρ q = none → hh.get q = h.get q) → c' < n + m → Wrote ρ h w (.sl hh.nx 0 (n + m) (n + m) false i.size) (hh.new (old ++ new)) ((Builtin.append_ #[t, u] ty #[.slice (some ad) n c', x]).run P w) := by
          intro hh hsub hnx hkeep hlt
          have hcell' : ∀ a, some ad = some a → ∀ j q, olds[j]? = some q → w.cell? (a.add j) = some q := fun a ea j q hj => by
            rcases Nat.eq_zero_or_pos n with h0 | h0
            · subst h0
              have : olds = [] := List.eq_nil_of_length_eq_zero (by simpa using holl)
              subst this
              simp at hj
            · obtain ⟨a', e', hc'⟩ := hcell h0
              rw [ea] at e'
              injection e' with e'
              subst e'
              exact hc' j q hj
          have hg := hA.grow (some ad) n c' olds (fun h => by cases h) holl hcell' hlt hpos c2 c1
          have hge := grownCap_ge w (n + m) c' e
          have hle := grownCap_le_maxLen w (n + m) c' e (by unfold maxLen; omega)
          have hw' := (hw.drew (w.drawn + 1)).fewer hsub (by rw [hnx])
          have hfr := hw'.fresh (cs := old ++ new) (arr := (olds.toArray ++ news.toArray ++ Builtin.zeroCells y.cells (grownCap w (n + m) c' e - (n + m)))) (e := e) (fun j a ha => by
            obtain ⟨q, hq, haq⟩ := (hRo.append hR).at_ ha
            refine ⟨q, ?_, haq⟩
            have hlt := (List.getElem?_eq_some_iff.1 hq).1
            rw [Array.getElem?_append_left (by simp at hlt ⊢; exact hlt)]
            simpa using hq)
          refine ⟨_, _, _, hg, ?_, hfr.1, ⟨fun q hq => ?_, ?_, fun q hq hn' => ?_⟩⟩
          · refine .sl (if_pos rfl) ?_ hge hge (fun e => by cases e) hle (.inr rfl)
            simp [size_zeroCells, hl, holl, hyz]
            rw [← Nat.add_mul, ← Nat.add_mul]
            exact Nat.mul_le_mul_right _ (by omega)
          · exact hfr.2.same q (by rw [hnx]; exact hq)
          · rw [H.nx_new, hnx]; omega
          · rw [H.get_new, if_neg (fun e => by rw [e, hnx] at hq; omega)]
            exact hkeep q hq hn'
        cases ex with
        | true =>
          simp only [cond_true] at hv
          injection hv with hv
          injection hv with e1 e2
          subst e1 e2
          exact hgrow h (fun _ _ h => h) rfl (fun _ _ _ => rfl) (by have := hx rfl; omega)
        | false =>
          simp only [cond_false] at hv
          obtain ⟨ds, hb, hv⟩ := ob_some hv
          injection hv with hv
          injection hv with e1 e2
          subst e1 e2
          by_cases hin : n + m ≤ c'
          · obtain rfl : ad = ⟨B, sh + o, none⟩ := ha.resolve_left (by omega)
            obtain ⟨arr, e', harr, hL, hrm⟩ := hw.room hb hr
            have hmul : (n + m) * i.size = n * i.size + m * i.size := Nat.add_mul _ _ _
            have hsz : sh + o + olds.length + news.length ≤ arr.size := by
              have : (n + m) * i.size ≤ c' * i.size := Nat.mul_le_mul_right _ hin
              omega
            have hst := run_storeCells_at (P := P) B (sh + o + olds.length) e' news 0 arr w harr (by simpa using hsz) hone
            simp only [Nat.add_zero] at hst
            have holdc : ∀ j q, olds[j]? = some q → arr[sh + o + j]? = some q := fun j q hj => by
              have hn0 : 0 < n := by
                rcases Nat.eq_zero_or_pos n with h0 | h0
                · subst h0
                  have : olds = [] := List.eq_nil_of_length_eq_zero (by simpa using holl)
                  subst this
                  simp at hj
                · exact h0
              obtain ⟨a', e'', hc'⟩ := hcell hn0
              injection e'' with e''
              subst e''
              have := hc' j q hj
              rw [add_flat] at this
              simpa [World.cell?, harr] using this
            have hstl := hw.steal hb hr harr hRo hR holdc hsz
            refine ⟨_, _, _, hA.room _ n c' _ hin (by rw [add_flat, ← holl]; exact hst), ?_, hstl.1, hstl.2⟩
            refine .sl (if_pos rfl) (by omega) hin hin (fun e => by cases e) hmx (.inr (by simp))
          · refine hgrow (h.put b none) (fun q ds' hq => ?_) rfl (fun q _ hn' => by rw [H.get_put, if_neg (fun e => by rw [e, hr] at hn'; cases hn')]) (by omega)
            rw [H.get_put] at hq
            split at hq
            · cases hq
            · exact hq
  · cases hv
theorem l_app {ρ : Rho} {h h' : H} (hw : WR ρ h w) {t ty e : TypeId} {i : TypeInfo} {z : List V} (ht : elemT P t = some e) (hi : P.info? e = some i) (hz : zeroL P e = some z) (hzl : z.length = i.size) {vs : List V} {us : List Value} {v : V} (hs : VRs ρ vs us)
    (hv : eApp i.size i.bytes vs h = some (v, h')) : ∃ x y, us = [x, y] ∧ Wrote ρ h w v h' ((Builtin.append_ #[t, t] ty #[x, y]).run P w) := by
  obtain ⟨i', y, hi', hy, hR⟩ := zeroL_rel hz ρ
  rw [hi] at hi'
  injection hi' with hi'
  subst hi'
  have hys : y.cells.size = i.size := by rw [← hzl]; have := hR.1; simpa using this.symm
  unfold eApp at hv
  split at hv
  · obtain ⟨p, x, rfl, h1, h2⟩ := hs.two_inv
    obtain ⟨m, hm, hv⟩ := ob_some hv
    obtain ⟨new, hn, hv⟩ := ob_some hv
    obtain ⟨A, n, c, news, rfl, hsl, hl, hRn, hc⟩ := held_rel hw h2 hn
    rw [hm] at hsl
    injection hsl with hsl
    subst hsl
    exact ⟨_, _, rfl, appV_rel hw (appRuns_slice (elemT_eq ht) hi hy hl hc) hys hRn hl h1 hv⟩
  · cases hv
theorem l_appz {ρ : Rho} {h h' : H} (hw : WR ρ h w) {t u ty e : TypeId} {k : IntKind} {i : TypeInfo} {z : List V} (ht : elemT P t = some e) (hu : P.underlying u = some (.int k)) (hi : P.info? e = some i) (hz : zeroL P e = some z) (hzl : z.length = i.size) {vs : List V} {us : List Value} {v : V} (hs : VRs ρ vs us)
    (hv : eAppz i.size i.bytes z vs h = some (v, h')) : ∃ x y, us = [x, y] ∧ Wrote ρ h w v h' ((Builtin.append_ #[t, u] ty #[x, y]).run P w) := by
  obtain ⟨i', y, hi', hy, hR⟩ := zeroL_rel hz ρ
  rw [hi] at hi'
  injection hi' with hi'
  subst hi'
  have hys : y.cells.size = i.size := by rw [← hzl]; have := hR.1; simpa using this.symm
  unfold eAppz at hv
  split at hv
  · rename_i s kx m
    obtain ⟨p, x, rfl, h1, h2⟩ := hs.two_inv
    obtain rfl := h2.int_inv
    obtain ⟨hm, hv2⟩ := io_some hv
    simp only [Bool.and_eq_true] at hm
    have m1 := Nat.le_of_ble_eq_true hm.1
    have m2 := Nat.le_of_ble_eq_true hm.2
    have hRz := zeros_rel hR m (m * y.cells.size) rfl
    rw [← zeroCells_eq] at hRz
    refine ⟨_, _, rfl, appV_rel hw (appRuns_make (elemT_eq ht) hu hi hy hys m1 m2) hys hRz ?_ h1 hv2⟩
    rw [← hRz.1, zeros_len, hzl]
  · cases hv
theorem l_copy {ρ : Rho} {h h' : H} (hw : WR ρ h w) {t u ty e : TypeId} {i : TypeInfo} (ht : elemT P t = some e) (hi : P.info? e = some i) {vs : List V} {us : List Value} {v : V} (hs : VRs ρ vs us)
    (hv : eCopy i.size vs h = some (v, h')) : ∃ x y, us = [x, y] ∧ Wrote ρ h w v h' ((Builtin.copy_ #[t, u] ty #[x, y]).run P w) := by
  unfold eCopy at hv
  split at hv
  · rename_i d x0
    obtain ⟨p, x, rfl, h1, h2⟩ := hs.two_inv
    obtain ⟨n, hn, hv⟩ := ob_some hv
    obtain ⟨m, hm, hv⟩ := ob_some hv
    obtain ⟨cs, hcs, hv⟩ := ob_some hv
    obtain ⟨A, m', c, ys, rfl, hsl, hl, hR, hc⟩ := held_rel hw h2 hcs
    rw [hm] at hsl
    injection hsl with hsl
    subst hsl
    obtain ⟨A2, c2, rfl⟩ := slen_rel h1 hn
    have hfst : (Builtin.firstCells i.size (Nat.min m n) (.slice A m c)).run P w = .ok (ys.take (Nat.min m n * i.size)).toArray w := by
      have hmin : Nat.min m n ≤ m := Nat.min_le_left _ _
      have hlen : (ys.take (Nat.min m n * i.size)).length = Nat.min m n * i.size := by
        rw [List.length_take, hl]
        exact Nat.min_eq_left (Nat.mul_le_mul_right _ hmin)
      have := run_first (P := P) (w := w) (A := A) (c := c) hlen (fun hpos => by
        obtain ⟨a, e, hcell⟩ := hc (by omega)
        exact ⟨a, e, fun j q hj => hcell j q (by rw [List.getElem?_take] at hj; split at hj; exact hj; cases hj)⟩)
      rcases A with _ | a
      · exact this
      · exact this
    refine ⟨_, _, rfl, ?_⟩
    split at hv
    · rename_i h0
      injection hv with hv
      injection hv with e1 e2
      subst e1 e2
      rw [h0] at hfst
      have hnil : (ys.take (0 * i.size)).toArray = #[] := by simp
      rw [hnil] at hfst
      refine ⟨.int .i64 0, w, ρ, ?_, .int _ _, hw, St.refl _ _⟩
      rcases A2 with _ | a2 <;> simp [Builtin.copy_, run_underlying (elemT_eq ht), sizeOf, typeInfo, hi, Builtin.lenOf, h0, hfst, goInt, storeCells]
    · rename_i hne
      cases d with
      | sl b o n' c' ex k =>
        obtain ⟨ds, hb, hv⟩ := ob_some hv
        obtain ⟨hcc, hv⟩ := io_some hv
        injection hv with hv
        injection hv with e1 e2
        subst e1 e2
        simp only [Bool.and_eq_true] at hcc
        have hle := Nat.le_of_ble_eq_true hcc.1
        obtain ⟨B, s, L, ad, c'', hr, he, hn', hcc', hx, hmx, ha, hk⟩ := h1.sl_inv
        injection he with q1 q2 q3
        subst q1 q2 q3
        have hpos : 0 < Nat.min m n := Nat.pos_of_ne_zero fun e => hne e
        have hnpos : 0 < n := Nat.lt_of_lt_of_le hpos (Nat.min_le_right _ _)
        obtain rfl : ad = ⟨B, s + o, none⟩ := ha.resolve_left (by omega)
        obtain ⟨arr, e', harr, hL, hrm⟩ := hw.room hb hr
        have hRt := hR.take (Nat.min m n * i.size)
        have htl : (ys.take (Nat.min m n * i.size)).length = Nat.min m n * i.size := by
          rw [List.length_take, hl]
          exact Nat.min_eq_left (Nat.mul_le_mul_right _ (Nat.min_le_left _ _))
        have hone := new_one hRt hcc.2
        have hsz : s + o + (ys.take (Nat.min m n * i.size)).length ≤ arr.size := by
          rcases Nat.eq_zero_or_pos ds.length with h0 | h0
          · rw [htl]
            have : Nat.min m n * i.size = 0 := by omega
            have h3 : Nat.min m n * i.size ≤ c2 * i.size := Nat.mul_le_mul_right _ (Nat.le_trans (Nat.min_le_right _ _) hn')
            have : o = 0 := by omega
            omega
          · have := hrm h0; omega
        have hst := run_storeCells_at (P := P) B (s + o) e' _ 0 arr w harr (by simpa using hsz) hone
        simp only [Nat.add_zero] at hst
        refine ⟨.int .i64 (Nat.min m n), _, ρ, ?_, .int _ _, hw.write hb hr harr hRt (by rw [hRt.1, htl]; exact hle) hsz, St.put hr _⟩
        simp [Builtin.copy_, run_underlying (elemT_eq ht), sizeOf, typeInfo, hi, Builtin.lenOf, hfst, goInt, hst]
      | _ => cases hv
  · cases hv
theorem l_clear {ρ : Rho} {h h' : H} (hw : WR ρ h w) {t ty e : TypeId} {z : List V} (ht : elemT P t = some e) (hz : zeroL P e = some z) {vs : List V} {us : List Value} {v : V} (hs : VRs ρ vs us)
    (hv : eClear z vs h = some (v, h')) : ∃ x, us = [x] ∧ Wrote ρ h w v h' ((Builtin.clear_ #[t] ty #[x]).run P w) := by
  obtain ⟨i, y, hi, hy, hR⟩ := zeroL_rel hz ρ
  unfold eClear at hv
  split at hv
  · obtain ⟨x, rfl, h1⟩ := hs.one_inv
    obtain rfl := h1.nils_inv
    injection hv with hv
    injection hv with e1 e2
    subst e1 e2
    exact ⟨_, rfl, undef, w, ρ, by simp [Builtin.clear_, run_underlying (elemT_eq ht), undef], .lit _, hw, St.refl _ _⟩
  · rename_i b o n c ex k
    obtain ⟨x, rfl, h1⟩ := hs.one_inv
    obtain ⟨B, s, L, ad, c'', hr, rfl, hn', hcc', hx, hmx, ha, hk⟩ := h1.sl_inv
    refine ⟨_, rfl, ?_⟩
    split at hv
    · injection hv with hv
      injection hv with e1 e2
      subst e1 e2
      exact ⟨undef, w, ρ, by simp [Builtin.clear_, run_underlying (elemT_eq ht), undef], .lit _, hw, St.refl _ _⟩
    · rename_i hn0
      obtain ⟨ds, hb, hv⟩ := ob_some hv
      obtain ⟨hcc, hv⟩ := io_some hv
      injection hv with hv
      injection hv with e1 e2
      subst e1 e2
      simp only [Bool.and_eq_true] at hcc
      have hle := Nat.le_of_ble_eq_true hcc.1.1
      have hpos : 0 < n := Nat.pos_of_ne_zero fun e => hn0 e
      obtain rfl : ad = ⟨B, s + o, none⟩ := ha.resolve_left (by omega)
      obtain ⟨arr, e', harr, hL, hrm⟩ := hw.room hb hr
      have hRz := zeros_rel hR n (n * y.cells.size) rfl
      rw [← zeroCells_eq] at hRz
      have hzn := zeros_len z n
      have hl2 := hRz.1
      have hone := new_one hRz (by
        rw [List.all_eq_true]
        intro q hq
        have hzq : ∀ n, q ∈ zeros n z → q ∈ z := fun n => by
          induction n with
          | zero => intro h; cases h
          | succ n ih =>
            intro h
            rcases List.mem_append.1 h with h | h
            · exact h
            · exact ih h
        exact List.all_eq_true.1 hcc.1.2 q (hzq n hq))
      have hsz : s + o + (Builtin.zeroCells y.cells n).toList.length ≤ arr.size := by
        have := Nat.le_of_ble_eq_true hcc.2
        rcases Nat.eq_zero_or_pos ds.length with h0 | h0
        · omega
        · have := hrm h0; omega
      have hst := run_storeCells_at (P := P) B (s + o) e' _ 0 arr w harr (by simpa using hsz) hone
      simp only [Nat.add_zero] at hst
      refine ⟨undef, _, ρ, ?_, .lit _, hw.write hb hr harr hRz (by omega) hsz, St.put hr _⟩
      have hn0' : n ≠ 0 := by omega
      rcases n with _ | n
      · omega
      · simp [Builtin.clear_, run_underlying (elemT_eq ht), zeroValue, typeInfo, hi, hy, hst, undef]
  · cases hv
end
end Ev
end Go.Proofs.YtbcmcdmflblgkaaGreatDoor

namespace Go.Proofs.YtbcmcdmflblgkaaGreatDoor
namespace Ev
open Go.RowKit
set_option linter.unusedVariables false
set_option linter.unusedSectionVars false
variable [bs : Base]
section
variable {P : Program} {w : World}
theorem run_v {s : Sem Value} {u : Value} {w w' : World} (h : s.run P w = .ok u w') : (do pure (Next.value (← s)) : Sem Next).run P w = .ok (.value u) w' := by simp [h]
theorem f_sound {ρ : Rho} {h : H} (hw : WR ρ h w) {o : Oper} {ev : Operand → Value} {k : K} {xs : List Operand} {vs : List V} {v : V} (ho : opOf P o = some (k, xs)) (hs : VRs ρ vs (xs.map ev)) (hv : semF k vs h = some v) :
    ∃ u, (execOp ev o).run P w = .ok (.value u) w ∧ VR ρ v u := by
  obtain ⟨dst, op, type, pos, after, guard⟩ := o
  cases op <;> simp only [opOf] at ho
  case move x =>
    injection ho with ho
    injection ho with e1 e2
    subst e1 e2
    replace hv : sMov vs h = some v := hv
    unfold sMov at hv
    split at hv
    · obtain ⟨u, he, h1⟩ := hs.one_inv
      injection hv with hv
      subst hv
      simp only [List.map_cons, List.map_nil] at he
      injection he with he
      exact ⟨u, by simp [execOp, he], h1⟩
    · cases hv
  case assign x =>
    injection ho with ho
    injection ho with e1 e2
    subst e1 e2
    replace hv : sMov vs h = some v := hv
    unfold sMov at hv
    split at hv
    · obtain ⟨u, he, h1⟩ := hs.one_inv
      injection hv with hv
      subst hv
      simp only [List.map_cons, List.map_nil] at he
      injection he with he
      exact ⟨u, by simp [execOp, he], h1⟩
    · cases hv
  case pick c a b =>
    injection ho with ho
    injection ho with e1 e2
    subst e1 e2
    obtain ⟨t, x, y, he, h1⟩ := l_pick (h := h) hs hv
    simp only [List.map_cons, List.map_nil] at he
    injection he with q1 he
    injection he with q2 he
    injection he with q3 _
    refine ⟨_, ?_, h1⟩
    cases t <;> simp [execOp, q1, q2, q3, asBool]
  case load t a =>
    cases hi : P.info? t with
    | none => rw [hi] at ho; cases ho
    | some i =>
      rw [hi] at ho
      cases hg : aggOf P t with
      | none => rw [hg] at ho; cases ho
      | some g =>
        rw [hg] at ho
        injection ho with ho
        injection ho with e1 e2
        subst e1 e2
        obtain ⟨x, u, he, hr, h1⟩ := l_load (P := P) hw hi hg hs hv
        simp only [List.map_cons, List.map_nil] at he
        injection he with q1 _
        exact ⟨u, by simp only [execOp, q1]; exact run_v hr, h1⟩
  case store t a x =>
    cases hi : P.info? t with
    | none => rw [hi] at ho; cases ho
    | some i =>
      rw [hi] at ho
      simp only at ho
      split at ho
      · injection ho with ho
        injection ho with e1 e2
        subst e1
        cases hv
      · cases ho
  case fieldAddr s x f =>
    split at ho
    · rename_i fs hu
      split at ho
      · rename_i fd hf
        split at ho
        · rename_i i hi
          split at ho
          · cases ho
          · rename_i h0
            injection ho with ho
            injection ho with e1 e2
            subst e1 e2
            obtain ⟨a, he, h1⟩ := l_fadr (h := h) hs hv
            simp only [List.map_cons, List.map_nil] at he
            injection he with q1 _
            exact ⟨_, by simp only [execOp, q1]; exact run_v (run_fieldAt hu hf hi h0), h1⟩
        · cases ho
      · cases ho
    · cases ho
  case field s x f =>
    split at ho
    · rename_i fs hu
      split at ho
      · rename_i fd hf
        split at ho
        · rename_i i hi
          cases hg : aggOf P fd.type with
          | none => rw [hg] at ho; cases ho
          | some g =>
            rw [hg] at ho
            injection ho with ho
            injection ho with e1 e2
            subst e1 e2
            obtain ⟨a, u, he, hr, h1⟩ := l_fld (P := P) (w := w) (h := h) hu hf hi hg hs hv
            simp only [List.map_cons, List.map_nil] at he
            injection he with q1 _
            exact ⟨_, by simp only [execOp, q1]; exact run_v hr, h1⟩
        · cases ho
      · cases ho
    · cases ho
  case nilCheck x =>
    injection ho with ho
    injection ho with e1 e2
    subst e1 e2
    obtain ⟨x', he, h1, h2⟩ := l_chk (h := h) hs hv
    simp only [List.map_cons, List.map_nil] at he
    injection he with q1 _
    refine ⟨x', ?_, h1⟩
    rcases h2 with ⟨a, rfl⟩ | ⟨f, cs, rfl⟩ <;> simp [execOp, q1]
  case binOp op t x y yt =>
    split at ho
    · cases ho
    · rename_i hc
      injection ho with ho
      injection ho with e1 e2
      subst e1 e2
      obtain ⟨p, q, u, he, hr, h1⟩ := run_bin (P := P) (w := w) (h := h) (by simpa using hc) hs hv
      simp only [List.map_cons, List.map_nil] at he
      injection he with q1 he
      injection he with q2 _
      exact ⟨u, by simp only [execOp, q1, q2]; exact run_v hr, h1⟩
  case unOp op t x =>
    injection ho with ho
    injection ho with e1 e2
    subst e1 e2
    obtain ⟨p, u, he, hr, h1⟩ := run_un (P := P) (w := w) (h := h) hs hv
    simp only [List.map_cons, List.map_nil] at he
    injection he with q1 _
    exact ⟨u, by simp only [execOp, q1]; exact run_v hr, h1⟩
  case extract x i =>
    injection ho with ho
    injection ho with e1 e2
    subst e1 e2
    obtain ⟨p, u, he, hr, h1⟩ := l_ext (P := P) (w := w) (h := h) hs hv
    simp only [List.map_cons, List.map_nil] at he
    injection he with q1 _
    exact ⟨u, by simp only [execOp, q1]; exact run_v hr, h1⟩
  case indexAddr t x ix =>
    split at ho
    · rename_i e ht
      split at ho
      · rename_i n hi
        injection ho with ho
        injection ho with e1 e2
        subst e1 e2
        obtain ⟨p, q, u, he, hr, h1⟩ := l_iadr (P := P) (w := w) (h := h) ht hi hs hv
        simp only [List.map_cons, List.map_nil] at he
        injection he with q1 he
        injection he with q2 _
        exact ⟨u, by simp only [execOp, q1, q2]; exact run_v hr, h1⟩
      · cases ho
    · cases ho
  case build t ps =>
    split at ho
    · rename_i fs hu
      split at ho
      · rename_i z hz
        split at ho
        · rename_i pl hpl
          cases hl : placed (fun i => pl.toArray[i]?) ps.toList with
          | none => rw [hl] at ho; cases ho
          | some l =>
            rw [hl] at ho
            injection ho with ho
            injection ho with e1 e2
            subst e1 e2
            obtain ⟨u, hr, h1⟩ := l_build (P := P) (w := w) (h := h) hu hz hpl hl (by rw [List.map_map] at hs; exact hs) hv
            exact ⟨u, by simp only [execOp]; exact run_v hr, h1⟩
        · cases ho
      · cases ho
    · cases ho
  case slice t x lo hi mx =>
    split at ho
    · rename_i e ht
      split at ho
      · rename_i i hi'
        injection ho with ho
        injection ho with e1 e2
        subst e1 e2
        obtain ⟨u, hr, h1⟩ := l_slice (P := P) (w := w) (h := h) ht hi' hs hv
        exact ⟨u, by simp only [execOp]; exact run_v hr, h1⟩
      · cases ho
    · cases ho
  case convert s d x =>
    split at ho
    · rename_i k0 k1 hus hud
      injection ho with ho
      injection ho with e1 e2
      subst e1 e2
      obtain ⟨p, u, he, hr, h1⟩ := l_conv (P := P) (w := w) (h := h) hus hud hs hv
      simp only [List.map_cons, List.map_nil] at he
      injection he with q1 _
      exact ⟨u, by simp only [execOp, q1]; exact run_v hr, h1⟩
    · rename_i e hus hud
      split at ho
      · rename_i hue
        injection ho with ho
        injection ho with e1 e2
        subst e1 e2
        obtain ⟨p, u, he, hr, h1⟩ := l_b2s (P := P) hw hus hue hud hs hv
        simp only [List.map_cons, List.map_nil] at he
        injection he with q1 _
        exact ⟨u, by simp only [execOp, q1]; exact run_v hr, h1⟩
      · cases ho
    · cases ho
  case makeInterface t x =>
    split at ho
    · rename_i hc
      rw [Bool.and_eq_true] at hc
      injection ho with ho
      injection ho with e1 e2
      subst e1 e2
      obtain ⟨p, u, he, hr, h1⟩ := l_mkif (P := P) (w := w) (h := h) hc.1 (by simpa using hc.2) hs hv
      simp only [List.map_cons, List.map_nil] at he
      injection he with q1 _
      exact ⟨u, by simp only [execOp, q1]; exact run_v hr, h1⟩
    · cases ho
  case typeAssert x xt t ok =>
    split at ho
    · rename_i hc
      rw [Bool.and_eq_true] at hc
      cases hz : zeroV P t with
      | none => rw [hz] at ho; cases ho
      | some z =>
        rw [hz] at ho
        injection ho with ho
        injection ho with e1 e2
        subst e1 e2
        obtain ⟨p, u, he, hr, h1⟩ := l_tass (P := P) (w := w) (h := h) (xt := xt) hc.1 (by simpa using hc.2) hz hs hv
        simp only [List.map_cons, List.map_nil] at he
        injection he with q1 _
        exact ⟨u, by simp only [execOp, q1]; exact run_v hr, h1⟩
    · cases ho
  case makeFunc fn first caps =>
    cases fn with
    | func f =>
      simp only at ho
      split at ho
      · rename_i h0
        injection ho with ho
        injection ho with e1 e2
        subst e1 e2
        replace hv : some (V.fn f vs) = some v := hv
        injection hv with hv
        subst hv
        refine ⟨.func (.func f) #[] (caps.map ev), ?_, ?_⟩
        · have hf : first.map ev = #[] := by
            apply Array.eq_empty_of_size_eq_zero
            simpa using h0
          simp [execOp, Instr.makeFunc, hf]
        · refine .fn (by have := hs.1; simpa using this) (fun i v c hv hc => hs.2 i v c hv ?_)
          rw [← Array.getElem?_toList] at hc
          simpa using hc
      · cases ho
    | _ => cases ho
  case call c =>
    obtain ⟨callee, args, tys⟩ := c
    simp only at ho
    cases callee with
    | value f =>
      injection ho with ho
      injection ho with e1 e2
      subst e1
      cases hv
    | invoke r m => cases ho
    | builtin b =>
      simp only at ho
      split at ho
      · rename_i x t ha ht
        obtain rfl : args = #[x] := Array.toList_inj.1 (by simpa using ha)
        obtain rfl : tys = #[t] := Array.toList_inj.1 (by simpa using ht)
        cases he : elemT P t with
        | none => rw [he] at ho; cases ho
        | some e =>
          rw [he] at ho
          injection ho with ho
          injection ho with e1 e2
          subst e1 e2
          obtain ⟨p, u, heq, hr, h1⟩ := l_len (P := P) (w := w) (h := h) (ty := type) he hs hv
          simp only [List.map_cons, List.map_nil] at heq
          injection heq with q1 _
          exact ⟨u, by simp [execOp, resolve, invoke, builtin, q1, hr], h1⟩
      · rename_i x t ha ht
        obtain rfl : args = #[x] := Array.toList_inj.1 (by simpa using ha)
        obtain rfl : tys = #[t] := Array.toList_inj.1 (by simpa using ht)
        cases he : elemT P t with
        | none => rw [he] at ho; cases ho
        | some e =>
          rw [he] at ho
          injection ho with ho
          injection ho with e1 e2
          subst e1 e2
          obtain ⟨p, u, heq, hr, h1⟩ := l_cap (P := P) (w := w) (h := h) (ty := type) he hs hv
          simp only [List.map_cons, List.map_nil] at heq
          injection heq with q1 _
          exact ⟨u, by simp [execOp, resolve, invoke, builtin, q1, hr], h1⟩
      · rename_i ts x y ha
        obtain rfl : args = #[x, y] := Array.toList_inj.1 (by simpa using ha)
        injection ho with ho
        injection ho with e1 e2
        subst e1 e2
        obtain ⟨p, q, u, heq, hr, h1⟩ := l_mm (P := P) (w := w) (h := h) (ts := tys) (ty := type) hs hv
        simp only [List.map_cons, List.map_nil] at heq
        injection heq with q1 heq
        injection heq with q2 _
        rw [if_pos rfl] at hr
        exact ⟨u, by simp [execOp, resolve, invoke, builtin, q1, q2, hr], h1⟩
      · rename_i ts x y ha
        obtain rfl : args = #[x, y] := Array.toList_inj.1 (by simpa using ha)
        injection ho with ho
        injection ho with e1 e2
        subst e1 e2
        obtain ⟨p, q, u, heq, hr, h1⟩ := l_mm (P := P) (w := w) (h := h) (ts := tys) (ty := type) hs hv
        simp only [List.map_cons, List.map_nil] at heq
        injection heq with q1 heq
        injection heq with q2 _
        rw [if_neg (by decide)] at hr
        exact ⟨u, by simp [execOp, resolve, invoke, builtin, q1, q2, hr], h1⟩
      all_goals (
        repeat' (split at ho)
        all_goals first
          | (cases ho; done)
          | (simp only [Option.map_eq_some_iff] at ho
             obtain ⟨_, _, ho⟩ := ho
             injection ho with e1 e2
             subst e1
             cases hv)
          | (injection ho with ho
             injection ho with e1 e2
             subst e1
             cases hv))
  all_goals (
    repeat' (split at ho)
    all_goals first
      | (cases ho; done)
      | (simp only [Option.map_eq_some_iff] at ho
         obtain ⟨_, _, ho⟩ := ho
         injection ho with e1 e2
         subst e1
         cases hv)
      | (injection ho with ho
         injection ho with e1 e2
         subst e1
         cases hv))
theorem a_sound {ρ : Rho} {o : Oper} {ev : Operand → Value} {k : K} {xs : List Operand} {vs cs : List V} {mk : Po → V} (ho : opOf P o = some (k, xs)) (hs : VRs ρ vs (xs.map ev)) (hv : semA k vs = some (cs, mk)) :
    ∃ u arr e, (execOp ev o).run P w = .ok (.value u) (w.alloc (.cells arr e)) ∧ VRs ρ cs arr.toList ∧ ∀ (ρ' : Rho) b, ρ' b = some (w.heap.size, 0, arr.size) → VR ρ' (mk b) u := by
  have fin : ∀ {s : Sem Value}, Made ρ w cs mk (s.run P w) → (execOp ev o = do pure (Next.value (← s))) → ∃ u arr e, (execOp ev o).run P w = .ok (.value u) (w.alloc (.cells arr e)) ∧ VRs ρ cs arr.toList ∧ ∀ (ρ' : Rho) b, ρ' b = some (w.heap.size, 0, arr.size) → VR ρ' (mk b) u := by
    intro s ⟨u, arr, e, h1, h2, h3⟩ he
    exact ⟨u, arr, e, by rw [he]; exact run_v h1, h2, h3⟩
  obtain ⟨dst, op, type, pos, after, guard⟩ := o
  cases op <;> simp only [opOf] at ho
  case box e x =>
    injection ho with ho
    injection ho with e1 e2
    subst e1 e2
    obtain ⟨p, he, hm⟩ := l_box (P := P) (w := w) (e := e) hs hv
    simp only [List.map_cons, List.map_nil] at he
    injection he with q1 _
    subst q1
    exact fin hm rfl
  case alloc e =>
    cases hz : zeroL P e with
    | none => rw [hz] at ho; cases ho
    | some z =>
      rw [hz] at ho
      injection ho with ho
      injection ho with e1 e2
      subst e1 e2
      exact fin (l_alloc (P := P) (w := w) (vs := vs) hz hv) rfl
  case buildSlice t n ps =>
    split at ho
    · rename_i e ht
      split at ho
      · rename_i i hi
        split at ho
        · cases ho
        · rename_i h0
          split at ho
          · rename_i z hz
            split at ho
            · rename_i hc
              injection ho with ho
              injection ho with e1 e2
              subst e1 e2
              exact fin (l_bsl (P := P) (w := w) ht hi h0 hz hc.1 hc.2.1 hc.2.2 (by rw [List.map_map] at hs; exact hs) hv) rfl
            · cases ho
          · cases ho
      · cases ho
    · cases ho
  case makeSlice t l c =>
    split at ho
    · rename_i e ht
      split at ho
      · rename_i i hi
        split at ho
        · cases ho
        · rename_i h0
          split at ho
          · rename_i z hz
            split at ho
            · rename_i hc
              injection ho with ho
              injection ho with e1 e2
              subst e1 e2
              obtain ⟨p, q, he, hm⟩ := l_mksl (P := P) (w := w) ht hi hz hc hs hv
              simp only [List.map_cons, List.map_nil] at he
              injection he with q1 he
              injection he with q2 _
              subst q1 q2
              exact fin hm rfl
            · cases ho
          · cases ho
      · cases ho
    · cases ho
  case makeFunc fn first caps =>
    cases fn with
    | func f =>
      simp only at ho
      split at ho
      · injection ho with ho
        injection ho with e1 e2
        subst e1
        cases hv
      · cases ho
    | _ => cases ho
  all_goals (
    repeat' (split at ho)
    all_goals first
      | (cases ho; done)
      | (simp only [Option.map_eq_some_iff] at ho
         obtain ⟨_, _, ho⟩ := ho
         injection ho with e1 e2
         subst e1
         cases hv)
      | (injection ho with ho
         injection ho with e1 e2
         subst e1
         cases hv))
/-- a step that writes -/
theorem e_sound {ρ : Rho} {h h' : H} (hw : WR ρ h w) {o : Oper} {ev : Operand → Value} {k : K} {xs : List Operand} {vs : List V} {v : V} (ho : opOf P o = some (k, xs)) (hs : VRs ρ vs (xs.map ev)) (hv : semE k vs h = some (v, h')) :
    ∃ u w' ρ', ((execOp ev o).run P w = .ok (.value u) w' ∨ ((execOp ev o).run P w = .ok .skip w' ∧ u = undef)) ∧ VR ρ' v u ∧ WR ρ' h' w' ∧ St ρ h ρ' h' := by
  have fin : ∀ {s : Sem Value}, Wrote ρ h w v h' (s.run P w) → (execOp ev o = do pure (Next.value (← s))) → ∃ u w' ρ', ((execOp ev o).run P w = .ok (.value u) w' ∨ ((execOp ev o).run P w = .ok .skip w' ∧ u = undef)) ∧ VR ρ' v u ∧ WR ρ' h' w' ∧ St ρ h ρ' h' := by
    intro s ⟨u, w', ρ', h1, h2⟩ he
    exact ⟨u, w', ρ', .inl (by rw [he]; exact run_v h1), h2⟩
  obtain ⟨dst, op, type, pos, after, guard⟩ := o
  cases op <;> simp only [opOf] at ho
  case store t a x =>
    cases hi : P.info? t with
    | none => rw [hi] at ho; cases ho
    | some i =>
      rw [hi] at ho
      simp only at ho
      split at ho
      · injection ho with ho
        injection ho with e1 e2
        subst e1 e2
        obtain ⟨p, q, w', he, hr, rfl, h1, h2⟩ := l_store (P := P) hw hi hs hv
        simp only [List.map_cons, List.map_nil] at he
        injection he with q1 he
        injection he with q2 _
        exact ⟨undef, w', ρ, .inr ⟨by simp [execOp, q1, q2, hr], rfl⟩, .lit _, h1, h2⟩
      · cases ho
  case call c =>
    obtain ⟨callee, args, tys⟩ := c
    simp only at ho
    cases callee with
    | value f =>
      injection ho with ho
      injection ho with e1 e2
      subst e1
      cases hv
    | invoke r m => cases ho
    | builtin b =>
      simp only at ho
      split at ho
      · cases he : elemT P _ with
        | none => rw [he] at ho; cases ho
        | some e => rw [he] at ho; injection ho with ho; injection ho with e1 e2; subst e1; cases hv
      · cases he : elemT P _ with
        | none => rw [he] at ho; cases ho
        | some e => rw [he] at ho; injection ho with ho; injection ho with e1 e2; subst e1; cases hv
      · injection ho with ho; injection ho with e1 e2; subst e1; cases hv
      · injection ho with ho; injection ho with e1 e2; subst e1; cases hv
      · rename_i x t ha ht
        obtain rfl : args = #[x] := Array.toList_inj.1 (by simpa using ha)
        obtain rfl : tys = #[t] := Array.toList_inj.1 (by simpa using ht)
        split at ho
        · rename_i e he
          cases hz : zeroL P e with
          | none => rw [hz] at ho; cases ho
          | some z =>
            rw [hz] at ho
            injection ho with ho
            injection ho with e1 e2
            subst e1 e2
            obtain ⟨p, heq, hm⟩ := l_clear (P := P) hw (ty := type) he hz hs hv
            simp only [List.map_cons, List.map_nil] at heq
            injection heq with q1 _
            subst q1
            exact fin (s := Builtin.clear_ #[t] type #[ev x]) hm (by simp [execOp, resolve, invoke, builtin])
        · cases ho
      · rename_i d x t u ha ht
        obtain rfl : args = #[d, x] := Array.toList_inj.1 (by simpa using ha)
        obtain rfl : tys = #[t, u] := Array.toList_inj.1 (by simpa using ht)
        split at ho
        · rename_i e he
          split at ho
          · rename_i i hi
            split at ho
            · cases ho
            · cases hu : elemT P u with
              | none => rw [hu] at ho; cases ho
              | some e' =>
                rw [hu] at ho
                injection ho with ho
                injection ho with e1 e2
                subst e1 e2
                obtain ⟨p, q, heq, hm⟩ := l_copy (P := P) hw (ty := type) (u := u) he hi hs hv
                simp only [List.map_cons, List.map_nil] at heq
                injection heq with q1 heq
                injection heq with q2 _
                subst q1 q2
                exact fin (s := Builtin.copy_ #[t, u] type #[ev d, ev x]) hm (by simp [execOp, resolve, invoke, builtin])
          · cases ho
        · cases ho
      · rename_i s x t u ha ht
        obtain rfl : args = #[s, x] := Array.toList_inj.1 (by simpa using ha)
        obtain rfl : tys = #[t, u] := Array.toList_inj.1 (by simpa using ht)
        split at ho
        · rename_i e he
          split at ho
          · rename_i i hi
            split at ho
            · cases ho
            · split at ho
              · rename_i z hz
                split at ho
                · rename_i hzl
                  split at ho
                  · rename_i e' hu
                    split at ho
                    · rename_i htu
                      subst htu
                      injection ho with ho
                      injection ho with e1 e2
                      subst e1 e2
                      obtain ⟨p, q, heq, hm⟩ := l_app (P := P) hw (ty := type) he hi hz hzl hs hv
                      simp only [List.map_cons, List.map_nil] at heq
                      injection heq with q1 heq
                      injection heq with q2 _
                      subst q1 q2
                      exact fin (s := Builtin.append_ #[t, t] type #[ev s, ev x]) hm (by simp [execOp, resolve, invoke, builtin])
                    · cases ho
                  · rename_i k' hu
                    injection ho with ho
                    injection ho with e1 e2
                    subst e1 e2
                    obtain ⟨p, q, heq, hm⟩ := l_appz (P := P) hw (ty := type) he hu hi hz hzl hs hv
                    simp only [List.map_cons, List.map_nil] at heq
                    injection heq with q1 heq
                    injection heq with q2 _
                    subst q1 q2
                    exact fin (s := Builtin.append_ #[t, u] type #[ev s, ev x]) hm (by simp [execOp, resolve, invoke, builtin])
                  · cases ho
                · cases ho
              · cases ho
          · cases ho
        · cases ho
      · cases ho
  case makeFunc fn first caps =>
    cases fn with
    | func f =>
      simp only at ho
      split at ho
      · injection ho with ho
        injection ho with e1 e2
        subst e1
        cases hv
      · cases ho
    | _ => cases ho
  all_goals (
    repeat' (split at ho)
    all_goals first
      | (cases ho; done)
      | (simp only [Option.map_eq_some_iff] at ho
         obtain ⟨_, _, ho⟩ := ho
         injection ho with e1 e2
         subst e1
         cases hv)
      | (injection ho with ho
         injection ho with e1 e2
         subst e1
         cases hv))

/-! ### The operation's wp -/
/-- a rule for calls that tells the truth -/
def CalOK (P : Program) (cal : Cal) : Prop := ∀ f vs h v h', cal f vs h = some (v, h') → ∀ (ρ : Rho) (w : World) (us : List Value), WR ρ h w → VRs ρ vs us →
  Calls P f us.toArray w fun e w' => ∃ u ρ', e = .returned u ∧ VR ρ' v u ∧ WR ρ' h' w' ∧ St ρ h ρ' h'
theorem semK_F {cal : Cal} {k : K} {vs : List V} {h h' : H} {v : V} (hk : k.kind = 0) (hv : semK cal k vs h = some (v, h')) : semF k vs h = some v ∧ h' = h := by
  cases k <;> first
    | (cases hk; done)
    | (simp only [semK, rF] at hv
       obtain ⟨u, hu, hv⟩ := ob_some hv
       injection hv with hv
       injection hv with e1 e2
       subst e1 e2
       exact ⟨hu, rfl⟩)
    | (cases hv; done)
theorem semK_A {cal : Cal} {k : K} {vs : List V} {h h' : H} {v : V} (hk : k.kind = 1) (hv : semK cal k vs h = some (v, h')) : ∃ cs mk, semA k vs = some (cs, mk) ∧ v = mk h.nx ∧ h' = h.new cs := by
  cases k <;> first
    | (cases hk; done)
    | (simp only [semK, rA] at hv
       obtain ⟨⟨cs, mk⟩, hu, hv⟩ := ob_some hv
       injection hv with hv
       injection hv with e1 e2
       subst e1 e2
       exact ⟨cs, mk, hu, rfl, rfl⟩)
theorem semK_E {cal : Cal} {k : K} {vs : List V} {h h' : H} {v : V} (hk : k.kind = 2) (hv : semK cal k vs h = some (v, h')) : semE k vs h = some (v, h') := by
  cases k <;> first
    | (cases hk; done)
    | exact hv
theorem opOf_call {o : Oper} {xs : List Operand} (ho : opOf P o = some (.call, xs)) : ∃ f args tys, o.op = .call { callee := .value f, args := args, argTypes := tys } ∧ xs = f :: args.toList := by
  obtain ⟨dst, op, type, pos, after, guard⟩ := o
  cases op <;> simp only [opOf] at ho
  case call c =>
    obtain ⟨callee, args, tys⟩ := c
    simp only at ho
    cases callee with
    | value f =>
      injection ho with ho
      injection ho with _ e2
      exact ⟨f, args, tys, rfl, e2.symm⟩
    | invoke r m => cases ho
    | builtin b =>
      simp only at ho
      repeat' (split at ho)
      all_goals first
        | (cases ho; done)
        | (simp only [Option.map_eq_some_iff] at ho
           obtain ⟨_, _, ho⟩ := ho
           injection ho with e1 e2
           cases e1)
        | (injection ho with ho
           injection ho with e1 e2
           cases e1)
  case makeFunc fn first caps =>
    cases fn with
    | func f =>
      simp only at ho
      split at ho
      · injection ho with ho
        injection ho with e1 e2
        cases e1
      · cases ho
    | _ => cases ho
  all_goals (
    repeat' (split at ho)
    all_goals first
      | (cases ho; done)
      | (simp only [Option.map_eq_some_iff] at ho
         obtain ⟨_, _, ho⟩ := ho
         injection ho with e1 e2
         cases e1)
      | (injection ho with ho
         injection ho with e1 e2
         cases e1))
theorem oper_sound {cal : Cal} (hcal : CalOK P cal) (hbody : ∀ f, (∃ vs h r, cal f vs h = some r) → ∃ fn, P.funcs[f]? = some fn ∧ fn.body.isSome = true ∧ (fn.name == "runtime.NumGoroutine") = false) {ρ : Rho} {h h' : H} (hw : WR ρ h w) {o : Oper} {a : Act} {k : K} {xs : List Operand} {vs : List V} {v : V}
    (ho : opOf P o = some (k, xs)) (hs : VRs ρ vs (xs.map a.eval)) (hv : semK cal k vs h = some (v, h')) {KK : Act → World → Prop} {Q : Exit → Act → World → Prop} (hK : ∀ u w' ρ', VR ρ' v u → WR ρ' h' w' → St ρ h ρ' h' → KK (a.put o.dst u) w') : o.wp P a w KK Q := by
  have hkind : k.kind = 0 ∨ k.kind = 1 ∨ k.kind = 2 ∨ k = .call := by cases k <;> simp [K.kind]
  unfold Oper.wp
  rcases hkind with hk | hk | hk | rfl
  · obtain ⟨hf, rfl⟩ := semK_F hk hv
    obtain ⟨u, hr, hR⟩ := f_sound hw ho hs hf
    rw [hr]
    exact hK u w ρ hR hw (St.refl _ _)
  · obtain ⟨cs, mk, hA, rfl, rfl⟩ := semK_A hk hv
    obtain ⟨u, arr, e, hr, hR, hmk⟩ := a_sound (w := w) ho hs hA
    rw [hr]
    obtain ⟨h1, h2⟩ := hw.fresh (cs := cs) (arr := arr) (e := e) (fun i v hv => by obtain ⟨u, hu, huv⟩ := hR.at_ hv; exact ⟨u, by simpa using hu, huv⟩)
    exact hK u _ _ (hmk _ _ (if_pos rfl)) h1 h2
  · have hE := semK_E hk hv
    obtain ⟨u, w', ρ', hr, hR, h1, h2⟩ := e_sound hw ho hs hE
    rcases hr with hr | ⟨hr, rfl⟩
    · rw [hr]
      exact hK u w' ρ' hR h1 h2
    · rw [hr]
      exact hK undef w' ρ' hR h1 h2
  · obtain ⟨f, args, tys, hop, rfl⟩ := opOf_call ho
    simp only [semK, rC] at hv
    split at hv
    · rename_i id caps ws
      obtain ⟨p, ps, he, h1, h2⟩ := hs.cons_inv
      obtain ⟨cs, rfl, hcs⟩ := h1.fn_inv
      simp only [List.map_cons] at he
      injection he with q1 q2
      obtain ⟨fn, hfn, hbd, hnm⟩ := hbody id ⟨_, _, _, hv⟩
      have hc := hcal id _ h v h' hv ρ w (ps ++ cs.toList) hw (h2.append hcs)
      have hrun : (execOp a.eval o).run P w = .ok (.enter id (ps ++ cs.toList).toArray) w := by
        have hargs : args.map a.eval ++ cs = (ps ++ cs.toList).toArray := by
          apply Array.toList_inj.1
          simp [← q2]
        have hbn : fn.body.isNone = false := by cases hb : fn.body <;> simp_all
        have hnm' : ¬ (fn.name = "runtime.NumGoroutine") := by simpa using hnm
        unfold execOp
        rw [hop]
        simp [resolve, Deferred.ofValue, q1, invoke, callFunc, hfn, hnm', hargs]
        intro hnone
        rw [hnone] at hbd
        cases hbd
      rw [hrun]
      show Calls P id _ w _
      refine hc.mono fun e w' he => ?_
      obtain ⟨u, ρ', rfl, hR, hw', hst⟩ := he
      exact hK u w' ρ' hR hw' hst
    · cases hv
end
end Ev
end Go.Proofs.YtbcmcdmflblgkaaGreatDoor

namespace Go.Proofs.YtbcmcdmflblgkaaGreatDoor
namespace Ev
open Go.RowKit
set_option linter.unusedVariables false
set_option linter.unusedSectionVars false
variable [bs : Base]
abbrev TM := Nat → Option V
def tmO (tm : TM) : Operand → Option V
  | .tmp t => tm t
  | .const v => some (ofV v)
  | .func f => some (.fn f [])
  | .global _ => none
def tmOs (tm : TM) : List Operand → Option (List V)
  | [] => some []
  | x :: xs => ob (tmO tm x) fun v => ob (tmOs tm xs) fun vs => some (v :: vs)
def tset (tm : TM) (d : Option Nat) (v : V) : TM := match d with
  | none => tm
  | some t => fun s => if s = t then some v else tm s
/-- does the operation's guard hold? -/
def gTm (ops : Array Oper) (tm : TM) (g : Option (Nat × Bool)) : Option Bool := match g with
  | none => some true
  | some (j, want) => match (ops[j]?).bind (·.dst) with
    | some t => ob (tm t) (goesV want)
    | none => none
def inRange (n : Nat) (d : Option Nat) : Bool := match d with
  | none => true
  | some t => Nat.ble (t + 1) n
/-- an operation's values -/
def valsOf (P : Program) (tm : TM) (o : Oper) : Option (K × List V) := ob (opOf P o) fun x => ob (tmOs tm x.2) fun vs => some (x.1, vs)
def specOp (P : Program) (cal : Cal) (n : Nat) (ops : Array Oper) (o : Oper) (tm : TM) (h : H) : Option (TM × H) := io (inRange n o.dst) (ob (gTm ops tm o.guard) fun b =>
  match b with
  | true => ob (valsOf P tm o) fun x => ob (semK cal x.1 x.2 h) fun r => some (tset tm o.dst r.1, r.2)
  | false => some (tset tm o.dst (.lit undef), h))
def specs (P : Program) (cal : Cal) (n : Nat) (ops : Array Oper) : List Oper → TM → H → Option (TM × H)
  | [], tm, h => some (tm, h)
  | o :: os, tm, h => ob (specOp P cal n ops o tm h) fun r => specs P cal n ops os r.1 r.2
/-- the slots that count hold what they stand for -/
def AR (ρ : Rho) (n : Nat) (S : Nat → Prop) (tm : TM) (a : Act) : Prop := a.tmps.size = n ∧ ∀ t v, S t → tm t = some v → VR ρ v (a.tmps.getD t undef)
theorem AR.ext {ρ ρ' : Rho} {n : Nat} {S : Nat → Prop} {tm : TM} {a : Act} (e : Ext ρ ρ') (h : AR ρ n S tm a) : AR ρ' n S tm a := ⟨h.1, fun t v hs hv => (h.2 t v hs hv).ext e⟩
theorem AR.less {ρ : Rho} {n : Nat} {S S' : Nat → Prop} {tm : TM} {a : Act} (h : AR ρ n S tm a) (hs : ∀ t, S' t → S t) : AR ρ n S' tm a := ⟨h.1, fun t v h1 h2 => h.2 t v (hs t h1) h2⟩
theorem AR.put {ρ : Rho} {n : Nat} {S S' : Nat → Prop} {tm : TM} {a : Act} {d : Option Nat} {v : V} {u : Value} (h : AR ρ n S tm a) (hd : inRange n d = true) (hv : VR ρ v u) (hS : ∀ t, S' t → S t ∨ d = some t) : AR ρ n S' (tset tm d v) (a.put d u) := by
  cases d with
  | none =>
    refine ⟨h.1, fun t w hs hw => ?_⟩
    rcases hS t hs with h1 | h1
    · exact h.2 t w h1 hw
    · cases h1
  | some k =>
    have hk : k < n := by have := Nat.le_of_ble_eq_true hd; omega
    refine ⟨by simp [Act.put, h.1], fun t w hs hw => ?_⟩
    unfold tset at hw
    simp only at hw
    by_cases e : t = k
    · subst e
      rw [if_pos rfl] at hw
      injection hw with hw
      subst hw
      have : (a.put (some t) u).tmps.getD t undef = u := by simp [Act.put, Array.getD, h.1, hk]
      rw [this]
      exact hv
    · rw [if_neg e] at hw
      have h1 : S t := by
        rcases hS t hs with h1 | h1
        · exact h1
        · injection h1 with h1; exact absurd h1.symm e
      have : (a.put (some k) u).tmps.getD t undef = a.tmps.getD t undef := by
        simp only [Act.put]
        rw [Array.getD_eq_getD_getElem?, Array.getD_eq_getD_getElem?, Array.getElem?_setIfInBounds_ne (Ne.symm e)]
      rw [this]
      exact h.2 t w h1 hw
/-- the slots that an operation looks at -/
def looks (ops : Array Oper) (o : Oper) (xs : List Operand) (t : Nat) : Prop := .tmp t ∈ xs ∨ ∃ j want, o.guard = some (j, want) ∧ (ops[j]?).bind (·.dst) = some t
theorem tmO_rel {ρ : Rho} {n : Nat} {S : Nat → Prop} {tm : TM} {a : Act} (hA : AR ρ n S tm a) {x : Operand} {v : V} (hx : ∀ t, x = .tmp t → S t) (hv : tmO tm x = some v) : VR ρ v (a.eval x) := by
  cases x with
  | tmp t => exact hA.2 t v (hx t rfl) hv
  | const c => injection hv with hv; subst hv; exact ofV_rel ρ c
  | func f => injection hv with hv; subst hv; exact .fn rfl (fun i v c h => by simp at h)
  | global g => cases hv
theorem tmOs_rel {ρ : Rho} {n : Nat} {S : Nat → Prop} {tm : TM} {a : Act} (hA : AR ρ n S tm a) : ∀ {xs : List Operand} {vs : List V}, (∀ t, .tmp t ∈ xs → S t) → tmOs tm xs = some vs → VRs ρ vs (xs.map a.eval)
  | [], vs, _, h => by injection h with h; subst h; exact VRs.nil ρ
  | x :: xs, vs, hS, h => by
    obtain ⟨v, hv, h⟩ := ob_some h
    obtain ⟨r, hr, h⟩ := ob_some h
    injection h with h
    subst h
    exact VRs.cons (tmO_rel hA (fun t e => hS t (by rw [e]; simp)) hv) (tmOs_rel hA (fun t ht => hS t (List.mem_cons_of_mem _ ht)) hr)
theorem goesV_rel {ρ : Rho} {v : V} {u : Value} {want b : Bool} (hv : VR ρ v u) (hg : goesV want v = some b) : ((match (some u : Option Value) with | some (.bool c) => some c | _ => none) == some want) = b := by
  unfold goesV at hg
  split at hg
  · obtain rfl := hv.boo_inv
    injection hg with hg
  · obtain rfl := hv.lit_inv
    injection hg with hg
  · cases hg
theorem gTm_rel {ρ : Rho} {n : Nat} {S : Nat → Prop} {tm : TM} {a : Act} {ops : Array Oper} {o : Oper} {b : Bool} (hA : AR ρ n S tm a) (hb : ∀ (j : Nat) (d : Nat), (ops[j]?).bind (fun o => o.dst) = some d → d < n) (hS : ∀ (j : Nat) want t, o.guard = some (j, want) → (ops[j]?).bind (·.dst) = some t → S t) (hg : gTm ops tm o.guard = some b) :
    Region.wanted o (yielded ops a.tmps) = b := by
  unfold gTm at hg
  unfold Region.wanted
  cases hgd : o.guard with
  | none => rw [hgd] at hg; injection hg
  | some p =>
    obtain ⟨j, want⟩ := p
    rw [hgd] at hg
    simp only at hg ⊢
    cases hd : (ops[j]?).bind (·.dst) with
    | none => rw [hd] at hg; cases hg
    | some t =>
      rw [hd] at hg
      obtain ⟨v, hv, hg⟩ := ob_some hg
      have hR := hA.2 t v (hS j want t hgd hd) hv
      have hlt : t < a.tmps.size := by rw [hA.1]; exact hb j t hd
      have e : a.tmps[t]? = some (a.tmps.getD t undef) := by simp [Array.getD, hlt]
      unfold yielded
      rw [hd]
      simp only [Option.bind_some, e]
      exact goesV_rel hR hg
def dstsIn (n : Nat) (ops : Array Oper) : Prop := ∀ (j d : Nat), (ops[j]?).bind (fun o => o.dst) = some d → d < n
/-- rules that call: the functions have bodies -/
def Bodied (P : Program) (cal : Cal) : Prop := ∀ f, (∃ vs h r, cal f vs h = some r) → ∃ fn, P.funcs[f]? = some fn ∧ fn.body.isSome = true ∧ (fn.name == "runtime.NumGoroutine") = false
section
variable {P : Program} {cal : Cal}
theorem put_defers (a : Act) (d : Option Nat) (u : Value) : (a.put d u).defers = a.defers := by cases d <;> rfl
/-- one operation -/
theorem specOp_sound (hcal : CalOK P cal) (hbody : Bodied P cal) {n : Nat} {ops : Array Oper} {o : Oper} {tm tm' : TM} {h h' : H} (hs : specOp P cal n ops o tm h = some (tm', h')) {ρ : Rho} {S : Nat → Prop} {a : Act} {w : World} (hA : AR ρ n S tm a) (hw : WR ρ h w) (hin : dstsIn n ops)
    (hS : ∀ xs k t, opOf P o = some (k, xs) → .tmp t ∈ xs → S t) (hG : ∀ j want t, o.guard = some (j, want) → (ops[j]?).bind (·.dst) = some t → S t) {K : Act → World → Prop} {Q : Exit → Act → World → Prop}
    (hK : ∀ ρ' a' w', AR ρ' n (fun t => S t ∨ o.dst = some t) tm' a' → a'.defers = a.defers → WR ρ' h' w' → St ρ h ρ' h' → K a' w') :
    if Region.wanted o (yielded ops a.tmps) then o.wp P a w K Q ∨ (o.asks P a w ∧ LetsOut Q) else K (a.put o.dst undef) w := by
  unfold specOp at hs
  obtain ⟨hr, hs⟩ := io_some hs
  obtain ⟨b, hb, hs⟩ := ob_some hs
  rw [gTm_rel hA hin hG hb]
  cases b with
  | true =>
    rw [if_pos rfl]
    left
    obtain ⟨⟨k, vs⟩, hx, hs⟩ := ob_some hs
    obtain ⟨⟨v, h1⟩, hv, hs⟩ := ob_some hs
    injection hs with hs
    injection hs with e1 e2
    subst e1 e2
    obtain ⟨⟨k', xs⟩, ho, hx⟩ := ob_some hx
    obtain ⟨vs', hvs, hx⟩ := ob_some hx
    injection hx with hx
    injection hx with e1 e2
    subst e1 e2
    refine oper_sound hcal hbody hw ho (tmOs_rel hA (fun t ht => hS xs k' t ho ht) hvs) hv fun u w' ρ' h2 h3 h4 => ?_
    exact hK ρ' _ w' ((hA.ext (h4.ext hw)).put hr h2 (fun t ht => ht)) (put_defers _ _ _) h3 h4
  | false =>
    rw [if_neg (by decide)]
    injection hs with hs
    injection hs with e1 e2
    subst e1 e2
    exact hK ρ _ w (hA.put hr (.lit undef) (fun t ht => ht)) (put_defers _ _ _) hw (St.refl _ _)
abbrev All : Nat → Prop := fun _ => True
theorem specs_sound (hcal : CalOK P cal) (hbody : Bodied P cal) {n : Nat} {ops : Array Oper} (hin : dstsIn n ops) {Q : Exit → Act → World → Prop} : ∀ (l : List Oper) {tm tm' : TM} {h h' : H} (hs : specs P cal n ops l tm h = some (tm', h')) {ρ : Rho} {a : Act} {w : World} (hA : AR ρ n All tm a) (hw : WR ρ h w)
    (hQ : ∀ ρ' a' w', AR ρ' n All tm' a' → a'.defers = a.defers → WR ρ' h' w' → St ρ h ρ' h' → Q .normal a' w'), wpList P ops Q l a w
  | [], tm, tm', h, h', hs, ρ, a, w, hA, hw, hQ => by
    injection hs with hs
    injection hs with e1 e2
    subst e1 e2
    exact hQ ρ a w hA rfl hw (St.refl _ _)
  | o :: os, tm, tm', h, h', hs, ρ, a, w, hA, hw, hQ => by
    obtain ⟨⟨tm1, h1⟩, h2, hs⟩ := ob_some hs
    show (if Region.wanted o (yielded ops a.tmps) then o.wp P a w (wpList P ops Q os) Q ∨ (o.asks P a w ∧ LetsOut Q) else wpList P ops Q os (a.put o.dst undef) w)
    refine specOp_sound hcal hbody h2 hA hw hin (fun _ _ _ _ _ => trivial) (fun _ _ _ _ _ => trivial) fun ρ1 a1 w1 g1 g2 g3 g4 => ?_
    exact specs_sound hcal hbody hin os hs (g1.less (fun _ _ => .inl trivial)) g3 fun ρ' a' w' k1 k2 k3 k4 => hQ ρ' a' w' k1 (k2.trans g2) k3 (g4.trans k4)
theorem reg_sound (hcal : CalOK P cal) (hbody : Bodied P cal) {n id : Nat} {ops : Array Oper} (hin : dstsIn n ops) {Q : Exit → Act → World → Prop} {tm tm' : TM} {h h' : H} (hs : specs P cal n ops ops.toList tm h = some (tm', h')) {ρ : Rho} {a : Act} {w : World} (hA : AR ρ n All tm a) (hw : WR ρ h w)
    (hQ : ∀ ρ' a' w', AR ρ' n All tm' a' → a'.defers = a.defers → WR ρ' h' w' → St ρ h ρ' h' → Q .normal a' w') : (Code.region id ops false).wp P Q a w := wp_region_list (specs_sound hcal hbody hin ops.toList hs hA hw hQ)
end
end Ev
end Go.Proofs.YtbcmcdmflblgkaaGreatDoor
