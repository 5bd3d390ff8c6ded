/-
  Nw1: the contract of sum.on as the evaluator's own rule has it.
-/
import Derived.Test.YtbcmcdmflblgkaaGreatDoorSnd14
import Derived.Test.YtbcmcdmflblgkaaGreatDoorNat
import Derived.Test.YtbcmcdmflblgkaaGreatDoorSumw
namespace Go.Proofs.YtbcmcdmflblgkaaGreatDoor
namespace Ev
open Go.RowKit
set_option linter.unusedVariables false
set_option linter.unusedSectionVars false
variable [bs : Base]
/-- what a native's contract is -/
def NatOK (P : Program) (f : Nat) (g : List V → H → Option (V × H)) : Prop := ∀ vs h v h', g vs h = some (v, h') → ∀ (ρ : Rho) (w : World) (us : List Value), WR ρ h w → VRs ρ vs us → Calls P f us.toArray w fun e w' => ∃ u ρ', e = .returned u ∧ VR ρ' v u ∧ WR ρ' h' w' ∧ St ρ h ρ' h'
theorem bytesV_at : ∀ {cs : List V} {l : List Nat}, bytesV cs = some l → l.length = cs.length ∧ (∀ c ∈ l, c < 256) ∧ ∀ j, j < cs.length → cs[j]? = some (.int .u8 (.ofNat (l.getD j 0)))
  | [], l, h => by
    injection h with h
    subst h
    simp
  | c :: cs, l, h => by
    unfold bytesV at h
    split at h
    · simp at *
    · next n vs e =>
      injection e with e1 e2
      subst e1 e2
      obtain ⟨hb, h⟩ := io_some h
      obtain ⟨l', h1, h⟩ := ob_some h
      injection h with h
      subst h
      obtain ⟨g1, g2, g3⟩ := bytesV_at h1
      have := Nat.le_of_ble_eq_true hb
      refine ⟨by simp [g1], fun c hc => ?_, fun j hj => ?_⟩
      · rcases List.mem_cons.1 hc with e | hc
        · omega
        · exact g2 c hc
      · cases j with
        | zero => rfl
        | succ j => exact g3 j (by simpa using hj)
    · cases h
theorem bit1_eq (r : Nat) : bit1 r = Crc.step r := by
  unfold bit1 Crc.step
  by_cases h : r % 2 = 1
  · rw [if_pos h, show Nat.mod r 2 = r % 2 from rfl, h]
    rfl
  · have : r % 2 = 0 := by omega
    rw [if_neg h, show Nat.mod r 2 = r % 2 from rfl, this]
    rfl
theorem down8_eq (r : Nat) : down8 r = Crc.eight r := by
  unfold down8 Crc.eight
  simp only [Crc.steps, bit1_eq]
theorem crcOn_eq : ∀ (l : List Nat) (r : Nat), (∀ c ∈ l, c < 256) → crcOn l r = Crc.on r l
  | [], r, _ => rfl
  | c :: cs, r, h => by
    show crcOn cs (Nat.xor (Nat.div r 256) (down8 (Nat.xor (Nat.mod r 256) c))) = Crc.on (Crc.eight (r ^^^ c)) cs
    rw [crcOn_eq cs _ (fun x hx => h x (List.mem_cons_of_mem _ hx)), down8_eq]
    have := Crc.eight_split r c (h c (by simp))
    rw [← this]
    rfl
theorem sl_flat {ρ : Rho} {sz : Nat} {v : V} {A : Option Addr} {n c : Nat} {h : H} {cs : List V} (hv : VR ρ v (.slice A n c)) (hh : held sz v h = some cs) (hn : 0 < n) : ∃ b o, A = some ⟨b, o, none⟩ := by
  cases v with
  | nils =>
    have := hv.nils_inv
    injection this with e1 e2 e3
    omega
  | sl b o n' c' ex k =>
    obtain ⟨B, s, L, ad, c'', hr, e, h1, h2, h3, h4, h5, h6⟩ := hv.sl_inv
    injection e with e1 e2 e3
    rcases h5 with h5 | h5
    · omega
    · exact ⟨_, _, by rw [e1, h5]⟩
  | _ => cases hh
theorem slen_le {ρ : Rho} {v : V} {A : Option Addr} {n c : Nat} (hv : VR ρ v (.slice A n c)) {m : Nat} (hm : slen v = some m) : n ≤ maxLen := by
  cases v with
  | nils =>
    have := hv.nils_inv
    injection this with e1 e2 e3
    omega
  | sl b o n' c' ex k =>
    obtain ⟨B, s, L, ad, c'', hr, e, h1, h2, h3, h4, h5, h6⟩ := hv.sl_inv
    injection e with e1 e2 e3
    omega
  | _ => cases hm
theorem nOn_ok : NatOK Tryz.prog 130 nOn := by
  intro vs h v h' he ρ w us hw hs
  unfold nOn at he
  split at he
  · next r b =>
    obtain ⟨hr, he⟩ := io_some he
    obtain ⟨cs, hc, he⟩ := ob_some he
    obtain ⟨l, hl, he⟩ := ob_some he
    injection he with he
    injection he with e1 e2
    subst e1 e2
    obtain ⟨x, y, rfl, h1, h2⟩ := hs.two_inv
    obtain rfl := h1.int_inv
    obtain ⟨A, n, c, ys, rfl, hsl, hlen, hR, hcell⟩ := held_rel hw h2 hc
    obtain ⟨g1, g2, g3⟩ := bytesV_at hl
    have hr := Nat.le_of_ble_eq_true hr
    rw [crcOn_eq l r g2]
    refine (on_any r A n c l w (by omega) ⟨by rw [g1, hR.1, hlen, Nat.mul_one], g2, fun hn => ?_⟩ (slen_le h2 hsl)).mono ?_
    · obtain ⟨b', o, e⟩ := sl_flat h2 hc hn
      obtain ⟨a, e', hcl⟩ := hcell hn
      rw [e] at e'
      injection e' with e'
      subst e'
      refine ⟨b', o, e, fun j hj => ?_⟩
      have hj' : j < cs.length := by rw [hR.1, hlen]; omega
      obtain ⟨u, hu, hv⟩ := hR.at_ (g3 j hj')
      obtain rfl := hv.int_inv
      have := hcl j _ hu
      rw [add_flat] at this
      exact this
    · rintro e w' ⟨rfl, rfl⟩
      exact ⟨_, ρ, rfl, .int _ _, hw, St.refl _ _⟩
  · cases he
end Ev
end Go.Proofs.YtbcmcdmflblgkaaGreatDoor
