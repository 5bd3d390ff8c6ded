/-
  Tab: the tables, and that they are right.
-/
import Derived.Test.YtbcmcdmflblgkaaGreatDoorOk0
import Derived.Test.YtbcmcdmflblgkaaGreatDoorOk1
import Derived.Test.YtbcmcdmflblgkaaGreatDoorOk2
import Derived.Test.YtbcmcdmflblgkaaGreatDoorOk3
import Derived.Test.YtbcmcdmflblgkaaGreatDoorDr3
import Derived.Test.YtbcmcdmflblgkaaGreatDoorNw5
import Derived.Test.YtbcmcdmflblgkaaGreatDoorNw6
import Derived.Test.YtbcmcdmflblgkaaGreatDoorNw7
namespace Go.Proofs.YtbcmcdmflblgkaaGreatDoor
namespace Ev
open Go.RowKit
set_option linter.unusedVariables false
set_option linter.unusedSectionVars false
theorem irs_ok (f : Nat) (F : FR2) (e : irs f = some F) : OkF f F :=
  (spF e (fun e => (spF e (fun e => (spF e (fun e => (spF e (fun e => (spF e (fun e => (spF e (fun e => (spF e (fun e => (spF e (fun e => (leafF ok5 e)) (fun e => (leafF ok7 e)))) (fun e => (spF e (fun e => (leafF ok8 e)) (fun e => (leafF ok9 e)))))) (fun e => (spF e (fun e => (spF e (fun e => (leafF ok10 e)) (fun e => (leafF ok11 e)))) (fun e => (spF e (fun e => (leafF ok12 e)) (fun e => (leafF ok13 e)))))))) (fun e => (spF e (fun e => (spF e (fun e => (spF e (fun e => (leafF ok17 e)) (fun e => (leafF ok18 e)))) (fun e => (spF e (fun e => (leafF ok20 e)) (fun e => (leafF ok22 e)))))) (fun e => (spF e (fun e => (spF e (fun e => (leafF ok23 e)) (fun e => (leafF ok24 e)))) (fun e => (spF e (fun e => (leafF ok25 e)) (fun e => (leafF ok26 e)))))))))) (fun e => (spF e (fun e => (spF e (fun e => (spF e (fun e => (spF e (fun e => (leafF ok27 e)) (fun e => (leafF ok28 e)))) (fun e => (spF e (fun e => (leafF ok29 e)) (fun e => (leafF ok30 e)))))) (fun e => (spF e (fun e => (spF e (fun e => (leafF ok31 e)) (fun e => (leafF ok32 e)))) (fun e => (spF e (fun e => (leafF ok33 e)) (fun e => (leafF ok34 e)))))))) (fun e => (spF e (fun e => (spF e (fun e => (spF e (fun e => (leafF ok35 e)) (fun e => (leafF ok37 e)))) (fun e => (spF e (fun e => (leafF ok38 e)) (fun e => (leafF ok40 e)))))) (fun e => (spF e (fun e => (spF e (fun e => (leafF ok42 e)) (fun e => (leafF ok43 e)))) (fun e => (spF e (fun e => (leafF ok44 e)) (fun e => (spF e (fun e => (leafF ok45 e)) (fun e => (leafF ok46 e)))))))))))))) (fun e => (spF e (fun e => (spF e (fun e => (spF e (fun e => (spF e (fun e => (spF e (fun e => (leafF ok47 e)) (fun e => (leafF ok48 e)))) (fun e => (spF e (fun e => (leafF ok49 e)) (fun e => (leafF ok50 e)))))) (fun e => (spF e (fun e => (spF e (fun e => (leafF ok51 e)) (fun e => (leafF ok52 e)))) (fun e => (spF e (fun e => (leafF ok53 e)) (fun e => (leafF ok54 e)))))))) (fun e => (spF e (fun e => (spF e (fun e => (spF e (fun e => (leafF ok55 e)) (fun e => (leafF ok56 e)))) (fun e => (spF e (fun e => (leafF ok57 e)) (fun e => (leafF ok58 e)))))) (fun e => (spF e (fun e => (spF e (fun e => (leafF ok59 e)) (fun e => (leafF ok60 e)))) (fun e => (spF e (fun e => (leafF ok61 e)) (fun e => (leafF ok62 e)))))))))) (fun e => (spF e (fun e => (spF e (fun e => (spF e (fun e => (spF e (fun e => (leafF ok63 e)) (fun e => (leafF ok64 e)))) (fun e => (spF e (fun e => (leafF ok65 e)) (fun e => (leafF ok66 e)))))) (fun e => (spF e (fun e => (spF e (fun e => (leafF ok67 e)) (fun e => (leafF ok68 e)))) (fun e => (spF e (fun e => (leafF ok69 e)) (fun e => (leafF ok70 e)))))))) (fun e => (spF e (fun e => (spF e (fun e => (spF e (fun e => (leafF ok71 e)) (fun e => (leafF ok72 e)))) (fun e => (spF e (fun e => (leafF ok73 e)) (fun e => (leafF ok74 e)))))) (fun e => (spF e (fun e => (spF e (fun e => (leafF ok75 e)) (fun e => (leafF ok76 e)))) (fun e => (spF e (fun e => (leafF ok78 e)) (fun e => (spF e (fun e => (leafF ok79 e)) (fun e => (leafF ok80 e)))))))))))))))) (fun e => (spF e (fun e => (spF e (fun e => (spF e (fun e => (spF e (fun e => (spF e (fun e => (spF e (fun e => (leafF ok81 e)) (fun e => (leafF ok82 e)))) (fun e => (spF e (fun e => (leafF ok83 e)) (fun e => (leafF ok84 e)))))) (fun e => (spF e (fun e => (spF e (fun e => (leafF ok86 e)) (fun e => (leafF ok87 e)))) (fun e => (spF e (fun e => (leafF ok88 e)) (fun e => (leafF ok89 e)))))))) (fun e => (spF e (fun e => (spF e (fun e => (spF e (fun e => (leafF ok90 e)) (fun e => (leafF ok91 e)))) (fun e => (spF e (fun e => (leafF ok92 e)) (fun e => (leafF ok93 e)))))) (fun e => (spF e (fun e => (spF e (fun e => (leafF ok94 e)) (fun e => (leafF ok95 e)))) (fun e => (spF e (fun e => (leafF ok96 e)) (fun e => (leafF ok98 e)))))))))) (fun e => (spF e (fun e => (spF e (fun e => (spF e (fun e => (spF e (fun e => (leafF ok99 e)) (fun e => (leafF ok100 e)))) (fun e => (spF e (fun e => (leafF ok101 e)) (fun e => (leafF ok102 e)))))) (fun e => (spF e (fun e => (spF e (fun e => (leafF ok103 e)) (fun e => (leafF ok104 e)))) (fun e => (spF e (fun e => (leafF ok105 e)) (fun e => (leafF ok107 e)))))))) (fun e => (spF e (fun e => (spF e (fun e => (spF e (fun e => (leafF ok108 e)) (fun e => (leafF ok109 e)))) (fun e => (spF e (fun e => (leafF ok110 e)) (fun e => (leafF ok111 e)))))) (fun e => (spF e (fun e => (spF e (fun e => (leafF ok112 e)) (fun e => (leafF ok113 e)))) (fun e => (spF e (fun e => (leafF ok115 e)) (fun e => (spF e (fun e => (leafF ok116 e)) (fun e => (leafF ok117 e)))))))))))))) (fun e => (spF e (fun e => (spF e (fun e => (spF e (fun e => (spF e (fun e => (spF e (fun e => (leafF ok118 e)) (fun e => (leafF ok119 e)))) (fun e => (spF e (fun e => (leafF ok120 e)) (fun e => (leafF ok121 e)))))) (fun e => (spF e (fun e => (spF e (fun e => (leafF ok122 e)) (fun e => (leafF ok123 e)))) (fun e => (spF e (fun e => (leafF ok124 e)) (fun e => (leafF ok125 e)))))))) (fun e => (spF e (fun e => (spF e (fun e => (spF e (fun e => (leafF ok126 e)) (fun e => (leafF ok127 e)))) (fun e => (spF e (fun e => (leafF ok128 e)) (fun e => (leafF ok129 e)))))) (fun e => (spF e (fun e => (spF e (fun e => (leafF ok131 e)) (fun e => (leafF ok132 e)))) (fun e => (spF e (fun e => (leafF ok133 e)) (fun e => (spF e (fun e => (leafF ok134 e)) (fun e => (leafF ok135 e)))))))))))) (fun e => (spF e (fun e => (spF e (fun e => (spF e (fun e => (spF e (fun e => (leafF ok136 e)) (fun e => (leafF ok137 e)))) (fun e => (spF e (fun e => (leafF ok138 e)) (fun e => (leafF ok139 e)))))) (fun e => (spF e (fun e => (spF e (fun e => (leafF ok140 e)) (fun e => (leafF ok141 e)))) (fun e => (spF e (fun e => (leafF ok142 e)) (fun e => (leafF ok143 e)))))))) (fun e => (spF e (fun e => (spF e (fun e => (spF e (fun e => (leafF ok144 e)) (fun e => (leafF ok145 e)))) (fun e => (spF e (fun e => (leafF ok146 e)) (fun e => (leafF ok147 e)))))) (fun e => (spF e (fun e => (spF e (fun e => (leafF ok148 e)) (fun e => (leafF ok149 e)))) (fun e => (spF e (fun e => (leafF ok150 e)) (fun e => (spF e (fun e => (leafF ok151 e)) (fun e => (leafF ok152 e)))))))))))))))))) (fun e => (spF e (fun e => (spF e (fun e => (spF e (fun e => (spF e (fun e => (spF e (fun e => (spF e (fun e => (spF e (fun e => (leafF ok153 e)) (fun e => (leafF ok154 e)))) (fun e => (spF e (fun e => (leafF ok155 e)) (fun e => (leafF ok157 e)))))) (fun e => (spF e (fun e => (spF e (fun e => (leafF ok158 e)) (fun e => (leafF ok159 e)))) (fun e => (spF e (fun e => (leafF ok160 e)) (fun e => (leafF ok161 e)))))))) (fun e => (spF e (fun e => (spF e (fun e => (spF e (fun e => (leafF ok162 e)) (fun e => (leafF ok163 e)))) (fun e => (spF e (fun e => (leafF ok164 e)) (fun e => (leafF ok166 e)))))) (fun e => (spF e (fun e => (spF e (fun e => (leafF ok167 e)) (fun e => (leafF ok168 e)))) (fun e => (spF e (fun e => (leafF ok169 e)) (fun e => (leafF ok170 e)))))))))) (fun e => (spF e (fun e => (spF e (fun e => (spF e (fun e => (spF e (fun e => (leafF ok171 e)) (fun e => (leafF ok172 e)))) (fun e => (spF e (fun e => (leafF ok173 e)) (fun e => (leafF ok174 e)))))) (fun e => (spF e (fun e => (spF e (fun e => (leafF ok175 e)) (fun e => (leafF ok178 e)))) (fun e => (spF e (fun e => (leafF ok180 e)) (fun e => (leafF ok181 e)))))))) (fun e => (spF e (fun e => (spF e (fun e => (spF e (fun e => (leafF ok182 e)) (fun e => (leafF ok183 e)))) (fun e => (spF e (fun e => (leafF ok184 e)) (fun e => (leafF ok185 e)))))) (fun e => (spF e (fun e => (spF e (fun e => (leafF ok186 e)) (fun e => (leafF ok187 e)))) (fun e => (spF e (fun e => (leafF ok188 e)) (fun e => (spF e (fun e => (leafF ok190 e)) (fun e => (leafF ok191 e)))))))))))))) (fun e => (spF e (fun e => (spF e (fun e => (spF e (fun e => (spF e (fun e => (spF e (fun e => (leafF ok192 e)) (fun e => (leafF ok193 e)))) (fun e => (spF e (fun e => (leafF ok194 e)) (fun e => (leafF ok195 e)))))) (fun e => (spF e (fun e => (spF e (fun e => (leafF ok196 e)) (fun e => (leafF ok197 e)))) (fun e => (spF e (fun e => (leafF ok198 e)) (fun e => (leafF ok201 e)))))))) (fun e => (spF e (fun e => (spF e (fun e => (spF e (fun e => (leafF ok202 e)) (fun e => (leafF ok203 e)))) (fun e => (spF e (fun e => (leafF ok204 e)) (fun e => (leafF ok205 e)))))) (fun e => (spF e (fun e => (spF e (fun e => (leafF ok206 e)) (fun e => (leafF ok207 e)))) (fun e => (spF e (fun e => (leafF ok208 e)) (fun e => (spF e (fun e => (leafF ok209 e)) (fun e => (leafF ok210 e)))))))))))) (fun e => (spF e (fun e => (spF e (fun e => (spF e (fun e => (spF e (fun e => (leafF ok214 e)) (fun e => (leafF ok215 e)))) (fun e => (spF e (fun e => (leafF ok216 e)) (fun e => (leafF ok217 e)))))) (fun e => (spF e (fun e => (spF e (fun e => (leafF ok218 e)) (fun e => (leafF ok220 e)))) (fun e => (spF e (fun e => (leafF ok221 e)) (fun e => (leafF ok222 e)))))))) (fun e => (spF e (fun e => (spF e (fun e => (spF e (fun e => (leafF ok223 e)) (fun e => (leafF ok224 e)))) (fun e => (spF e (fun e => (leafF ok225 e)) (fun e => (leafF ok229 e)))))) (fun e => (spF e (fun e => (spF e (fun e => (leafF ok230 e)) (fun e => (leafF ok231 e)))) (fun e => (spF e (fun e => (leafF ok232 e)) (fun e => (spF e (fun e => (leafF ok233 e)) (fun e => (leafF ok234 e)))))))))))))))) (fun e => (spF e (fun e => (spF e (fun e => (spF e (fun e => (spF e (fun e => (spF e (fun e => (spF e (fun e => (leafF ok235 e)) (fun e => (leafF ok236 e)))) (fun e => (spF e (fun e => (leafF ok237 e)) (fun e => (leafF ok238 e)))))) (fun e => (spF e (fun e => (spF e (fun e => (leafF ok239 e)) (fun e => (leafF ok240 e)))) (fun e => (spF e (fun e => (leafF ok241 e)) (fun e => (leafF ok242 e)))))))) (fun e => (spF e (fun e => (spF e (fun e => (spF e (fun e => (leafF ok243 e)) (fun e => (leafF ok244 e)))) (fun e => (spF e (fun e => (leafF ok246 e)) (fun e => (leafF ok247 e)))))) (fun e => (spF e (fun e => (spF e (fun e => (leafF ok249 e)) (fun e => (leafF ok250 e)))) (fun e => (spF e (fun e => (leafF ok251 e)) (fun e => (leafF ok252 e)))))))))) (fun e => (spF e (fun e => (spF e (fun e => (spF e (fun e => (spF e (fun e => (leafF ok253 e)) (fun e => (leafF ok254 e)))) (fun e => (spF e (fun e => (leafF ok256 e)) (fun e => (leafF ok257 e)))))) (fun e => (spF e (fun e => (spF e (fun e => (leafF ok258 e)) (fun e => (leafF ok260 e)))) (fun e => (spF e (fun e => (leafF ok261 e)) (fun e => (leafF ok262 e)))))))) (fun e => (spF e (fun e => (spF e (fun e => (spF e (fun e => (leafF ok263 e)) (fun e => (leafF ok265 e)))) (fun e => (spF e (fun e => (leafF ok266 e)) (fun e => (leafF ok267 e)))))) (fun e => (spF e (fun e => (spF e (fun e => (leafF ok268 e)) (fun e => (leafF ok269 e)))) (fun e => (spF e (fun e => (leafF ok272 e)) (fun e => (spF e (fun e => (leafF ok274 e)) (fun e => (leafF ok275 e)))))))))))))) (fun e => (spF e (fun e => (spF e (fun e => (spF e (fun e => (spF e (fun e => (spF e (fun e => (leafF ok278 e)) (fun e => (leafF ok279 e)))) (fun e => (spF e (fun e => (leafF ok280 e)) (fun e => (leafF ok281 e)))))) (fun e => (spF e (fun e => (spF e (fun e => (leafF ok282 e)) (fun e => (leafF ok283 e)))) (fun e => (spF e (fun e => (leafF ok287 e)) (fun e => (leafF ok288 e)))))))) (fun e => (spF e (fun e => (spF e (fun e => (spF e (fun e => (leafF ok289 e)) (fun e => (leafF ok290 e)))) (fun e => (spF e (fun e => (leafF ok291 e)) (fun e => (leafF ok292 e)))))) (fun e => (spF e (fun e => (spF e (fun e => (leafF ok293 e)) (fun e => (leafF ok294 e)))) (fun e => (spF e (fun e => (leafF ok295 e)) (fun e => (spF e (fun e => (leafF ok296 e)) (fun e => (leafF ok297 e)))))))))))) (fun e => (spF e (fun e => (spF e (fun e => (spF e (fun e => (spF e (fun e => (leafF ok298 e)) (fun e => (leafF ok300 e)))) (fun e => (spF e (fun e => (leafF ok302 e)) (fun e => (leafF ok303 e)))))) (fun e => (spF e (fun e => (spF e (fun e => (leafF ok304 e)) (fun e => (leafF ok305 e)))) (fun e => (spF e (fun e => (leafF ok306 e)) (fun e => (leafF ok307 e)))))))) (fun e => (spF e (fun e => (spF e (fun e => (spF e (fun e => (leafF ok308 e)) (fun e => (leafF ok314 e)))) (fun e => (spF e (fun e => (leafF ok315 e)) (fun e => (leafF ok318 e)))))) (fun e => (spF e (fun e => (spF e (fun e => (leafF ok319 e)) (fun e => (leafF ok320 e)))) (fun e => (spF e (fun e => (leafF ok321 e)) (fun e => (spF e (fun e => (leafF ok323 e)) (fun e => (leafF ok325 e)))))))))))))))))))
theorem follows_ : Tryz.prog.follows .mixedOrders = true := by kernel_rfl
def cal1 : Cal := evCall2 (fun _ => none) irs 12
variable [bs : Base]
theorem tab0 : TabOK Tryz.prog (fun _ => none) irs where
  ir := irs_ok
  bod := fun f g h => by cases h
  nat := fun f g h => by cases h
theorem cal1_ok : CalOK Tryz.prog cal1 := (evCall2_sound tab0 follows_ 12).1
theorem cal1_bodied : Bodied Tryz.prog cal1 := (evCall2_sound tab0 follows_ 12).2
omit bs in
theorem cal1_mono : MonC cal1 := evCall2_mono (fun f g h => by cases h) 12
noncomputable def B259 : Code := Tryz.f259.body.getD .skip
noncomputable def f259' : Func := { Tryz.f259 with body := some (.seq (cc1 B259) (.seq (cc1 (cc2 B259)) (.seq (.seq (cc1 (cc1 (cc2 (cc2 B259)))) (.block 0 .skip)) (cc2 (cc2 (cc2 B259)))))) }
omit bs in
theorem comp259 : compF Tryz.prog f259' hi259.1 (hlook hi259.2) = some ir259 := by kernel_rfl
omit bs in
theorem body259 : Tryz.f259.body = some (.seq (cc1 B259) (.seq (cc1 (cc2 B259)) (.seq (.seq (cc1 (cc1 (cc2 (cc2 B259)))) (.block 0 (.rangeFunc (.tmp 17) #[18, 19] (rf3 (bk (cc2 (cc1 (cc2 (cc2 B259)))))) (rf4 (bk (cc2 (cc1 (cc2 (cc2 B259))))))))) (cc2 (cc2 (cc2 B259)))))) := by kernel_rfl
def dread : SE := runD cal1 ir259 l6
theorem dread_ok : NatOK Tryz.prog 259 dread :=
  runD_sound (fun b => @cal1_ok b) cal1_bodied follows_ Tryz.func259 body259 comp259 (fun base e => by rw [e]; rfl)
omit bs in
theorem dread_mono : MonE dread := runD_mono cal1_mono ir259 l6
def nat (f : Nat) : Option Cal :=
  bif Nat.beq f 130 then some (fun _ => nOn) else bif Nat.beq f 259 then some (fun _ => dread) else bif Nat.beq f 219 then some (fun _ => nFind) else bif Nat.beq f 114 then some (fun _ => nCheck)
  else bif Nat.beq f 179 then some (fun _ => nBytes) else bif Nat.beq f 228 then some (fun _ => nNeed) else none
omit bs in
theorem nat_cases {f : Nat} {g : Cal} (h : nat f = some g) : (f = 130 ∧ g = fun _ => nOn) ∨ (f = 259 ∧ g = fun _ => dread) ∨ (f = 219 ∧ g = fun _ => nFind) ∨ (f = 114 ∧ g = fun _ => nCheck) ∨ (f = 179 ∧ g = fun _ => nBytes) ∨ (f = 228 ∧ g = fun _ => nNeed) := by
  unfold nat at h
  cases h1 : Nat.beq f 130 with
  | true => rw [h1] at h; injection h with h; exact .inl ⟨Nat.eq_of_beq_eq_true h1, h.symm⟩
  | false =>
  rw [h1] at h
  cases h2 : Nat.beq f 259 with
  | true => rw [h2] at h; injection h with h; exact .inr (.inl ⟨Nat.eq_of_beq_eq_true h2, h.symm⟩)
  | false =>
  rw [h2] at h
  cases h3 : Nat.beq f 219 with
  | true => rw [h3] at h; injection h with h; exact .inr (.inr (.inl ⟨Nat.eq_of_beq_eq_true h3, h.symm⟩))
  | false =>
  rw [h3] at h
  cases h4 : Nat.beq f 114 with
  | true => rw [h4] at h; injection h with h; exact .inr (.inr (.inr (.inl ⟨Nat.eq_of_beq_eq_true h4, h.symm⟩)))
  | false =>
  rw [h4] at h
  cases h5 : Nat.beq f 179 with
  | true => rw [h5] at h; injection h with h; exact .inr (.inr (.inr (.inr (.inl ⟨Nat.eq_of_beq_eq_true h5, h.symm⟩))))
  | false =>
  rw [h5] at h
  cases h6 : Nat.beq f 228 with
  | true => rw [h6] at h; injection h with h; exact .inr (.inr (.inr (.inr (.inr ⟨Nat.eq_of_beq_eq_true h6, h.symm⟩))))
  | false => rw [h6] at h; cases h
theorem tab : TabOK Tryz.prog nat irs where
  ir := irs_ok
  bod := fun f g h => by
    rcases nat_cases h with ⟨rfl, _⟩ | ⟨rfl, _⟩ | ⟨rfl, _⟩ | ⟨rfl, _⟩ | ⟨rfl, _⟩ | ⟨rfl, _⟩
    · exact ⟨_, Tryz.func130, by kernel_rfl, by kernel_rfl⟩
    · exact ⟨_, Tryz.func259, by kernel_rfl, by kernel_rfl⟩
    · exact ⟨_, Tryz.func219, by kernel_rfl, by kernel_rfl⟩
    · exact ⟨_, Tryz.func114, by kernel_rfl, by kernel_rfl⟩
    · exact ⟨_, Tryz.func179, by kernel_rfl, by kernel_rfl⟩
    · exact ⟨_, Tryz.func228, by kernel_rfl, by kernel_rfl⟩
  nat := fun f g h => by
    rcases nat_cases h with ⟨rfl, rfl⟩ | ⟨rfl, rfl⟩ | ⟨rfl, rfl⟩ | ⟨rfl, rfl⟩ | ⟨rfl, rfl⟩ | ⟨rfl, rfl⟩
    · exact nOn_ok
    · exact dread_ok
    · exact nFind_ok
    · exact nCheck_ok
    · exact nBytes_ok
    · exact nNeed_ok
omit bs in
theorem nat_mono (f : Nat) (g : Cal) (h : nat f = some g) : MonC g := by
  rcases nat_cases h with ⟨rfl, rfl⟩ | ⟨rfl, rfl⟩ | ⟨rfl, rfl⟩ | ⟨rfl, rfl⟩ | ⟨rfl, rfl⟩ | ⟨rfl, rfl⟩
  · exact fun _ => nOn_mono
  · exact fun _ => dread_mono
  · exact fun _ => nFind_mono
  · exact fun _ => nCheck_mono
  · exact fun _ => nBytes_mono
  · exact fun _ => nNeed_mono
end Ev
end Go.Proofs.YtbcmcdmflblgkaaGreatDoor
