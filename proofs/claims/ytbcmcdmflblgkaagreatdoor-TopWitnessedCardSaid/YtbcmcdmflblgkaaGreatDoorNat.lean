/-
  Nat: the functions that the evaluator does not run but answers by a rule of their own.
-/
import Derived.Test.YtbcmcdmflblgkaaGreatDoorFast
namespace Go.Proofs.YtbcmcdmflblgkaaGreatDoor
namespace Ev
set_option linter.unusedVariables false
def bit1 (r : Nat) : Nat := bif Nat.beq (Nat.mod r 2) 1 then Nat.xor (Nat.div r 2) 2197175160 else Nat.div r 2
def down8 (r : Nat) : Nat := bit1 (bit1 (bit1 (bit1 (bit1 (bit1 (bit1 (bit1 r)))))))
def crcOn : List Nat → Nat → Nat
  | [] => fun r => r
  | c :: cs => fun r => crcOn cs (Nat.xor (Nat.div r 256) (down8 (Nat.xor (Nat.mod r 256) c)))
def nOn : List V → H → Option (V × H) := fun vs h => match vs with
  | [.int .u32 (.ofNat r), b] => io (Nat.ble r 4294967295) (ob (held 1 b h) fun cs => ob (bytesV cs) fun l => some (.int .u32 (.ofNat (crcOn l r)), h))
  | _ => none
def nCheck : List V → H → Option (V × H) := fun vs h => match vs with
  | [.str l] => io (beqs l [116]) (some (vi 0, h))
  | _ => none
def u8s : List Nat → List V
  | [] => []
  | x :: xs => .int .u8 (.ofNat x) :: u8s xs
def nBytes : List V → H → Option (V × H) := fun vs h => match vs with
  | [.str l] => io (beqs l [116]) (some (.tup [.sl h.nx 0 2 2 false 1, vi 0], h.new (u8s [1, 116])))
  | _ => none
/-! ### (*disk.Drive).Read: all is run but the range over what is cached, which must be nothing -/
def q1 : C2 → C2
  | .seq a _ => a
  | c => c
def q2 : C2 → C2
  | .seq _ b => b
  | c => c
def fin (F : FR2) (s : S) : Option (V × H) := ob (res2 s F.res) fun us => some (tupV us, s.h)
def emptyB (f : Nat) (h : H) : V → Bool
  | .fn g [.ptr b o] => Nat.beq g f && (match h.get b with
    | some cs => match cs[o]? with
      | some .nils => true
      | some (.sl _ _ n _ _ _) => Nat.beq n 0
      | _ => false
    | none => false)
  | _ => false
def runD3 (cal : Cal) (F : FR2) (x : O) (s : S) : Option (V × H) := ob (x.ev s.ls s.stk) fun v => io (emptyB 322 s.h v) (ob (evC2 cal 60 (q2 (q2 (q2 F.body))) s) fun r => match r with
  | (.exit _, _) => none
  | (_, s) => fin F s)
def runD2 (cal : Cal) (F : FR2) (x : O) (s : S) : Option (V × H) := ob (evC2 cal 60 (q1 (q1 (q2 (q2 F.body)))) s) fun r => match r with
  | (.normal, s) => runD3 cal F x s
  | _ => none
def runD1 (cal : Cal) (F : FR2) (x : O) (s : S) : Option (V × H) := ob (evC2 cal 60 (q1 (q2 F.body)) s) fun r => match r with
  | (.normal, s) => runD2 cal F x s
  | (.ret, s) => fin F s
  | _ => none
def runD (cal : Cal) (F : FR2) (x : O) : SE := fun vs h => ob (argT F.ps vs .e) fun t => ob (evC2 cal 60 (q1 F.body) ⟨t, [], h⟩) fun r => match r with
  | (.normal, s) => runD1 cal F x s
  | _ => none
end Ev
end Go.Proofs.YtbcmcdmflblgkaaGreatDoor
