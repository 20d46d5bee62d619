/- aes: what the chapter's example says -/
import Derived.Test.YtoffpchabpfhkaaExp1
import Derived.Test.YtoffpchabpfhkaaEq
import Derived.Test.YtoffpchabpfhkaaPure
namespace Go.Proofs.Ytoffpchabpfhkaa
open Go.RowKit

def sboxT (x : UInt8) : UInt8 := TABL.getD x.toNat 0
def akey : List UInt8 := (List.range 16).map UInt8.ofNat
def abyt : List UInt8 := (List.range 16).map fun i => UInt8.ofNat (17 * i)
def acry : List UInt8 := [0x69, 0xc4, 0xe0, 0xd8, 0x6a, 0x7b, 0x04, 0x30, 0xd8, 0xcd, 0xb7, 0x80, 0x70, 0xb4, 0xc5, 0x5a]
theorem sbox_T : sbox = sboxT := by funext x; unfold sbox sboxT; rw [TAB_eq]
def exZT (m i : Nat) (st : UInt8) (x : List UInt8) : List UInt8 × UInt8 :=
  if i % m = 0 then ((match x with | [a, b, c, d] => [sboxT b ^^^ st, sboxT c, sboxT d, sboxT a] | l => l), dbl st)
  else if 6 < m ∧ i % m = 4 then (x.map sboxT, st) else (x, st)
theorem exZ_T : exZ = exZT := by funext m i st x; unfold exZ exZT; rw [sbox_T]; rfl
def exStepT (m i : Nat) (s : List UInt8 × UInt8) : List UInt8 × UInt8 :=
  (s.1 ++ List.zipWith (· ^^^ ·) (exZT m i s.2 ((s.1.drop (4 * (i - 1))).take 4)).1 ((s.1.drop (4 * (i - m))).take 4), (exZT m i s.2 ((s.1.drop (4 * (i - 1))).take 4)).2)
theorem exStep_T : exStep = exStepT := by funext m i s; unfold exStep exStepT; rw [exZ_T]
def exToT (m : Nat) (key : List UInt8) : Nat → List UInt8 × UInt8
  | 0 => (key, 1)
  | k + 1 => exStepT m (m + k) (exToT m key k)
theorem exTo_T (m : Nat) (key : List UInt8) (k : Nat) : exTo m key k = exToT m key k := by
  induction k with
  | zero => rfl
  | succ k ih => simp only [exTo, exToT, ih, exStep_T]
def encToT (rk : List UInt8) (R : Nat) (s : List UInt8) : Nat → List UInt8
  | 0 => addK rk 0 s
  | r + 1 => addK rk (r + 1) (if r + 1 < R then mixTo 1 4 (sh16 ((encToT rk R s r).map sboxT)) else sh16 ((encToT rk R s r).map sboxT))
theorem encTo_T (rk : List UInt8) (R : Nat) (s : List UInt8) (r : Nat) : encTo rk R s r = encToT rk R s r := by
  induction r with
  | zero => rfl
  | succ k ih => simp only [encTo, encToT, ih, sbox_T]
def arkT : List UInt8 := (exToT 4 akey 40).1
set_option maxRecDepth 100000 in
theorem arounds : roundsOf arkT = 10 ∧ arkT.length = 176 := by decide +kernel
set_option maxRecDepth 100000 in
theorem acry_T : encToT arkT 10 abyt 10 = acry := by decide +kernel
theorem ark_eq : rkOf 4 akey = arkT := by unfold rkOf arkT; rw [exTo_T]
theorem aenc : enc (rkOf 4 akey) abyt = acry := by
  rw [ark_eq]; unfold enc; rw [arounds.1, encTo_T, acry_T]
theorem adec : dec (rkOf 4 akey) acry = abyt := by
  rw [← aenc]
  exact dec_enc _ _ (by rw [ark_eq, arounds.1, arounds.2]; omega) (by rw [ark_eq, arounds.1]; omega) (by decide)

end Go.Proofs.Ytoffpchabpfhkaa
