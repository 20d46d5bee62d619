/- the reference: Mul, inverse, Sub -/
import Derived.Test.YtgellbapbphnlaaAes1
namespace Go.Proofs.Ytgellbapbphnlaa
open Go.RowKit

@[go_sem] theorem bv_div2 (x : UInt8) : bv x / (2 : Int) = bv (x >>> 1) := by
  unfold bv; rw [UInt8.toNat_shiftRight]; simp [Nat.shiftRight_eq_div_pow]
def mulNext (s : UInt8 × UInt8 × UInt8) : UInt8 × UInt8 × UInt8 := (dbl s.1, s.2.1 >>> 1, if s.2.1.toNat % 2 = 1 then s.2.2 ^^^ s.1 else s.2.2)
def mulAt (a b : UInt8) : Nat → UInt8 × UInt8 × UInt8
  | 0 => (a, b, 0)
  | k + 1 => mulNext (mulAt a b k)
def mulF (a b : UInt8) : UInt8 := (mulAt a b 8).2.2

set_option maxRecDepth 100000 in
set_option maxHeartbeats 1000000 in
theorem mul_any (w : World) (a b : UInt8) :
    Calls Try.prog 65 #[B a, B b] w fun e w' => e = .returned (B (mulF a b)) ∧ w = w' := by
  go_enter Try.func65, Try.ntmps65
  go_wp2_with fail
  go_loopw [0, 1, 5, 6] (fun x y z i wr => ∃ k : Nat, k ≤ 8 ∧ i = .int .i64 k ∧ x = B (mulAt a b k).1 ∧ y = B (mulAt a b k).2.1 ∧ z = B (mulAt a b k).2.2 ∧ w = wr) (fun _ _ _ i _ => 8 - (intOf i).toNat)
  case atStart => exact ⟨0, by omega, rfl, rfl, rfl, rfl, rfl⟩
  case round =>
    obtain ⟨k, hk, rfl, rfl, rfl, rfl, rfl⟩ := hrel
    by_cases hlt : k < 8
    · have hnx : mulAt a b (k + 1) = mulNext (mulAt a b k) := rfl
      have Hnx := hid hnx; clear hnx
      revert Hnx
      generalize mulAt a b k = s
      obtain ⟨p, q, r⟩ := s
      intro Hnx
      dsimp only
      have p0 := bv_lo p
      have p1 := bv_hi p
      have q0 := bv_lo q
      have hd1 : (128 ≤ bv p) → dbl p = (p <<< 1) ^^^ 27 := fun h => by unfold dbl; rw [if_pos (by unfold bv at h; omega)]
      have hd2 : ¬ (128 ≤ bv p) → dbl p = p <<< 1 := fun h => by unfold dbl; rw [if_neg (by unfold bv at h; omega)]
      have hs2 : ¬ (128 ≤ bv p) → bv p * (2 : Int) = bv (p <<< 1) := fun h => by rw [← bv_shl1]; omega
      have hq1 : (bv q % 2 = 1) → q.toNat % 2 = 1 := fun h => by unfold bv at h; omega
      have hq2 : ¬ (bv q % 2 = 1) → ¬ q.toNat % 2 = 1 := fun h => by unfold bv at h; omega
      have ht : (bv q).tdiv (2 : Int) % (256 : Int) = bv (q >>> 1) := by
        have := bv_hi q
        rw [Int.tdiv_eq_ediv_of_nonneg q0, bv_div2]; exact Int.emod_eq_of_lt (bv_lo _) (bv_hi _)
      have Ht := hid ht; clear ht
      have Hd1 := hid hd1
      have Hd2 := hid hd2
      have Hs2 := hid hs2
      have Hq1 := hid hq1
      have Hq2 := hid hq2
      clear hd1 hd2 hs2 hq1 hq2
      by_cases hq : bv q % 2 = 1
      · by_cases hp : 128 ≤ bv p
        · go_wp2_with fail
          go_roundw
          case rel =>
            refine ⟨k + 1, by omega, by go_num, ?_, ?_, ?_, trivial⟩
            · rw [Hnx.out]; simp only [mulNext]; rw [Hd1.out hp]
            · rw [Hnx.out, Ht.out]; rfl
            · rw [Hnx.out]; simp only [mulNext]; rw [if_pos (Hq1.out hq)]
          case measure => simp [intOf]; omega
        · go_wp2_with fail
          go_roundw
          case rel =>
            refine ⟨k + 1, by omega, by go_num, ?_, ?_, ?_, trivial⟩
            · rw [Hnx.out]; simp only [mulNext]; rw [Hd2.out hp]; show Value.int .u8 (bv p * 2) = _; rw [Hs2.out hp]
            · rw [Hnx.out, Ht.out]; rfl
            · rw [Hnx.out]; simp only [mulNext]; rw [if_pos (Hq1.out hq)]
          case measure => simp [intOf]; omega
      · by_cases hp : 128 ≤ bv p
        · go_wp2_with fail
          go_roundw
          case rel =>
            refine ⟨k + 1, by omega, by go_num, ?_, ?_, ?_, trivial⟩
            · rw [Hnx.out]; simp only [mulNext]; rw [Hd1.out hp]
            · rw [Hnx.out, Ht.out]; rfl
            · rw [Hnx.out]; simp only [mulNext]; rw [if_neg (Hq2.out hq)]
          case measure => simp [intOf]; omega
        · go_wp2_with fail
          go_roundw
          case rel =>
            refine ⟨k + 1, by omega, by go_num, ?_, ?_, ?_, trivial⟩
            · rw [Hnx.out]; simp only [mulNext]; rw [Hd2.out hp]; show Value.int .u8 (bv p * 2) = _; rw [Hs2.out hp]
            · rw [Hnx.out, Ht.out]; rfl
            · rw [Hnx.out]; simp only [mulNext]; rw [if_neg (Hq2.out hq)]
          case measure => simp [intOf]; omega
    · obtain rfl : k = 8 := by omega
      go_wp2_with fail
      go_ret
      exact ⟨rfl, rfl⟩

def invAt (x : UInt8) : Nat → UInt8 × UInt8
  | 0 => (x, 1)
  | k + 1 => (mulF (invAt x k).1 (invAt x k).1, mulF (invAt x k).2 (mulF (invAt x k).1 (invAt x k).1))
def invF (x : UInt8) : UInt8 := (invAt x 7).2

set_option maxRecDepth 100000 in
set_option maxHeartbeats 1000000 in
theorem inverse_any (w : World) (x : UInt8) :
    Calls Try.prog 96 #[B x] w fun e w' => e = .returned (B (invF x)) ∧ w = w' := by
  go_enter Try.func96, Try.ntmps96
  go_wp2_with fail
  go_loopw [0, 3, 4] (fun y z i wr => ∃ k : Nat, k ≤ 7 ∧ i = .int .i64 k ∧ y = B (invAt x k).1 ∧ z = B (invAt x k).2 ∧ w = wr) (fun _ _ i _ => 7 - (intOf i).toNat)
  case atStart => exact ⟨0, by omega, rfl, rfl, rfl, rfl⟩
  case round =>
    obtain ⟨k, hk, rfl, rfl, rfl, rfl⟩ := hrel
    by_cases hlt : k < 7
    · have hnx : invAt x (k + 1) = (mulF (invAt x k).1 (invAt x k).1, mulF (invAt x k).2 (mulF (invAt x k).1 (invAt x k).1)) := rfl
      have Hnx := hid hnx; clear hnx
      revert Hnx
      generalize invAt x k = s
      obtain ⟨p, q⟩ := s
      intro Hnx
      dsimp only
      go_wp2_with fail
      refine (mul_any _ p p).mono ?_
      rintro e w' ⟨rfl, rfl⟩
      go_wp2_with fail
      refine (mul_any _ q _).mono ?_
      rintro e w' ⟨rfl, rfl⟩
      go_wp2_with fail
      go_roundw
      case rel =>
        refine ⟨k + 1, by omega, by go_num, ?_, ?_, trivial⟩
        · rw [Hnx.out]
        · rw [Hnx.out]
      case measure => simp [intOf]; omega
    · obtain rfl : k = 7 := by omega
      go_wp2_with fail
      go_ret
      exact ⟨rfl, rfl⟩

def sumAt (q : UInt8) (i : Nat) : Nat → Nat
  | 0 => 0
  | k + 1 => if k = 0 ∨ 4 ≤ k then sumAt q i k + q.toNat / 2 ^ ((i + k) % 8) % 2 else sumAt q i k
def accAt (q : UInt8) : Nat → UInt8
  | 0 => 0
  | i + 1 => if (sumAt q i 8 + 99 / 2 ^ i % 2) % 2 = 1 then accAt q i ||| ((1 : UInt8) <<< UInt8.ofNat i) else accAt q i
def subF (x : UInt8) : UInt8 := accAt (invF x) 8

theorem wrap_small (d : Nat) (h : d < 1000) : wrap64 (d : Int) = d := by
  unfold wrap64; omega
theorem sum_step (q : UInt8) (s m : Nat) (hs : s ≤ 100) : wrap64 ((s : Int) + (wrap64 (bv q / 2 ^ m)).tmod 2) = ((s + q.toNat / 2 ^ m % 2 : Nat) : Int) := by
  have e : bv q / 2 ^ m = ((q.toNat / 2 ^ m : Nat) : Int) := by unfold bv; simp
  have h1 : q.toNat / 2 ^ m < 256 := Nat.lt_of_le_of_lt (Nat.div_le_self _ _) q.toNat_lt
  rw [e]
  generalize q.toNat / 2 ^ m = d at *
  rw [wrap_small d (by omega), Int.tmod_eq_emod_of_nonneg (by omega), show (s : Int) + (d : Int) % 2 = ((s + d % 2 : Nat) : Int) by omega, wrap_small _ (by omega)]
theorem bit_step (s i : Nat) (hs : s ≤ 8) : ((wrap64 ((s : Int) + (wrap64 (99 / 2 ^ i)).tmod 2)).tmod 2 == 1) = decide ((s + 99 / 2 ^ i % 2) % 2 = 1) := by
  have e : (99 : Int) / 2 ^ i = ((99 / 2 ^ i : Nat) : Int) := by simp
  have h1 : 99 / 2 ^ i < 256 := Nat.lt_of_le_of_lt (Nat.div_le_self _ _) (by decide)
  rw [e]
  generalize 99 / 2 ^ i = d at *
  rw [wrap_small d (by omega), Int.tmod_eq_emod_of_nonneg (b := 2) (a := (d : Int)) (by omega), show (s : Int) + (d : Int) % 2 = ((s + d % 2 : Nat) : Int) by omega, wrap_small _ (by omega), Int.tmod_eq_emod_of_nonneg (by omega), Bool.eq_iff_iff, beq_iff_eq, decide_eq_true_iff]
  omega
theorem or_step (a : UInt8) (i : Nat) (hi : i < 8) : bits BinOp.or IntKind.u8 (bv a) (2 ^ i % 256) = bv (a ||| ((1 : UInt8) <<< UInt8.ofNat i)) := by
  have h : (2 : Int) ^ i % 256 = bv ((1 : UInt8) <<< UInt8.ofNat i) := by
    rcases i with _ | _ | _ | _ | _ | _ | _ | _ | i <;> first | rfl | omega
  rw [h, b_or]

set_option maxRecDepth 100000 in
set_option maxHeartbeats 1000000 in
theorem refsub_any (w : World) (x : UInt8) :
    Calls Try.prog 60 #[B x] w fun e w' => e = .returned (B (subF x)) ∧ w = w' := by
  go_enter Try.func60, Try.ntmps60
  go_wp2_with fail
  refine (inverse_any _ x).mono ?_
  rintro e w' ⟨rfl, rfl⟩
  have HS := hid (show subF x = accAt (invF x) 8 from rfl)
  generalize invF x = q at *
  go_wp2_with fail
  go_loopw [4, 5] (fun a i wr => ∃ k : Nat, k ≤ 8 ∧ i = .int .i64 k ∧ a = B (accAt q k) ∧ w = wr) (fun _ i _ => 8 - (intOf i).toNat)
  case atStart => exact ⟨0, by omega, rfl, rfl, rfl⟩
  case round =>
    obtain ⟨i, hi, rfl, rfl, rfl⟩ := hrel
    by_cases hlt : i < 8
    · have HX := hid (show accAt q (i + 1) = if (sumAt q i 8 + 99 / 2 ^ i % 2) % 2 = 1 then accAt q i ||| ((1 : UInt8) <<< UInt8.ofNat i) else accAt q i from rfl)
      generalize accAt q i = a at *
      go_wp2_with fail
      go_loopw [6, 7] (fun s j wr => ∃ k : Nat, k ≤ 8 ∧ j = .int .i64 k ∧ s = .int .i64 (sumAt q i k : Nat) ∧ sumAt q i k ≤ k ∧ w = wr) (fun _ j _ => 8 - (intOf j).toNat)
      case atStart => exact ⟨0, by omega, rfl, rfl, Nat.zero_le _, rfl⟩
      case round =>
        obtain ⟨k, hk, rfl, rfl, hsk, rfl⟩ := hrel
        by_cases hkl : k < 8
        · have HY := hid (show sumAt q i (k + 1) = if k = 0 ∨ 4 ≤ k then sumAt q i k + q.toNat / 2 ^ ((i + k) % 8) % 2 else sumAt q i k from rfl)
          generalize sumAt q i k = s at *
          rcases Nat.eq_zero_or_pos k with rfl | hk0
          · go_wp2_with fail
            go_roundw
            case rel =>
              refine ⟨1, by omega, rfl, ?_, ?_, trivial⟩
              · rw [HY.out, if_pos (.inl rfl), sum_step q s _ (by omega)]; rfl
              · rw [HY.out, if_pos (.inl rfl)]; omega
            case measure => simp [intOf]
          · have hk1 : ((k : Int) == 0) = false := by rw [beq_eq_false_iff_ne]; omega
            by_cases hk4 : 4 ≤ k
            · go_wp2_with fail
              go_roundw
              case rel =>
                refine ⟨k + 1, by omega, by go_num, ?_, ?_, trivial⟩
                · rw [HY.out, if_pos (.inr hk4), sum_step q s _ (by omega)]
                · rw [HY.out, if_pos (.inr hk4)]; omega
              case measure => simp [intOf]; omega
            · go_wp2_with fail
              go_roundw
              case rel =>
                refine ⟨k + 1, by omega, by go_num, ?_, ?_, trivial⟩
                · rw [HY.out, if_neg (by omega)]
                · rw [HY.out, if_neg (by omega)]; omega
              case measure => simp [intOf]; omega
        · obtain rfl : k = 8 := by omega
          have hb := bit_step (sumAt q i 8) i hsk
          by_cases hbit : (sumAt q i 8 + 99 / 2 ^ i % 2) % 2 = 1
          · have hc : ((wrap64 (↑(sumAt q i 8) + (wrap64 (99 / 2 ^ i)).tmod 2)).tmod 2 == 1) = true := by rw [hb]; exact decide_eq_true hbit
            have HC := hid hc
            rw [if_pos hbit] at HX
            clear hb hbit
            go_wp2_with fail
            go_roundw
            case rel =>
              refine ⟨i + 1, by omega, by go_num, ?_, trivial⟩
              rw [HX.out, or_step a i hlt]
            case measure => simp [intOf]; omega
          · have hc : ((wrap64 (↑(sumAt q i 8) + (wrap64 (99 / 2 ^ i)).tmod 2)).tmod 2 == 1) = false := by rw [hb]; exact decide_eq_false hbit
            have HC := hid hc
            rw [if_neg hbit] at HX
            clear hb hbit
            go_wp2_with fail
            go_roundw
            case rel => exact ⟨i + 1, by omega, by go_num, by rw [HX.out], trivial⟩
            case measure => simp [intOf]; omega
    · obtain rfl : i = 8 := by omega
      rw [← HS.out]
      go_wp2_with fail
      go_ret
      exact ⟨rfl, rfl⟩
end Go.Proofs.Ytgellbapbphnlaa
