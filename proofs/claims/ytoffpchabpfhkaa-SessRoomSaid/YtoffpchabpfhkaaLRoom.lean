/- sess: SessRoom, walked -/
import Derived.Test.YtoffpchabpfhkaaTb5
namespace Go.Proofs.Ytoffpchabpfhkaa
open Go.RowKit

set_option maxRecDepth 100000 in
set_option maxHeartbeats 4000000 in
theorem sessRoom_walk (x y : UInt8) (w : World) :
    Calls Try.prog 5 #[.int .u8 (bv x), .int .u8 (bv y)] w fun e w' => e = .returned (.bool true) ∧ Below w.heap.size w w' := by
  obtain ⟨n, hn⟩ : ∃ n : Nat, n = x.toNat % 64 + 1 := ⟨_, rfl⟩
  obtain ⟨m, hm⟩ : ∃ m : Nat, m = y.toNat % 20 := ⟨_, rfl⟩
  have hx0 := bv_lo x
  have hx1 := bv_hi x
  have hy0 := bv_lo y
  have hy1 := bv_hi y
  have hr1 : bv x % (64 : Int) = (n : Int) - 1 := by unfold bv; omega
  have hr2 : bv y % (20 : Int) = (m : Int) := by unfold bv; omega
  have hr3 : (bv x).tmod (64 : Int) = (n : Int) - 1 := by rw [Int.tmod_eq_emod_of_nonneg hx0, hr1]
  have hr4 : (bv y).tmod (20 : Int) = (m : Int) := by rw [Int.tmod_eq_emod_of_nonneg hy0, hr2]
  have hn1 : 1 ≤ n := by omega
  have hn64 : n ≤ 64 := by omega
  have hm20 : m < 20 := by omega
  clear hn hm
  go_enter Try.func5, Try.ntmps5
  go_wp2_with fail
  refine (newtable_any _ n hn1 hn64).mono ?_
  rintro e w1 ⟨t, rfl, hT, hB⟩
  rw [mixd_rep (true, 0)] at hT
  go_wp2_with fail
  go_loopw [8] (fun i wr => ∃ k : Nat, k ≤ m ∧ i = .int .i64 k ∧ TabAt w.heap.size wr t (mixd (true, k) (false, k) n 0) ∧ Below w.heap.size w wr) (fun i _ => 20 - (intOf i).toNat)
  case atStart => exact ⟨0, by omega, rfl, hT, hB⟩
  case round =>
    obtain ⟨i, hi, rfl, hT, hB⟩ := hrel
    by_cases hlt : i < m
    · obtain ⟨M, hM⟩ : ∃ M, n * i = M := ⟨_, rfl⟩
      have hMb : M ≤ 64 * 20 := by rw [← hM]; exact Nat.mul_le_mul hn64 (by omega)
      have hMi : (n : Int) * (i : Int) = (M : Int) := by rw [← hM, Int.natCast_mul]
      have HM := hid hM
      clear hM
      go_wp2_with fail
      go_loopw [9] (fun j wr => ∃ k : Nat, k ≤ n ∧ j = .int .i64 k ∧ TabAt w.heap.size wr t (mixd (true, i) (false, i) n k) ∧ Below w.heap.size w wr) (fun j _ => 64 - (intOf j).toNat)
      case atStart => exact ⟨0, by omega, rfl, hT, hB⟩
      case round =>
        obtain ⟨k, hk, rfl, hT, hB⟩ := hrel
        by_cases hkl : k < n
        · have e : ((1 + k + M : Nat) : Int) = 1 + (k : Int) + (M : Int) := by omega
          have hop := open_some wr w.heap.size t (mixd (true, i) (false, i) n k) k hT (by rw [mixd_len _ _ _ _ hk]; exact hn64) (by rw [mixd_len _ _ _ _ hk]; exact hkl) (opn_idx i n k hkl) (by rw [mixd_at _ _ _ _ _ hk hkl, if_neg (by omega)]; omega)
          rw [mixd_num i n k k true false hk hkl, HM.out, e, mixd_at _ _ _ _ _ hk hkl, if_neg (by omega)] at hop
          have hset := mixd_set (true, i) (false, i) n k hkl
          rw [hset] at hop
          clear hset e hT
          go_wp2_with fail
          refine hop.mono ?_
          rintro e w2 ⟨rfl, hT, hB2⟩
          have hB := hB.trans hB2
          go_wp2_with fail
          go_roundw
          case rel => exact ⟨k + 1, by omega, by go_num, hT, hB⟩
          case measure => simp [intOf]; omega
        · obtain rfl : k = n := by omega
          have hof := open_full wr w.heap.size t (mixd (true, i) (false, i) k k) hT (by rw [mixd_len _ _ _ _ hk]; exact hn64) (opn_full i k)
          go_wp2_with fail
          refine hof.mono ?_
          rintro e w2 ⟨rfl, hT, hB2⟩
          have hB := hB.trans hB2
          have hhl := handles_len w2 w.heap.size t (mixd (true, i) (false, i) k k) hT (by rw [mixd_len _ _ _ _ hk]; exact hn64) (mixd_few i k k 1000000 true false i hk (by omega) (by omega))
          rw [mixd_len _ _ _ _ hk, hands_some _ k (fun j hj => by rw [mixd_at _ _ _ _ _ hk hj, if_pos hj])] at hhl
          clear hof
          go_wp2_with fail
          refine hhl.mono ?_
          rintro e w3 ⟨a, c, rfl, hB3⟩
          have hlo := hT.lo_le
          have hT := hT.below hB3
          have hB := hB.trans (Below.mono hB3 hlo)
          clear hhl hlo
          rw [mixd_all (true, i) (false, i) (false, i + 1) k] at hT
          go_wp2_with fail
          go_loopw [14] (fun j wr => ∃ q : Nat, q ≤ k ∧ j = .int .i64 q ∧ TabAt w.heap.size wr t (mixd (false, i + 1) (true, i) k q) ∧ Below w.heap.size w wr) (fun j _ => 64 - (intOf j).toNat)
          case atStart => exact ⟨0, by omega, rfl, hT, hB⟩
          case round =>
            obtain ⟨q, hq, rfl, hT, hB⟩ := hrel
            by_cases hql : q < k
            · have e : ((1 + q + k * i : Nat) : Int) = 1 + (q : Int) + (M : Int) := by rw [HM.out]; omega
              have hcl := close_any wr w.heap.size t (mixd (false, i + 1) (true, i) k q) (1 + (q : Int) + (M : Int)) hT (by rw [mixd_len _ _ _ _ hq]; exact hn64) (by rw [mixd_len _ _ _ _ hq]; omega) (mixd_few (i + 1) k q 1000000 false true i hq (by omega) (by omega)) (by omega)
              rw [← e, cls_set i k q hql, cls_val i k q hql, e] at hcl
              clear e hT
              go_wp2_with fail
              refine hcl.mono ?_
              rintro e w4 ⟨rfl, hT, hB2⟩
              have hB := hB.trans hB2
              go_wp2_with fail
              go_roundw
              case rel => exact ⟨q + 1, by omega, by go_num, hT, hB⟩
              case measure => simp [intOf]; omega
            · obtain rfl : q = k := by omega
              rw [mixd_all (false, i + 1) (true, i) (true, i + 1) q] at hT
              go_wp2_with fail
              go_roundw
              case rel => exact ⟨i + 1, by omega, by go_num, hT, hB⟩
              case measure => simp [intOf]; omega
    · obtain rfl : i = m := by omega
      have hhl := handles_len wr w.heap.size t (mixd (true, i) (false, i) n 0) hT (by rw [mixd_len _ _ _ _ (by omega)]; exact hn64) (mixd_few i n 0 1000000 true false i (by omega) (by omega) (by omega))
      rw [mixd_len _ _ _ _ (by omega), hands_none _ n (fun j hj => by rw [mixd_at _ _ _ _ _ (by omega) hj, if_neg (by omega)])] at hhl
      go_wp2_with fail
      refine hhl.mono ?_
      rintro e w3 ⟨a, c, rfl, hB3⟩
      have hB := hB.trans (Below.mono hB3 hT.lo_le)
      clear hhl
      go_wp2_with fail
      refine (awake19_any _).mono ?_
      rintro e w4 ⟨rfl, hB4⟩
      have hB := hB.trans (Below.mono hB4 hB.size)
      go_wp2_with fail
      go_ret
      exact ⟨rfl, hB⟩
#print axioms sessRoom_walk
end Go.Proofs.Ytoffpchabpfhkaa
