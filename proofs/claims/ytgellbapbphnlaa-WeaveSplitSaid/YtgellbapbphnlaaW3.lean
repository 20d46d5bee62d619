/- weave: the reference's Steps -/
import Derived.Test.YtgellbapbphnlaaW2
namespace Go.Proofs.Ytgellbapbphnlaa
open Go.RowKit

theorem ceil_at {size x j : Nat} (h1 : x ≤ j * size) (h2 : j * size < x + size) : (x + (size - 1)) / size = j := by
  have hs : 0 < size := by omega
  apply Nat.div_eq_of_lt_le
  · omega
  · rw [Nat.add_mul, Nat.one_mul]; omega

theorem blocksF_app (size : Nat) : ∀ (l m : List Nat), blocksF size (l ++ m) = blocksF size l + blocksF size m
  | [], m => by simp [blocksF]
  | y :: l, m => by simp only [List.cons_append, blocksF, blocksF_app size l m]; omega

set_option maxRecDepth 100000 in
set_option maxHeartbeats 4000000 in
theorem refsteps_any (w : World) (pa : Option Addr) (l : List Nat) (n cap size width : Nat) (hl : IntsAt w pa l) (hn : l.length = n) (h9 : n ≤ 100) (hm : ∀ k, k < n → l.getD k 0 ≤ 1000) (hs : 0 < size) (hs9 : size ≤ 1000) (hw : 0 < width) (hw9 : width ≤ 100) (hb9 : blocksF size l ≤ 1000000) :
    Calls Try.prog 18 #[.slice pa n cap, .int .i64 size, .int .i64 width] w fun e w' => e = .returned (.int .i64 (stepsF size width l)) ∧ w = w' := by
  have Hn := hid hn
  have HM := hid hm
  have hbt : ∀ k, blocksF size (l.take k) ≤ blocksF size l := fun k => by
    have := blocksF_app size (l.take k) (l.drop k)
    rw [List.take_append_drop] at this
    omega
  have Hbt := hid hbt
  clear hn hm hbt
  go_enter Try.func18, Try.ntmps18
  go_wp2_with fail
  go_loopw [7, 8] (fun c i wr => ∃ k : Nat, k ≤ n ∧ i = .int .i64 k ∧ c = .int .i64 (blocksF size (l.take k)) ∧ w = wr) (fun _ i _ => n - (intOf i).toNat)
  case atStart => exact ⟨0, by omega, rfl, rfl, rfl⟩
  case round =>
    obtain ⟨k, hk, rfl, rfl, rfl⟩ := hrel
    by_cases hlt : k < n
    · have hkl : k < l.length := by rw [Hn.out]; exact hlt
      obtain ⟨b, o, rfl, hb, hc⟩ := hl k hkl
      have hx9 := HM.out k hlt
      have htk : blocksF size (l.take (k + 1)) = blocksF size (l.take k) + (l.getD k 0 + (size - 1)) / size := by
        rw [List.take_add_one, List.getElem?_eq_getElem hkl]
        show blocksF size (l.take k ++ [l[k]]) = _
        rw [blocksF_snoc]
        simp [List.getD, hkl]
      have hle := Hbt.out (k + 1)
      have hle0 := Nat.le_trans (Hbt.out k) hb9
      obtain ⟨x, hx⟩ : ∃ x, l.getD k 0 = x := ⟨_, rfl⟩
      rw [hx] at hc hx9 htk
      obtain ⟨c0, hc0⟩ : ∃ c, blocksF size (l.take k) = c := ⟨_, rfl⟩
      rw [hc0] at htk hle0 ⊢
      rw [htk] at hle
      have Htk := hid htk
      have Hc0 := hid hc0
      have q1 : (k : Int) < (n : Int) := by omega
      clear hx htk hc0
      go_wp2_with fail
      go_loopw [7, 9] (fun c a wr => ∃ j a' : Nat, a' = j * size ∧ a' < x + size ∧ a = .int .i64 a' ∧ c = .int .i64 ((c0 + j : Nat) : Int) ∧ w = wr) (fun _ a _ => x + size - (intOf a).toNat)
      case atStart => exact ⟨0, 0, by simp, by omega, rfl, rfl, rfl⟩
      case round =>
        obtain ⟨j, a', haj, hax, rfl, rfl, rfl⟩ := hrel
        by_cases hax2 : a' < x
        · have q2 : (a' : Int) < (x : Int) := by omega
          have hj : j ≤ 1000 := by
            rcases Nat.lt_or_ge j 1001 with h | h
            · omega
            · have : 1001 * 1 ≤ j * size := Nat.mul_le_mul h hs
              omega
          have Haj := hid haj
          clear haj
          obtain ⟨cj, hcj⟩ : ∃ z, c0 + j = z := ⟨_, rfl⟩
          rw [hcj]
          have Hcj := hid hcj
          have hcj9 : cj < 10000000 := by omega
          clear hcj
          go_wp2_with fail
          go_roundw
          case rel => exact ⟨j + 1, a' + size, by rw [Nat.add_mul, Nat.one_mul, Haj.out], by omega, by go_num, by have := Hcj.out; go_num, trivial⟩
          case measure => (simp [intOf]; try omega)
        · have q2 : ¬ ((a' : Int) < (x : Int)) := by omega
          have he : (x + (size - 1)) / size = j := ceil_at (by omega) (by omega)
          have Htk2 := Htk.out
          rw [he] at Htk2
          have Htk3 := hid Htk2
          clear haj he Htk2
          go_wp2_with fail
          go_roundw
          case rel => exact ⟨k + 1, by omega, by go_num, by rw [Htk3.out], trivial⟩
          case measure => (simp [intOf]; try omega)
    · have hke : k = n := by omega
      have q1 : ¬ ((k : Int) < (n : Int)) := by omega
      rw [hke, List.take_of_length_le (by rw [Hn.out]; omega)]
      obtain ⟨B, hB⟩ : ∃ B, blocksF size l = B := ⟨_, rfl⟩
      rw [hB] at hb9 ⊢
      have HB := hid hB
      clear hke hB
      go_wp2_with fail
      go_loopw [10] (fun a wr => ∃ j : Nat, j * width < B + width ∧ a = .int .i64 j ∧ w = wr) (fun a _ => B + width - (intOf a).toNat)
      case atStart => exact ⟨0, by omega, rfl, rfl⟩
      case round =>
        obtain ⟨j, hj, rfl, rfl⟩ := hrel
        have hjm : j ≤ j * width := Nat.le_mul_of_pos_right j hw
        obtain ⟨m, hm⟩ : ∃ m, j * width = m := ⟨_, rfl⟩
        have q3 : (j : Int) * (width : Int) = (m : Int) := by rw [← hm]; simp
        rw [hm] at hj hjm
        by_cases hmB : m < B
        · have q4 : (m : Int) < (B : Int) := by omega
          have Hm := hid hm
          clear hm
          go_wp2_with fail
          go_roundw
          case rel => exact ⟨j + 1, by rw [Nat.add_mul, Nat.one_mul, Hm.out]; omega, by go_num, trivial⟩
          case measure => (simp [intOf]; try omega)
        · have q4 : ¬ ((m : Int) < (B : Int)) := by omega
          have he : (B + (width - 1)) / width = j := ceil_at (by omega) (by omega)
          have He := hid he
          clear hm he
          go_wp2_with fail
          go_ret
          exact ⟨by unfold stepsF; rw [HB.out, He.out]; rfl, rfl⟩
end Go.Proofs.Ytgellbapbphnlaa
