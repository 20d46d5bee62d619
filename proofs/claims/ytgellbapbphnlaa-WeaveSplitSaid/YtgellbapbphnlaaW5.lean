/- weave: the threads -/
import Derived.Test.YtgellbapbphnlaaW3
namespace Go.Proofs.Ytgellbapbphnlaa
open Go.RowKit

abbrev tThr : TypeId := 125
def pairsc (l : List (Nat × Nat)) : List Value := l.flatMap fun (p : Nat × Nat) => [Value.int .i64 (p.1 : Int), Value.int .i64 (p.2 : Int)]
theorem pairsc_one (l : List (Nat × Nat)) : ∀ v ∈ pairsc l, v.oneCell' = true := by
  intro v hv
  simp only [pairsc, List.mem_flatMap] at hv
  obtain ⟨x, _, h⟩ := hv
  simp only [List.mem_cons, List.not_mem_nil, or_false] at h
  rcases h with rfl | rfl <;> rfl
/-- The threads of the first k texts. -/
def thrAt (size : Nat) (l : List Nat) : Nat → List (Nat × Nat)
  | 0 => []
  | k + 1 => thrAt size l k ++ (List.range ((l.getD k 0 + (size - 1)) / size)).map fun j => (k, j)
theorem thrAt_len (size : Nat) (l : List Nat) : ∀ k, k ≤ l.length → (thrAt size l k).length = blocksF size (l.take k)
  | 0, _ => rfl
  | k + 1, h => by
    have ht : l.take (k + 1) = l.take k ++ [l.getD k 0] := by
      rw [List.take_add_one, List.getElem?_eq_getElem (by omega : k < l.length)]
      simp [List.getD, show k < l.length by omega]
    rw [ht, blocksF_snoc, thrAt, List.length_append, thrAt_len size l k (by omega), List.length_map, List.length_range]
theorem infoThr : (Try.prog.info? tThr).map (fun i => (i.zero, i.size, i.bytes)) = some (some (.agg #[.int .i64 0, .int .i64 0]), 2, 16) := by kernel_rfl
theorem underThr : Try.prog.underlying 122 = some (.slice tThr) := by kernel_rfl

set_option maxRecDepth 100000 in
set_option maxHeartbeats 4000000 in
theorem threads_any (w : World) (pa : Option Addr) (l : List Nat) (n cap size : Nat) (hl : IntsAt w pa l) (hn : l.length = n) (h9 : n ≤ 100) (hm : ∀ k, k < n → l.getD k 0 ≤ 1000) (hs : 0 < size) (hs9 : size ≤ 1000) (hb9 : blocksF size l ≤ 1000000) :
    Calls Try.prog 77 #[.slice pa n cap, .int .i64 size] w fun e w' => ∃ v, e = .returned v ∧ w'.ownsRow w.heap.size tThr 2 v (thrAt size l n).length (pairsc (thrAt size l n)) ∧ Below w.heap.size w w' := by
  obtain ⟨i0, hi0, hz0, hs0, hb0⟩ := info_parts infoThr
  have Hi0 := hid hi0
  have Hz0 := hid hz0
  have Hs0 := hid hs0
  have Hb0 := hid hb0
  have Hn := hid hn
  have HM := hid hm
  have hbt : ∀ k, k ≤ n → (thrAt size l k).length ≤ 1000000 := fun k hk => by
    rw [thrAt_len size l k (by rw [hn]; exact hk)]
    have := blocksF_app size (l.take k) (l.drop k)
    rw [List.take_append_drop] at this
    omega
  have Hbt := hid hbt
  have qz : ((size : Int) == 0) = false := by rw [beq_eq_false_iff_ne]; omega
  clear hi0 hz0 hs0 hb0 hn hm hbt
  go_enter Try.func77, Try.ntmps77
  go_wp2_with fail
  go_loopw [5, 11] (fun v i wr => ∃ k : Nat, k ≤ n ∧ i = .int .i64 k ∧ wr.ownsRow w.heap.size tThr 2 v (thrAt size l k).length (pairsc (thrAt size l k)) ∧ Below w.heap.size w wr) (fun _ i _ => n - (intOf i).toNat)
  case atStart => exact ⟨0, by omega, rfl, World.ownsRow_nil _ _ _ _, Below.refl _ _⟩
  case round =>
    obtain ⟨k, hk, rfl, hown, hB⟩ := hrel
    by_cases hlt : k < n
    · have hkl : k < l.length := by rw [Hn.out]; exact hlt
      obtain ⟨b, o, rfl, hb, hc⟩ := hl.below hB k hkl
      have hx9 := HM.out k hlt
      have htk : thrAt size l (k + 1) = thrAt size l k ++ (List.range ((l.getD k 0 + (size - 1)) / size)).map fun j => (k, j) := rfl
      have hle := Hbt.out (k + 1) (by omega)
      obtain ⟨x, hx⟩ : ∃ x, l.getD k 0 = x := ⟨_, rfl⟩
      rw [hx] at hc hx9 htk
      obtain ⟨L0, hL0⟩ : ∃ c, thrAt size l k = c := ⟨_, rfl⟩
      rw [hL0] at htk hown
      rw [htk, List.length_append, List.length_map, List.length_range] at hle
      have Htk := hid htk
      have q1 : (k : Int) < (n : Int) := by omega
      have Hown := hid hown
      clear hx htk hL0 hown
      go_wp2_with fail
      go_loopw [5, 8] (fun v a wx => ∃ j a' : Nat, a' = j * size ∧ a' < x + size ∧ a = .int .i64 a' ∧ wx.ownsRow w.heap.size tThr 2 v (L0 ++ (List.range j).map fun j => (k, j)).length (pairsc (L0 ++ (List.range j).map fun j => (k, j))) ∧ Below w.heap.size w wx) (fun _ a _ => x + size - (intOf a).toNat)
      case atStart => exact ⟨0, 0, by simp, by omega, rfl, by simpa using Hown.out, hB⟩
      case round =>
        clear hB
        obtain ⟨j, a', haj, hax, rfl, hown2, hB⟩ := hrel
        by_cases hax2 : a' < x
        · have q2 : (a' : Int) < (x : Int) := by omega
          have hj : j ≤ 1000 := by
            rcases Nat.lt_or_ge j 1001 with h | h
            · omega
            · have : 1001 * 1 ≤ j * size := Nat.mul_le_mul h hs
              omega
          have q3 : (a' : Int) / (size : Int) = (j : Int) := by rw [haj]; exact_mod_cast congrArg Nat.cast (Nat.mul_div_cancel j hs)
          have q4 : (a' : Int).tdiv (size : Int) = (j : Int) := by rw [Int.tdiv_eq_ediv_of_nonneg (by omega)]; exact q3
          have hjc : j < (x + (size - 1)) / size := by
            apply (Nat.le_div_iff_mul_le hs).2
            rw [Nat.succ_mul, ← haj]; omega
          have hsn : (L0 ++ (List.range (j + 1)).map fun j => (k, j)) = (L0 ++ (List.range j).map fun j => (k, j)) ++ [(k, j)] := by
            rw [List.range_succ, List.map_append, List.append_assoc]; rfl
          have hl1 : (L0 ++ (List.range j).map fun j => (k, j)).length ≤ 1000000 := by rw [List.length_append, List.length_map, List.length_range]; omega
          obtain ⟨L1, hL1⟩ : ∃ L1, (L0 ++ (List.range j).map fun j => (k, j)) = L1 := ⟨_, rfl⟩
          rw [hL1] at hsn hown2 hl1
          have Haj := hid haj
          have Hsn := hid hsn
          have Hown2 := hid hown2
          have hsW := hB.size
          clear haj hsn hown2 hL1
          go_wp2_with (refine wpList_append_own _ rfl (.tmp 22) (.tmp 28) 122 rfl w.heap.size tThr i0 _ 2 16 underThr Hi0.out Hz0.out Hs0.out Hb0.out rfl (by decide) u5 L1.length _ rfl (Hown2.out.alloc _) ⟨wr.heap.size, 0, none⟩ 1 1 (pairsc [(k, j)]) rfl rfl (fun a u hu => by rw [Addr.add_mid]; exact (Blk.new wr (pairsc [(k, j)]) tThr).whole a u hu) (pairsc_one _) (by unfold maxLen; omega) (by omega) (by simp; omega) ?_; intro v' w1 hown1 hgrow _; have hB1 := (hB.alloc hB.size (.cells (pairsc [(k, j)]).toArray tThr)).grown hgrow (by simp; omega) (fun j e => by { have := (Hown2.out.lt j e).1; omega }))
          go_roundw
          case rel => exact ⟨j + 1, a' + size, by rw [Nat.add_mul, Nat.one_mul, Haj.out], by omega, by go_num, by rw [Hsn.out, List.length_append]; simpa [pairsc] using hown1, hB1⟩
          case measure => (simp [intOf]; try omega)
        · have q2 : ¬ ((a' : Int) < (x : Int)) := by omega
          have he : (x + (size - 1)) / size = j := ceil_at (by omega) (by omega)
          have Htk2 := Htk.out
          rw [he] at Htk2
          rw [← Htk2] at hown2
          clear haj he Htk2
          go_wp2_with fail
          go_roundw
          case rel => exact ⟨k + 1, by omega, by go_num, hown2, hB⟩
          case measure => (simp [intOf]; try omega)
    · have hke : k = n := by omega
      have q1 : ¬ ((k : Int) < (n : Int)) := by omega
      rw [hke] at hown
      clear hke
      go_wp2_with fail
      go_ret
      exact ⟨_, rfl, hown, hB⟩
end Go.Proofs.Ytgellbapbphnlaa
