/- aes: a round's key -/
import Derived.Test.YtnmmnlffobnbfaaGreatDoorAes1
namespace Go.Proofs.YtnmmnlffobnbfaaGreatDoor
open Go.RowKit

def addTo (k : Nat) (l rk : List UInt8) : List UInt8 := List.zipWith (· ^^^ ·) (l.take k) rk ++ l.drop k

theorem zip_len (k : Nat) (l rk : List UInt8) (h : k ≤ l.length) (h2 : k ≤ rk.length) : (List.zipWith (· ^^^ ·) (l.take k) rk).length = k := by simp; omega
theorem addTo_len (k : Nat) (l rk : List UInt8) (h : l.length ≤ rk.length) : (addTo k l rk).length = l.length := by simp [addTo]; omega
theorem addTo_at (k : Nat) (l rk : List UInt8) (h : k < l.length) (h2 : k < rk.length) : (addTo k l rk).getD k 0 = l.getD k 0 :=
  app_at 0 _ l k (zip_len k l rk (by omega) (by omega))
theorem zip_succ (k : Nat) (l rk : List UInt8) (h : k < l.length) (h2 : k < rk.length) : List.zipWith (· ^^^ ·) (l.take (k + 1)) rk = List.zipWith (· ^^^ ·) (l.take k) rk ++ [l.getD k 0 ^^^ rk.getD k 0] := by
  induction k generalizing l rk with
  | zero =>
    match l, rk, h, h2 with
    | a :: l, b :: rk, _, _ => simp [List.getD]
  | succ k ih =>
    match l, rk, h, h2 with
    | a :: l, b :: rk, h, h2 =>
      have := ih l rk (by simpa using h) (by simpa using h2)
      simp only [List.take_succ_cons, List.zipWith_cons_cons, List.cons_append, List.getD_cons_succ] at this ⊢
      rw [this]
theorem addTo_succ (k : Nat) (l rk : List UInt8) (h : k < l.length) (h2 : k < rk.length) : (addTo k l rk).set k (l.getD k 0 ^^^ rk.getD k 0) = addTo (k + 1) l rk := by
  unfold addTo
  rw [app_set 0 _ _ l k (zip_len k l rk (by omega) (by omega)) h, zip_succ k l rk h h2]

theorem bys_get_pre (l : List UInt8) (rest : List Value) (i : Nat) (h : i < l.length) : (bys l ++ rest)[i]? = some (.int .u8 (bv (l.getD i 0))) := by
  rw [List.getElem?_append_left (by rw [bys_length]; exact h), bys_get l i h]
set_option maxRecDepth 100000 in
set_option maxHeartbeats 1000000 in
theorem add_any (w : World) (kb tb wb b n cap r : Nat) (l rk : List UInt8) (rest : List Value) (T : TypeId) (hk : Blk w kb [.pointer (some ⟨tb, 0, none⟩), .slice (some ⟨wb, 0, none⟩) n cap] tKeys)
    (hw : Blk w wb (bys rk ++ rest) tA4) (hb : Blk w b (bys l) T) (hl : l.length = 16) (hrk : 16 * r + 16 ≤ rk.length) (hn : 4 * r + 4 ≤ n) (hkb : kb ≠ b) (hwb : wb ≠ b) (hn9 : n < 1000000000) :
    Calls Tryz.prog 173 #[.pointer (some ⟨kb, 0, none⟩), .pointer (some ⟨b, 0, none⟩), .int .i64 r] w fun e w' => e = .returned (.tuple #[]) ∧ Blk w' b (bys (addTo 16 l (rk.drop (16 * r)))) T ∧ Chg w.heap.size [b] w w' := by
  have Hl := hid hl; clear hl
  go_enter Tryz.func173, Tryz.ntmps173
  go_wp2_with fail
  go_loopw [7] (fun i wr => ∃ k : Nat, k ≤ 16 ∧ i = .int .i64 k ∧ Blk wr b (bys (addTo k l (rk.drop (16 * r)))) T ∧ Chg w.heap.size [b] w wr) (fun i _ => 16 - (intOf i).toNat)
  case atStart => exact ⟨0, by omega, rfl, by simpa [addTo] using hb, Chg.refl _ _ _⟩
  case round =>
    obtain ⟨k, hkn, rfl, hb', hch⟩ := hrel
    by_cases hlt : k < 16
    · have hk1 := (hk.chg hch hk.lt (by simpa using hkb)).cell 1
      simp only [List.getElem?_cons_zero, List.getElem?_cons_succ] at hk1
      have hla := addTo_len k l (rk.drop (16 * r)) (by rw [Hl.out]; simp; omega)
      have hc := hb'.cellAt (bys_get _ k (by rw [hla, Hl.out]; exact hlt))
      have hf := hb'.frozen k
      rw [addTo_at k l _ (by rw [Hl.out]; exact hlt) (by simp; omega)] at hc
      have hs := addTo_succ k l (rk.drop (16 * r)) (by rw [Hl.out]; exact hlt) (by simp; omega)
      have hd : (rk.drop (16 * r)).getD k 0 = rk.getD (16 * r + k) 0 := by simp [List.getD]
      rw [hd] at hs
      have Hs := hid hs; clear hs hla hd
      have hcw := (hw.chg hch hw.lt (by simpa using hwb)).cellAt (bys_get_pre rk rest ((4 * r + k / 4) * 4 + k % 4) (by omega))
      have hq : (4 * r + k / 4) * 4 + k % 4 = 16 * r + k := by omega
      rw [show rk.getD ((4 * r + k / 4) * 4 + k % 4) 0 = rk.getD (16 * r + k) 0 from by rw [hq]] at hcw
      clear hq
      generalize rk.getD (16 * r + k) 0 = y at hcw Hs
      have q1 : 0 ≤ 4 * (r : Int) + (k : Int) / 4 := by omega
      have q2 : 4 * (r : Int) + (k : Int) / 4 < (n : Int) := by omega
      have q3 : (4 * (r : Int) + (k : Int) / 4).toNat = 4 * r + k / 4 := by omega
      have q4 : 0 ≤ (k : Int) % 4 := by omega
      have q5 : (k : Int) % 4 < 4 := by omega
      have q6 : ((k : Int) % 4).toNat = k % 4 := by omega
      generalize l.getD k 0 = x at hc Hs
      go_wp2_with fail
      refine still_tail' 22 (by kernel_rfl) (by kernel_rfl) ?_
      simp only [List.take_succ_cons, List.take_zero, List.drop_succ_cons, List.drop_zero]
      repeat (refine wpStill_step (fun K hK => ?_); go_simp; (try go_bits); refine hK _ ?_; clear hK K)
      refine wpStill_nil ?_
      go_wp2_with fail
      go_roundw
      case rel =>
        refine ⟨k + 1, by omega, by go_num, ?_, (hch.setCell (.inl (by simp)) _).drew⟩
        rw [← Hs.out, ← bys_set]; exact (hb'.set _ _).drew
      case measure => simp [intOf]; omega
    · obtain rfl : k = 16 := by omega
      go_wp2_with fail
      go_end0
      exact ⟨rfl, hb', hch⟩

end Go.Proofs.YtnmmnlffobnbfaaGreatDoor
