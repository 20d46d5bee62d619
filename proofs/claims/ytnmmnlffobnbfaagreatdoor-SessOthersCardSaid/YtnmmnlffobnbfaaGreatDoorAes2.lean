/- aes: blocks -/
import Derived.Test.YtnmmnlffobnbfaaGreatDoorAes1
namespace Go.Proofs.YtnmmnlffobnbfaaGreatDoor
open Go.RowKit

def sbox (x : UInt8) : UInt8 := TAB.getD x.toNat 0
def sinv (x : UInt8) : UInt8 := TAB.getD (256 + x.toNat) 0
theorem TAB_len : TAB.length = 512 := by unfold TAB; rw [bst_len]; simp [mst_len]

def subTo (k : Nat) (l : List UInt8) : List UInt8 := (l.take k).map sbox ++ l.drop k
theorem subTo_len (k : Nat) (l : List UInt8) : (subTo k l).length = l.length := by simp [subTo]; omega
theorem subTo_at (k : Nat) (l : List UInt8) (h : k < l.length) : (subTo k l).getD k 0 = l.getD k 0 := by
  unfold subTo
  simp [List.getD, List.getElem?_append_right, Nat.min_eq_left (Nat.le_of_lt h)]
theorem subTo_succ (k : Nat) (l : List UInt8) (h : k < l.length) : (subTo k l).set k (sbox (l.getD k 0)) = subTo (k + 1) l := by
  have e1 : l.drop k = l.getD k 0 :: l.drop (k + 1) := by
    rw [List.drop_eq_getElem_cons h]; simp [List.getD, List.getElem?_eq_getElem h]
  have e2 : l.take (k + 1) = l.take k ++ [l.getD k 0] := by
    rw [List.take_succ_eq_append_getElem h]; simp [List.getD, List.getElem?_eq_getElem h]
  have e3 : ((l.take k).map sbox).length = k := by simp; omega
  unfold subTo
  rw [e1, e2, List.map_append, List.append_assoc]
  rw [List.set_append_right _ _ (by omega), e3]
  simp

set_option maxRecDepth 100000 in
set_option maxHeartbeats 1000000 in
theorem subs_any (w : World) (kb tb b n cap : Nat) (ws : Value) (l : List UInt8) (T : TypeId) (hk : Blk w kb [.pointer (some ⟨tb, 0, none⟩), ws] tKeys)
    (ht : Blk w tb (bys TAB) tTables) (hb : Blk w b (bys l) T) (hn : l.length = n) (hkb : kb ≠ b) (htb : tb ≠ b) (hn9 : n < 1000000000) :
    Calls Tryz.prog 168 #[.pointer (some ⟨kb, 0, none⟩), .slice (some ⟨b, 0, none⟩) n cap] w fun e w' => e = .returned (.tuple #[]) ∧ Blk w' b (bys (l.map sbox)) T ∧ Chg w.heap.size [b] w w' := by
  have Hn := hid hn; clear hn
  go_enter Tryz.func168, Tryz.ntmps168
  go_wp2_with fail
  go_loopw [8] (fun i wr => ∃ k : Nat, k ≤ n ∧ i = .int .i64 k ∧ Blk wr b (bys (subTo k l)) T ∧ Chg w.heap.size [b] w wr) (fun i _ => n - (intOf i).toNat)
  case atStart => exact ⟨0, by omega, rfl, by simpa [subTo] using hb, Chg.refl _ _ _⟩
  case round =>
    obtain ⟨k, hkn, rfl, hb', hch⟩ := hrel
    by_cases hlt : k < n
    · have hlen := (subTo_len k l).trans Hn.out
      have hlt' : k < l.length := by rw [Hn.out]; exact hlt
      have hc := hb'.cellAt (bys_get _ k (by omega))
      have hf := hb'.frozen k
      rw [subTo_at k l hlt'] at hc
      have hs := subTo_succ k l hlt'
      have Hs := hid hs; clear hs hlen hlt'
      generalize l.getD k 0 = x at hc Hs
      have hk1 := (hk.chg hch hk.lt (by simpa using hkb)).cell 0
      have ht1 := (ht.chg hch ht.lt (by simpa using htb)).cellAt (bys_get _ (bv x).toNat (by rw [TAB_len]; have := bv_hi x; have := bv_lo x; omega))
      have x0 := bv_lo x
      have x1 := bv_hi x
      simp only [List.getElem?_cons_zero] at hk1
      have hsx : TAB.getD (bv x).toNat 0 = sbox x := by unfold sbox; rw [bv_toNat]
      rw [hsx] at ht1
      clear hsx
      go_wp2_with fail
      go_roundw
      case rel =>
        refine ⟨k + 1, by omega, by go_num, ?_, hch.setCell (.inl (by simp)) _⟩
        rw [← Hs.out, ← bys_set]; exact hb'.set _ _
      case measure => simp [intOf]; omega
    · have e : subTo k l = l.map sbox := by
        have hn := Hn.out
        obtain rfl : k = l.length := by omega
        simp [subTo]
      rw [e] at hb'
      clear e
      go_wp2_with fail
      go_end0
      exact ⟨rfl, hb', hch⟩

def mx4 : List UInt8 → List UInt8
  | [a, b, c, d] => [a ^^^ (a ^^^ b ^^^ c ^^^ d) ^^^ dbl (a ^^^ b), b ^^^ (a ^^^ b ^^^ c ^^^ d) ^^^ dbl (b ^^^ c), c ^^^ (a ^^^ b ^^^ c ^^^ d) ^^^ dbl (c ^^^ d), d ^^^ (a ^^^ b ^^^ c ^^^ d) ^^^ dbl (d ^^^ a)]
  | l => l

set_option maxRecDepth 100000 in
set_option maxHeartbeats 2000000 in
theorem mixed_any4 (c0 c1 c2 c3 : UInt8) (w : World) :
    Calls Tryz.prog 196 #[.agg #[B c0, B c1, B c2, B c3]] w fun e w' => e = .returned (.agg (bys (mx4 [c0, c1, c2, c3])).toArray) ∧ Below w.heap.size w w' := by
  go_enter Tryz.func196, Tryz.ntmps196
  go_wp2_with fail
  refine wp_loop_rounds 5 ?_
  iterate 4 (
    rw [rounds_succ]
    go_wp2_with fail
    refine still_tail' 18 (by kernel_rfl) (by kernel_rfl) ?_
    simp only [List.take_succ_cons, List.take_zero, List.drop_succ_cons, List.drop_zero]
    repeat (refine wpStill_step (fun K hK => ?_); go_simp; (try go_bits); refine hK _ ?_; clear hK K)
    refine wpStill_step (fun K hK => ?_)
    go_simp
    refine ⟨_, still_of (double_any _ _), hK _ ?_⟩
    clear hK K
    repeat (refine wpStill_step (fun K hK => ?_); go_simp; (try go_bits); refine hK _ ?_; clear hK K)
    refine wpStill_nil ?_
    go_wp2_with fail)
  rw [rounds_succ]
  go_wp2_with fail
  refine bodyPost_ret (v := .agg (bys (mx4 [c0, c1, c2, c3])).toArray) (by simp [results, Tryz.results196, go_sem, bys, mx4]) rfl ⟨rfl, ?_⟩
  go_grown

theorem len4 {l : List UInt8} (h : l.length = 4) : ∃ a b c d, l = [a, b, c, d] := by
  match l, h with
  | [a, b, c, d], _ => exact ⟨a, b, c, d, rfl⟩
theorem mixed_any (l : List UInt8) (hl : l.length = 4) (w : World) :
    Calls Tryz.prog 196 #[.agg (bys l).toArray] w fun e w' => e = .returned (.agg (bys (mx4 l)).toArray) ∧ Below w.heap.size w w' := by
  obtain ⟨a, b, c, d, rfl⟩ := len4 hl
  exact mixed_any4 a b c d w

def sh16 : List UInt8 → List UInt8
  | [a0, a1, a2, a3, a4, a5, a6, a7, a8, a9, a10, a11, a12, a13, a14, a15] => [a0, a5, a10, a15, a4, a9, a14, a3, a8, a13, a2, a7, a12, a1, a6, a11]
  | l => l
def hs16 : List UInt8 → List UInt8
  | [a0, a1, a2, a3, a4, a5, a6, a7, a8, a9, a10, a11, a12, a13, a14, a15] => [a0, a13, a10, a7, a4, a1, a14, a11, a8, a5, a2, a15, a12, a9, a6, a3]
  | l => l
theorem len16 {l : List UInt8} (h : l.length = 16) : ∃ a0 a1 a2 a3 a4 a5 a6 a7 a8 a9 a10 a11 a12 a13 a14 a15, l = [a0, a1, a2, a3, a4, a5, a6, a7, a8, a9, a10, a11, a12, a13, a14, a15] := by
  match l, h with
  | [a0, a1, a2, a3, a4, a5, a6, a7, a8, a9, a10, a11, a12, a13, a14, a15], _ => exact ⟨a0, a1, a2, a3, a4, a5, a6, a7, a8, a9, a10, a11, a12, a13, a14, a15, rfl⟩

set_option maxRecDepth 100000 in
set_option maxHeartbeats 2000000 in
theorem shift_one (a0 a1 a2 a3 a4 a5 a6 a7 a8 a9 a10 a11 a12 a13 a14 a15 : UInt8) (w : World) :
    Calls Tryz.prog 175 #[.agg #[B a0, B a1, B a2, B a3, B a4, B a5, B a6, B a7, B a8, B a9, B a10, B a11, B a12, B a13, B a14, B a15], .int .i64 1] w fun e w' => e = .returned (.agg (bys (sh16 [a0, a1, a2, a3, a4, a5, a6, a7, a8, a9, a10, a11, a12, a13, a14, a15])).toArray) ∧ Below w.heap.size w w' := by
  go_enter Tryz.func175, Tryz.ntmps175
  go_wp2_with fail
  refine wp_loop_rounds 17 ?_
  iterate 16 (rw [rounds_succ]; go_wp2_with fail)
  rw [rounds_succ]
  go_wp2_with fail
  refine bodyPost_ret (v := .agg (bys (sh16 [a0, a1, a2, a3, a4, a5, a6, a7, a8, a9, a10, a11, a12, a13, a14, a15])).toArray) (by simp [results, Tryz.results175, go_sem, bys, sh16]) rfl ⟨rfl, ?_⟩
  go_grown

end Go.Proofs.YtnmmnlffobnbfaaGreatDoor
