/- cbc: bytes.Repeat of one byte -/
import Derived.Test.YtlgeebnmonmdaaaPd1
import Derived.Test.YtlgeebnmonmdaaaReg
namespace Go.Proofs.Ytlgeebnmonmdaaa
open Go.RowKit

set_option maxRecDepth 100000 in
set_option maxHeartbeats 600000 in
theorem repeat_any (w : World) (b cap : Nat) (x : UInt8) (T : TypeId) (hb : Blk w b [.int .u8 (bv x)] T) (n : Nat) (h1 : 1 ≤ n) (h16 : n ≤ 16) :
    Calls Try.prog 49 #[.slice (some ⟨b, 0, none⟩) 1 cap, .int .i64 n] w fun e w' => e = .returned (.slice (some ⟨w.heap.size, 0, none⟩) n n) ∧ (∃ rest, Blk w' w.heap.size (bys (List.replicate n x) ++ rest) tU8) ∧ Below w.heap.size w w' := by
  obtain ⟨cs, hrun, hle, _⟩ := Lib.run_makeNoZero (P := Try.prog) w #[3] 26 5 under33b n (by omega)
  have hcall : (callFunc 70 #[.int .i64 n]).run Try.prog w = .ok (.value (.slice (some ⟨w.heap.size, 0, none⟩) n cs.size)) (w.drew.drew.alloc (.cells cs 5)) := by
    rw [run_callFunc_extern Try.func70 (by kernel_rfl) (by kernel_rfl) (by kernel_rfl) (e := Extern.BytealgMakeNoZero.makeNoZero #[3] #[26]) (by kernel_rfl), hrun]
    rfl
  clear hrun
  have hbl := hb.lt
  have e0 : cs = cs.toList.toArray := by simp
  have hg : Blk (w.drew.drew.alloc (.cells cs 5)) w.heap.size cs.toList tU8 := by
    have := Blk.new w.drew.drew cs.toList tU8
    rw [← e0] at this
    exact this
  have hb1 : Blk (w.drew.drew.alloc (.cells cs 5)) b [.int .u8 (bv x)] T := hb.drew.drew.alloc _
  have hB : Below w.heap.size w (w.drew.drew.alloc (.cells cs 5)) := (((Below.refl _ _).drew).drew).alloc (Nat.le_refl _) _
  have hcl : n ≤ cs.toList.length := by simpa using hle
  clear hb
  go_enter Try.func49, Try.ntmps49
  go_wp2_with fail
  refine (mul1_any _ n h1 h16).mono ?_
  rintro e w1 ⟨rfl, rfl⟩
  have hmin : Nat.min 1 n = 1 := Nat.min_eq_left h1
  go_wp2_with (refine wpList_copy_blk rfl (.tmp 58) (.tmp 59) 26 26 rfl 5 under33b size5b w.heap.size 0 n n b 0 1 cap rfl rfl cs.toList [.int .u8 (bv x)] tU8 T hg hb1 1 hmin.symm (by omega) (by simp) (bys_one [x]) ?_; intro w2 hg2 hch2 hs2)
  have hB2 : Below w.heap.size w w2 := hB.trans (hch2.below (by simp) (fun k hk => by simp at hk; omega))
  have hg3 : Blk w2 w.heap.size (bys (List.replicate 1 x) ++ cs.toList.drop 1) tU8 := by
    have e : splice cs.toList 0 (List.take 1 (List.drop 0 [Value.int .u8 (bv x)])) = bys (List.replicate 1 x) ++ cs.toList.drop 1 := by simp [splice, bys]
    rw [← e]; exact hg2
  have hrl : 1 + (cs.toList.drop 1).length = cs.toList.length := by rw [List.length_drop]; omega
  generalize cs.toList.drop 1 = rest0 at *
  generalize cs.toList.length = C at *
  clear hg2 hch2 hs2 hg hb1 hB hcall e0 hle
  go_loopw [10, 11] (fun i _ wr => ∃ (k : Nat) (rest : List Value), 1 ≤ k ∧ k ≤ n ∧ i = .int .i64 k ∧ Blk wr w.heap.size (bys (List.replicate k x) ++ rest) tU8 ∧ k + rest.length = C ∧ Below w.heap.size w wr) (fun i _ _ => n - (intOf i).toNat)
  case atStart => exact ⟨1, rest0, by omega, h1, rfl, hg3, hrl, hB2⟩
  case round =>
    obtain ⟨k, rest, hk1, hkn, rfl, hblk, hC, hBr⟩ := hrel
    clear hg3 hrl hB2
    by_cases hlt : k < n
    · obtain ⟨c, hc⟩ : ∃ c, Nat.min k (n - k) = c := ⟨_, rfl⟩
      have q1 : (k : Int) < (n : Int) := by omega
      have q2 : ¬ ((n : Int) ≤ (k : Int)) := by omega
      have hblkd := hid hblk.drew
      have hcr : c ≤ rest.length := by rw [← hc]; exact Nat.le_trans (Nat.min_le_right _ _) (by omega)
      have hck : c ≤ k := by rw [← hc]; exact Nat.min_le_left _ _
      have hc1 : 1 ≤ c := by rw [← hc]; exact Nat.le_min.2 ⟨hk1, by omega⟩
      have hcn : c ≤ n - k := by rw [← hc]; exact Nat.min_le_right _ _
      go_wp2_with fail
      have hcs : (bys (List.replicate c x)).length = c := by rw [bys_length]; simp
      have hfit : k + (bys (List.replicate c x)).length ≤ (bys (List.replicate k x) ++ rest).length := by rw [hcs, List.length_append, bys_length]; simp; omega
      have hsrc : ∀ j v, (bys (List.replicate c x))[j]? = some v → wr.drew.cell? ((⟨w.heap.size, 0, none⟩ : Addr).add j) = some v := fun j v hv => by
        rw [Addr.add_mid, Nat.zero_add]
        have hj : j < c := by
          rcases Nat.lt_or_ge j c with h | h
          · exact h
          · rw [List.getElem?_eq_none (by omega)] at hv; cases hv
        refine hblkd.out.cellAt ?_
        rw [List.getElem?_append_left (by rw [bys_length]; simp; omega), ← hv]
        simp [bys, hj, show j < k by omega]
      have hsp : splice (bys (List.replicate k x) ++ rest) k (bys (List.replicate c x)) = bys (List.replicate (k + c) x) ++ rest.drop c := by
        rw [← bys_rep_succ k x c hck rest]
        congr 1
        rw [List.drop_zero, List.take_append_of_le_length (by rw [bys_length]; simp; exact hck)]
        simp [bys, Nat.min_eq_left hck]
      have hnk : ¬ n = k := Nat.ne_of_gt hlt
      have e1 : 1 ≤ k + c := by omega
      have e2 : k + c ≤ n := by omega
      have e3 : k + c + (rest.drop c).length = C := by rw [List.length_drop]; omega
      have e4 : n - (k + c) < n - k := by omega
      have Hsp := hid hsp
      have Hcs := hid hcs
      have Hfit := hid hfit
      have Hsrc := hid hsrc
      have hwk : IntKind.i64.wrap ((k : Int) + (c : Int)) = ((k + c : Nat) : Int) := by rw [IntKind.wrap_i64]; omega
      clear hsp hcs hfit hsrc
      have hcopy0 := run_copy_row (P := Try.prog) wr.drew 26 26 3 5 w.heap.size k (n - k) (n - k) ⟨w.heap.size, 0, none⟩ k n (bys (List.replicate k x) ++ rest).toArray tU8 (bys (List.replicate c x)) under33b size5b hblkd.out (by rw [Hcs.out, ← hc]) Hsrc.out (by simpa using Hfit.out) (bys_one _)
      obtain ⟨w4, hw4⟩ : ∃ w4, wr.drew.setRow w.heap.size (splice (bys (List.replicate k x) ++ rest) k (bys (List.replicate c x))).toArray = w4 := ⟨_, rfl⟩
      have hg4 : Blk w4 w.heap.size (splice (bys (List.replicate k x) ++ rest) k (bys (List.replicate c x))) tU8 := by rw [← hw4]; exact hblkd.out.setRow _
      have hb4 : Below w.heap.size w w4 := by rw [← hw4]; exact below_setRow hBr.drew (Nat.le_refl _) _
      have hcopy : (Builtin.copy_ #[26, 26] 3 #[.slice (some ⟨w.heap.size, k, none⟩) (n - k) (n - k), .slice (some ⟨w.heap.size, 0, none⟩) k n]).run Try.prog wr.drew = .ok (.int .i64 c) w4 := by
        rw [hcopy0, ← hw4]
        simp only [splice, Hcs.out, List.append_assoc]
        rfl
      rw [Hsp.out] at hg4
      have Hg4 := hid hg4
      clear hcopy0 hw4 hg4
      refine tk_region (fun _ => True) (by kernel_rfl) (fun c a d v w h => by cases d <;> exact h) trivial (fun hPF hHeld => ?_)
      refine tk 0 (.some 67) _ _ rfl rfl (by kernel_rfl) (by kernel_rfl) (by kernel_rfl) hPF rfl (fun w' hw' => by (go_simp; try with_reducible rfl)) hHeld ?_
      simp only [Act.put, List.setIfInBounds_toArray, List.set_cons_zero, List.set_cons_succ]
      refine tk 1 (.some 68) _ _ rfl rfl (by kernel_rfl) (by kernel_rfl) (by kernel_rfl) hPF rfl (fun w' hw' => by (go_simp; try with_reducible rfl)) hHeld ?_
      simp only [Act.put, List.setIfInBounds_toArray, List.set_cons_zero, List.set_cons_succ]
      refine tk 2 (.some 69) _ _ rfl rfl (by kernel_rfl) (by kernel_rfl) (by kernel_rfl) hPF rfl (fun w' hw' => by (go_simp; try with_reducible rfl)) hHeld ?_
      simp only [Act.put, List.setIfInBounds_toArray, List.set_cons_zero, List.set_cons_succ]
      refine tk 3 (.some 70) _ _ rfl rfl (by kernel_rfl) (by kernel_rfl) (by kernel_rfl) hPF rfl (fun w' hw' => by (go_simp; try with_reducible rfl)) hHeld ?_
      simp only [Act.put, List.setIfInBounds_toArray, List.set_cons_zero, List.set_cons_succ]
      refine tk 4 (.some 71) _ _ rfl rfl (by kernel_rfl) (by kernel_rfl) (by kernel_rfl) hPF rfl (fun w' hw' => by (go_simp; try with_reducible rfl)) hHeld ?_
      simp only [Act.put, List.setIfInBounds_toArray, List.set_cons_zero, List.set_cons_succ]
      refine tk 5 (.some 72) _ _ rfl rfl (by kernel_rfl) (by kernel_rfl) (by kernel_rfl) hPF rfl (fun w' hw' => by (go_simp; try with_reducible rfl)) hHeld ?_
      simp only [Act.put, List.setIfInBounds_toArray, List.set_cons_zero, List.set_cons_succ]
      refine tk 6 (.some 73) _ _ rfl rfl (by kernel_rfl) (by kernel_rfl) (by kernel_rfl) hPF rfl (fun w' hw' => by (go_simp; try with_reducible rfl)) hHeld ?_
      simp only [Act.put, List.setIfInBounds_toArray, List.set_cons_zero, List.set_cons_succ]
      refine wpAnyH_ready (rs := [7]) (by kernel_rfl) (by simp) (AllReadyH.cons (o := _) rfl (fun K hK => ?_) AllReadyH.nil)
      go_simp
      refine hK.out _ _ trivial (fun hHeld => ?_)
      clear hK K
      try simp only [Act.put, List.setIfInBounds_toArray, List.set_cons_zero, List.set_cons_succ]
      refine tk 8 (.some 75) _ _ rfl rfl (by kernel_rfl) (by kernel_rfl) (by kernel_rfl) hPF rfl (fun w' hw' => by (go_simp; try with_reducible rfl)) hHeld ?_
      simp only [Act.put, List.setIfInBounds_toArray, List.set_cons_zero, List.set_cons_succ]
      refine tk 9 (.some 10) _ _ rfl rfl (by kernel_rfl) (by kernel_rfl) (by kernel_rfl) hPF rfl (fun w' hw' => by (go_simp; try with_reducible rfl)) hHeld ?_
      simp only [Act.put, List.setIfInBounds_toArray, List.set_cons_zero, List.set_cons_succ]
      refine wpAnyH_done (by kernel_rfl) ?_ _
      go_wp2_with fail
      go_roundw
      case rel =>
        exact ⟨k + c, rest.drop c, e1, e2, by rw [Int.natCast_add], Hg4.out, e3, hb4⟩
      case measure => simp [intOf]; rw [← Int.natCast_add, Int.toNat_natCast]; exact e4
    · obtain rfl : k = n := by omega
      go_wp2_with fail
      go_ret
      exact ⟨rfl, ⟨rest, hblk⟩, hBr⟩
end Go.Proofs.Ytlgeebnmonmdaaa
