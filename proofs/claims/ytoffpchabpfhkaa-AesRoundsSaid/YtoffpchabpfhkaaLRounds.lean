/- aes: AesRounds, walked -/
import Derived.Test.YtoffpchabpfhkaaLBack
namespace Go.Proofs.Ytoffpchabpfhkaa
open Go.RowKit

theorem rounds_any (w : World) (kb : Nat) (rk : List UInt8) (hk : KeysAt w kb rk) :
    Calls Try.prog 35 #[.pointer (some ⟨kb, 0, none⟩)] w fun e w' => e = .returned (.int .i64 (roundsOf rk : Int)) ∧ w = w' := by
  obtain ⟨tb, wb, n, cap, ex, h1, _, _, h4, h5⟩ := hk
  refine (rounds_some w kb tb n cap _ h1 (by omega) (by omega)).mono ?_
  rintro e w' ⟨rfl, rfl⟩
  refine ⟨?_, rfl⟩
  rw [show roundsOf rk = n / 4 - 1 by unfold roundsOf; omega]

theorem rounds_of (m : Nat) (key : List UInt8) (hk : key.length = 4 * m) (hm : m = 4 ∨ m = 8) : roundsOf (rkOf m key) = m + 6 := by
  have h := exTo_len m key hk (by omega) (28 + 3 * m)
  unfold roundsOf rkOf
  rw [h]; omega

theorem same16 (X : List UInt8) (hX : X.length = 16) (w : World) : (Op.equalIn 10000 54 (.agg (bys X).toArray) (.agg (bys X).toArray)).run Try.prog w = .ok true w := by
  have := run_equalIn_bytes (P := Try.prog) 9998 54 5 .u8 X X (by rw [hX]; exact under54) under5 size5 rfl w
  simpa using this

set_option maxRecDepth 100000 in
set_option maxHeartbeats 4000000 in
theorem aesRounds_walk (key b : List UInt8) (w : World) (hkl : key.length = 32) (hbl : b.length = 16) :
    Calls Try.prog 10 #[.agg (bys key).toArray, .agg (bys b).toArray] w fun e w' => e = .returned (.bool true) ∧ Below w.heap.size w w' := by
  have h4 : (key.take 16).length = 4 * 4 := by simp; omega
  have h8 : (key.take 32).length = 4 * 8 := by simp; omega
  have hR4 : ((roundsOf (rkOf 4 (key.take 16)) : Nat) : Int) = 10 := by rw [rounds_of 4 _ h4 (.inl rfl)]; rfl
  have hR8 : ((roundsOf (rkOf 8 (key.take 32)) : Nat) : Int) = 14 := by rw [rounds_of 8 _ h8 (.inr rfl)]; rfl
  have hrl := rk_len 8 (key.take 32) h8 (.inr rfl)
  have he16 : (enc (rkOf 8 (key.take 32)) b).length = 16 := encTo_len _ _ _ _ hrl.1 hbl
  have hd16 : (dec (rkOf 8 (key.take 32)) b).length = 16 := addK_len _ _ _ (by omega) (decTo_len _ _ _ _ hrl.1 hbl)
  have he1 := same16 _ he16
  have he2 := same16 _ hd16
  have hN : Blk ((w.alloc (.cells (bys key).toArray t32)).alloc (.cells (bys b).toArray tA16)) w.heap.size (bys key) t32 := (Blk.new w (bys key) t32).alloc _
  have hBl : Blk ((w.alloc (.cells (bys key).toArray t32)).alloc (.cells (bys b).toArray tA16)) (w.heap.size + 1) (bys b) tA16 := by
    have := Blk.new (w.alloc (.cells (bys key).toArray t32)) (bys b) tA16
    simpa using this
  have hL : Below w.heap.size w ((w.alloc (.cells (bys key).toArray t32)).alloc (.cells (bys b).toArray tA16)) := ((Below.refl _ _).alloc (Nat.le_refl _) _).alloc (by simp) _
  have Hb := hid hbl
  have hi1 : (Try.prog.info? 54).map (·.size) = some (bys b).length := by rw [size54, bys_length, hbl]
  have hgd := guard54
  clear hkl hbl hrl he16 hd16
  go_enter Try.func10, Try.ntmps10
  go_wp2_with fail
  change Calls _ _ _ ((w.alloc (.cells (bys key).toArray t32)).alloc (.cells (bys b).toArray tA16)) _
  generalize hw0 : (w.alloc (.cells (bys key).toArray t32)).alloc (.cells (bys b).toArray tA16) = w0 at *
  clear hw0
  refine (expand_any _ w.heap.size 0 16 32 4 (key.take 16) (hN.rowAt 0 16) h4 (.inl rfl) rfl (by omega)).mono ?_
  rintro e wa ⟨ka, rfl, hKA, hBn, _⟩
  have hN := hN.below hBn hN.lt
  have hBl := hBl.below hBn hBl.lt
  have hL := hL.trans (Below.mono hBn hL.size)
  clear hBn
  go_wp2_with fail
  refine (expand_any _ w.heap.size 0 32 32 8 (key.take 32) (hN.rowAt 0 32) h8 (.inr rfl) rfl (by omega)).mono ?_
  rintro e wb ⟨kb, rfl, hKB, hBn, _⟩
  have hKA := KeysAt.below hKA hBn
  have hN := hN.below hBn hN.lt
  have hBl := hBl.below hBn hBl.lt
  have hL := hL.trans (Below.mono hBn hL.size)
  clear hBn
  go_wp2_with fail
  refine (expand_any _ w.heap.size 0 32 32 8 (key.take 32) (hN.rowAt 0 32) h8 (.inr rfl) rfl (by omega)).mono ?_
  rintro e wc ⟨kc, rfl, hKC, hBn, _⟩
  have hKA := (KeysAt.below hKA hBn).drew
  have hKB := (KeysAt.below hKB hBn).drew
  have hKC := hKC.drew
  have hBl := (hBl.below hBn hBl.lt).drew
  have hL := (hL.trans (Below.mono hBn hL.size)).drew
  clear hBn hN
  go_wp2_with fail
  have hr := hBl.whole
  refine tk_region (fun w' => w'.rangeAt (w.heap.size + 1) 0 (bys b)) (by kernel_rfl) (fun c a d v w h => by cases d <;> exact h) hr (fun hPF hHeld => ?_)
  refine tk 0 (.some 36) _ _ rfl rfl (by kernel_rfl) (by kernel_rfl) (by kernel_rfl) hPF rfl (fun w' hw' => by (go_simp; try with_reducible rfl)) hHeld ?_
  simp only [Act.put, List.setIfInBounds_toArray, List.set_cons_zero, List.set_cons_succ]
  refine wpAnyH_ready (rs := [1]) (by kernel_rfl) (by simp) (AllReadyH.cons (o := _) rfl (fun K hK => ?_) AllReadyH.nil)
  go_simp
  refine (rounds_any _ ka _ hKA).mono ?_
  rintro e wn ⟨rfl, rfl⟩
  rw [hR4]
  have hr := hBl.whole
  refine hK.out _ _ hr (fun hHeld => ?_)
  clear hK K
  try simp only [Act.put, List.setIfInBounds_toArray, List.set_cons_zero, List.set_cons_succ]
  refine tk 2 (.some 38) _ _ rfl rfl (by kernel_rfl) (by kernel_rfl) (by kernel_rfl) hPF rfl (fun w' hw' => by (go_simp; try with_reducible rfl)) hHeld ?_
  simp only [Act.put, List.setIfInBounds_toArray, List.set_cons_zero, List.set_cons_succ]
  refine tk 3 (.some 39) _ _ rfl rfl (by kernel_rfl) (by kernel_rfl) (by kernel_rfl) hPF rfl (fun w' hw' => by (go_simp; try with_reducible rfl)) hHeld ?_
  simp only [Act.put, List.setIfInBounds_toArray, List.set_cons_zero, List.set_cons_succ]
  refine tk 4 (.some 40) _ _ rfl rfl (by kernel_rfl) (by kernel_rfl) (by kernel_rfl) hPF rfl (fun w' hw' => by (go_simp; try with_reducible rfl)) hHeld ?_
  simp only [Act.put, List.setIfInBounds_toArray, List.set_cons_zero, List.set_cons_succ]
  refine wpAnyH_ready (rs := [5]) (by kernel_rfl) (by simp) (AllReadyH.cons (o := _) rfl (fun K hK => ?_) AllReadyH.nil)
  go_simp
  refine (rounds_any _ kb _ hKB).mono ?_
  rintro e wn ⟨rfl, rfl⟩
  rw [hR8]
  have hr := hBl.whole
  refine hK.out _ _ hr (fun hHeld => ?_)
  clear hK K
  try simp only [Act.put, List.setIfInBounds_toArray, List.set_cons_zero, List.set_cons_succ]
  refine tk 6 (.some 42) _ _ rfl rfl (by kernel_rfl) (by kernel_rfl) (by kernel_rfl) hPF rfl (fun w' hw' => by (go_simp; try with_reducible rfl)) hHeld ?_
  simp only [Act.put, List.setIfInBounds_toArray, List.set_cons_zero, List.set_cons_succ]
  refine tk 7 (.some 43) _ _ rfl rfl (by kernel_rfl) (by kernel_rfl) (by kernel_rfl) hPF rfl (fun w' hw' => by (go_simp; try with_reducible rfl)) hHeld ?_
  simp only [Act.put, List.setIfInBounds_toArray, List.set_cons_zero, List.set_cons_succ]
  refine tk 8 (.some 44) _ _ rfl rfl (by kernel_rfl) (by kernel_rfl) (by kernel_rfl) hPF rfl (fun w' hw' => by (go_simp; try with_reducible rfl)) hHeld ?_
  simp only [Act.put, List.setIfInBounds_toArray, List.set_cons_zero, List.set_cons_succ]
  refine tk 9 (.some 45) _ _ rfl rfl (by kernel_rfl) (by kernel_rfl) (by kernel_rfl) hPF rfl (fun w' hw' => by (go_simp; try with_reducible rfl)) hHeld ?_
  simp only [Act.put, List.setIfInBounds_toArray, List.set_cons_zero, List.set_cons_succ]
  refine tkl 10 (.some 46) _ rfl rfl 54 (.tmp 3) rfl (w.heap.size + 1) 0 (bys b) _ (by kernel_rfl) (by kernel_rfl) (by kernel_rfl) hPF rfl rfl (fun w' hw' => by first | exact hw' | exact hw'.1 | exact hw'.2 | exact hw'.2.1 | exact hw'.2.2) under54 rfl hi1 hHeld ?_
  simp only [Act.put, List.setIfInBounds_toArray, List.set_cons_zero, List.set_cons_succ]
  refine tk 12 (.some 48) _ _ rfl rfl (by kernel_rfl) (by kernel_rfl) (by kernel_rfl) hPF rfl (fun w' hw' => by (go_simp; try with_reducible rfl)) hHeld ?_
  simp only [Act.put, List.setIfInBounds_toArray, List.set_cons_zero, List.set_cons_succ]
  refine tkl 13 (.some 49) _ rfl rfl 54 (.tmp 3) rfl (w.heap.size + 1) 0 (bys b) _ (by kernel_rfl) (by kernel_rfl) (by kernel_rfl) hPF rfl rfl (fun w' hw' => by first | exact hw' | exact hw'.1 | exact hw'.2 | exact hw'.2.1 | exact hw'.2.2) under54 rfl hi1 hHeld ?_
  simp only [Act.put, List.setIfInBounds_toArray, List.set_cons_zero, List.set_cons_succ]
  refine wpAnyH_ready (rs := [11]) (by kernel_rfl) (by simp) (AllReadyH.cons (o := _) rfl (fun K hK => ?_) AllReadyH.nil)
  go_simp
  refine (enc_any _ kb _ b hKB Hb.out).mono ?_
  rintro e wn ⟨rfl, hBn⟩
  
  have hKA := KeysAt.below hKA hBn
  have hKB := KeysAt.below hKB hBn
  have hKC := KeysAt.below hKC hBn
  have hBl := hBl.below hBn hBl.lt
  have hL := hL.trans (Below.mono hBn hL.size)
  have hr := hBl.whole
  clear hBn
  refine hK.out _ _ hr (fun hHeld => ?_)
  clear hK K
  try simp only [Act.put, List.setIfInBounds_toArray, List.set_cons_zero, List.set_cons_succ]
  refine wpAnyH_ready (rs := [14]) (by kernel_rfl) (by simp) (AllReadyH.cons (o := _) rfl (fun K hK => ?_) AllReadyH.nil)
  go_simp
  refine (enc_any _ kc _ b hKC Hb.out).mono ?_
  rintro e wn ⟨rfl, hBn⟩
  
  have hKA := KeysAt.below hKA hBn
  have hKB := KeysAt.below hKB hBn
  have hKC := KeysAt.below hKC hBn
  have hBl := hBl.below hBn hBl.lt
  have hL := hL.trans (Below.mono hBn hL.size)
  have hr := hBl.whole
  clear hBn
  refine hK.out _ _ hr (fun hHeld => ?_)
  clear hK K
  try simp only [Act.put, List.setIfInBounds_toArray, List.set_cons_zero, List.set_cons_succ]
  refine tk 15 (.some 51) _ _ rfl rfl (by kernel_rfl) (by kernel_rfl) (by kernel_rfl) hPF rfl (fun w' hw' => by (go_simp; try with_reducible rfl)) hHeld ?_
  simp only [Act.put, List.setIfInBounds_toArray, List.set_cons_zero, List.set_cons_succ]
  refine tk 16 (.some 52) _ _ rfl rfl (by kernel_rfl) (by kernel_rfl) (by kernel_rfl) hPF rfl (fun w' hw' => by (go_simp; try with_reducible rfl)) hHeld ?_
  simp only [Act.put, List.setIfInBounds_toArray, List.set_cons_zero, List.set_cons_succ]
  refine tk 17 (.some 53) _ _ rfl rfl (by kernel_rfl) (by kernel_rfl) (by kernel_rfl) hPF rfl (fun w' hw' => by (go_simp; try with_reducible rfl)) hHeld ?_
  simp only [Act.put, List.setIfInBounds_toArray, List.set_cons_zero, List.set_cons_succ]
  refine tk 18 (.some 54) _ _ rfl rfl (by kernel_rfl) (by kernel_rfl) (by kernel_rfl) hPF rfl (fun w' hw' => by (go_simp; try with_reducible rfl)) hHeld ?_
  simp only [Act.put, List.setIfInBounds_toArray, List.set_cons_zero, List.set_cons_succ]
  refine tkl 19 (.some 55) _ rfl rfl 54 (.tmp 3) rfl (w.heap.size + 1) 0 (bys b) _ (by kernel_rfl) (by kernel_rfl) (by kernel_rfl) hPF rfl rfl (fun w' hw' => by first | exact hw' | exact hw'.1 | exact hw'.2 | exact hw'.2.1 | exact hw'.2.2) under54 rfl hi1 hHeld ?_
  simp only [Act.put, List.setIfInBounds_toArray, List.set_cons_zero, List.set_cons_succ]
  refine tk 21 (.some 57) _ _ rfl rfl (by kernel_rfl) (by kernel_rfl) (by kernel_rfl) hPF rfl (fun w' hw' => by (go_simp; try with_reducible rfl)) hHeld ?_
  simp only [Act.put, List.setIfInBounds_toArray, List.set_cons_zero, List.set_cons_succ]
  refine tkl 22 (.some 58) _ rfl rfl 54 (.tmp 3) rfl (w.heap.size + 1) 0 (bys b) _ (by kernel_rfl) (by kernel_rfl) (by kernel_rfl) hPF rfl rfl (fun w' hw' => by first | exact hw' | exact hw'.1 | exact hw'.2 | exact hw'.2.1 | exact hw'.2.2) under54 rfl hi1 hHeld ?_
  simp only [Act.put, List.setIfInBounds_toArray, List.set_cons_zero, List.set_cons_succ]
  refine wpAnyH_ready (rs := [20]) (by kernel_rfl) (by simp) (AllReadyH.cons (o := _) rfl (fun K hK => ?_) AllReadyH.nil)
  go_simp
  refine (dec_any _ kb _ b hKB Hb.out).mono ?_
  rintro e wn ⟨rfl, hBn⟩
  
  have hKA := KeysAt.below hKA hBn
  have hKB := KeysAt.below hKB hBn
  have hKC := KeysAt.below hKC hBn
  have hBl := hBl.below hBn hBl.lt
  have hL := hL.trans (Below.mono hBn hL.size)
  have hr := hBl.whole
  clear hBn
  refine hK.out _ _ hr (fun hHeld => ?_)
  clear hK K
  try simp only [Act.put, List.setIfInBounds_toArray, List.set_cons_zero, List.set_cons_succ]
  refine wpAnyH_ready (rs := [23]) (by kernel_rfl) (by simp) (AllReadyH.cons (o := _) rfl (fun K hK => ?_) AllReadyH.nil)
  go_simp
  refine (dec_any _ kc _ b hKC Hb.out).mono ?_
  rintro e wn ⟨rfl, hBn⟩
  
  have hKA := KeysAt.below hKA hBn
  have hKB := KeysAt.below hKB hBn
  have hKC := KeysAt.below hKC hBn
  have hBl := hBl.below hBn hBl.lt
  have hL := hL.trans (Below.mono hBn hL.size)
  have hr := hBl.whole
  clear hBn
  refine hK.out _ _ hr (fun hHeld => ?_)
  clear hK K
  try simp only [Act.put, List.setIfInBounds_toArray, List.set_cons_zero, List.set_cons_succ]
  refine tk 24 (.some 60) _ _ rfl rfl (by kernel_rfl) (by kernel_rfl) (by kernel_rfl) hPF rfl (fun w' hw' => by (go_simp; try with_reducible rfl)) hHeld ?_
  simp only [Act.put, List.setIfInBounds_toArray, List.set_cons_zero, List.set_cons_succ]
  refine tk 25 (.some 61) _ _ rfl rfl (by kernel_rfl) (by kernel_rfl) (by kernel_rfl) hPF rfl (fun w' hw' => by (go_simp; try with_reducible rfl)) hHeld ?_
  simp only [Act.put, List.setIfInBounds_toArray, List.set_cons_zero, List.set_cons_succ]
  refine tk 26 (.some 62) _ _ rfl rfl (by kernel_rfl) (by kernel_rfl) (by kernel_rfl) hPF rfl (fun w' hw' => by (go_simp; try with_reducible rfl)) hHeld ?_
  simp only [Act.put, List.setIfInBounds_toArray, List.set_cons_zero, List.set_cons_succ]
  refine wpAnyH_ready (rs := [27]) (by kernel_rfl) (by simp) (AllReadyH.cons (o := _) rfl (fun K hK => ?_) AllReadyH.nil)
  go_simp
  refine (awake03_any _).mono ?_
  rintro e wn ⟨rfl, hBn⟩
  
  have hKA := KeysAt.below hKA hBn
  have hKB := KeysAt.below hKB hBn
  have hKC := KeysAt.below hKC hBn
  have hBl := hBl.below hBn hBl.lt
  have hL := hL.trans (Below.mono hBn hL.size)
  have hr := hBl.whole
  clear hBn
  refine hK.out _ _ hr (fun hHeld => ?_)
  clear hK K
  try simp only [Act.put, List.setIfInBounds_toArray, List.set_cons_zero, List.set_cons_succ]
  refine tk 28 (.some 64) _ _ rfl rfl (by kernel_rfl) (by kernel_rfl) (by kernel_rfl) hPF rfl (fun w' hw' => by (go_simp; try with_reducible rfl)) hHeld ?_
  simp only [Act.put, List.setIfInBounds_toArray, List.set_cons_zero, List.set_cons_succ]
  refine tk 29 (.some 4) _ _ rfl rfl (by kernel_rfl) (by kernel_rfl) (by kernel_rfl) hPF rfl (fun w' hw' => by (go_simp; try with_reducible rfl)) hHeld ?_
  simp only [Act.put, List.setIfInBounds_toArray, List.set_cons_zero, List.set_cons_succ]
  refine wpAnyH_done (by kernel_rfl) ?_ _
  go_wp2_with fail
  go_ret
  exact ⟨rfl, hL⟩

#print axioms aesRounds_walk
end Go.Proofs.Ytoffpchabpfhkaa
