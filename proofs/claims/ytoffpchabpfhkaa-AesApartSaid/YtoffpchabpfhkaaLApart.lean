/- aes: AesApart, walked -/
import Derived.Test.YtoffpchabpfhkaaLBack
namespace Go.Proofs.Ytoffpchabpfhkaa
open Go.RowKit

theorem comp16 (X Y : List UInt8) (hX : X.length = 16) (hY : Y.length = 16) (w : World) : (Op.equalIn 10000 54 (.agg (bys X).toArray) (.agg (bys Y).toArray)).run Try.prog w = .ok (decide (X = Y)) w := by
  have := run_equalIn_bytes (P := Try.prog) 9998 54 5 .u8 X Y (by rw [hX]; exact under54) under5 size5 (by omega) w
  simpa using this

set_option maxRecDepth 100000 in
set_option maxHeartbeats 4000000 in
theorem aesApart_walk (key a b : List UInt8) (w : World) (hkl : key.length = 16) (hal : a.length = 16) (hbl : b.length = 16) :
    Calls Try.prog 9 #[.agg (bys key).toArray, .agg (bys a).toArray, .agg (bys b).toArray] w fun e w' => e = .returned (.bool true) ∧ Below w.heap.size w w' := by
  have h4 : (key.take 16).length = 4 * 4 := by simp; omega
  have hrl := rk_len 4 (key.take 16) h4 (.inl rfl)
  have hea : (enc (rkOf 4 (key.take 16)) a).length = 16 := encTo_len _ _ _ _ hrl.1 hal
  have heb : (enc (rkOf 4 (key.take 16)) b).length = 16 := encTo_len _ _ _ _ hrl.1 hbl
  have hda : (dec (rkOf 4 (key.take 16)) a).length = 16 := addK_len _ _ _ (by omega) (decTo_len _ _ _ _ hrl.1 hal)
  have hdb : (dec (rkOf 4 (key.take 16)) b).length = 16 := addK_len _ _ _ (by omega) (decTo_len _ _ _ _ hrl.1 hbl)
  obtain ⟨q, hq⟩ : ∃ q : Bool, decide (a = b) = q := ⟨_, rfl⟩
  have hqe : decide (enc (rkOf 4 (key.take 16)) a = enc (rkOf 4 (key.take 16)) b) = q := by
    rw [← hq, decide_eq_decide]
    exact ⟨fun h => by rw [← dec_enc _ a hrl.1 hrl.2 hal, h, dec_enc _ b hrl.1 hrl.2 hbl], fun h => by rw [h]⟩
  have hqd : decide (dec (rkOf 4 (key.take 16)) a = dec (rkOf 4 (key.take 16)) b) = q := by
    rw [← hq, decide_eq_decide]
    exact ⟨fun h => by rw [← enc_dec _ a hrl.1 hrl.2 hal, h, enc_dec _ b hrl.1 hrl.2 hbl], fun h => by rw [h]⟩
  have he0 := comp16 a b hal hbl
  have he1 := comp16 _ _ hea heb
  have he2 := comp16 _ _ hda hdb
  rw [hq] at he0
  rw [hqe] at he1
  rw [hqd] at he2
  clear hq hqe hqd hea heb hda hdb hrl
  have hN : Blk (((w.alloc (.cells (bys key).toArray tA16)).alloc (.cells (bys a).toArray tA16)).alloc (.cells (bys b).toArray tA16)) w.heap.size (bys key) tA16 := ((Blk.new w (bys key) tA16).alloc _).alloc _
  have hX : Blk (((w.alloc (.cells (bys key).toArray tA16)).alloc (.cells (bys a).toArray tA16)).alloc (.cells (bys b).toArray tA16)) (w.heap.size + 1) (bys a) tA16 := by
    have := (Blk.new (w.alloc (.cells (bys key).toArray tA16)) (bys a) tA16).alloc (.cells (bys b).toArray tA16)
    simpa using this
  have hY : Blk (((w.alloc (.cells (bys key).toArray tA16)).alloc (.cells (bys a).toArray tA16)).alloc (.cells (bys b).toArray tA16)) (w.heap.size + 2) (bys b) tA16 := by
    have := Blk.new ((w.alloc (.cells (bys key).toArray tA16)).alloc (.cells (bys a).toArray tA16)) (bys b) tA16
    simpa using this
  have hL : Below w.heap.size w (((w.alloc (.cells (bys key).toArray tA16)).alloc (.cells (bys a).toArray tA16)).alloc (.cells (bys b).toArray tA16)) := (((Below.refl _ _).alloc (Nat.le_refl _) _).alloc (by simp) _).alloc (by simp; omega) _
  have Ha := hid hal
  have Hb := hid hbl
  have hia : (Try.prog.info? 54).map (·.size) = some (bys a).length := by rw [size54, bys_length, hal]
  have hib : (Try.prog.info? 54).map (·.size) = some (bys b).length := by rw [size54, bys_length, hbl]
  have hgd := guard54
  clear hkl hal hbl
  go_enter Try.func9, Try.ntmps9
  go_wp2_with fail
  change Calls _ _ _ ((((w.alloc (.cells (bys key).toArray tA16)).alloc (.cells (bys a).toArray tA16)).alloc (.cells (bys b).toArray tA16))) _
  generalize hw0 : (((w.alloc (.cells (bys key).toArray tA16)).alloc (.cells (bys a).toArray tA16)).alloc (.cells (bys b).toArray tA16)) = w0 at *
  clear hw0
  refine (expand_any _ w.heap.size 0 16 16 4 (key.take 16) (hN.rowAt 0 16) h4 (.inl rfl) rfl (by omega)).mono ?_
  rintro e wa ⟨ka, rfl, hKA, hBn, _⟩
  have hKA := hKA.drew
  have hX := (hX.below hBn hX.lt).drew
  have hY := (hY.below hBn hY.lt).drew
  have hL := (hL.trans (Below.mono hBn hL.size)).drew
  clear hBn hN
  go_wp2_with fail
  refine tk_region (fun w' => w'.rangeAt (w.heap.size + 1) 0 (bys a) ∧ w'.rangeAt (w.heap.size + 2) 0 (bys b)) (by kernel_rfl) (fun c a d v w h => by cases d <;> exact h) ⟨hX.whole, hY.whole⟩ (fun hPF hHeld => ?_)
  refine tk 0 (.some 20) _ _ rfl rfl (by kernel_rfl) (by kernel_rfl) (by kernel_rfl) hPF rfl (fun w' hw' => by (go_simp; try with_reducible rfl)) hHeld ?_
  simp only [Act.put, List.setIfInBounds_toArray, List.set_cons_zero, List.set_cons_succ]
  refine tkl 1 (.some 21) _ rfl rfl 54 (.tmp 4) rfl (w.heap.size + 1) 0 (bys a) _ (by kernel_rfl) (by kernel_rfl) (by kernel_rfl) hPF rfl rfl (fun w' hw' => by first | exact hw'.1 | exact hw'.2 | exact hw'.2.1 | exact hw'.2.2) under54 rfl hia hHeld ?_
  simp only [Act.put, List.setIfInBounds_toArray, List.set_cons_zero, List.set_cons_succ]
  refine tk 3 (.some 23) _ _ rfl rfl (by kernel_rfl) (by kernel_rfl) (by kernel_rfl) hPF rfl (fun w' hw' => by (go_simp; try with_reducible rfl)) hHeld ?_
  simp only [Act.put, List.setIfInBounds_toArray, List.set_cons_zero, List.set_cons_succ]
  refine tkl 4 (.some 24) _ rfl rfl 54 (.tmp 5) rfl (w.heap.size + 2) 0 (bys b) _ (by kernel_rfl) (by kernel_rfl) (by kernel_rfl) hPF rfl rfl (fun w' hw' => by first | exact hw'.1 | exact hw'.2 | exact hw'.2.1 | exact hw'.2.2) under54 rfl hib hHeld ?_
  simp only [Act.put, List.setIfInBounds_toArray, List.set_cons_zero, List.set_cons_succ]
  refine tkl 7 (.some 27) _ rfl rfl 54 (.tmp 4) rfl (w.heap.size + 1) 0 (bys a) _ (by kernel_rfl) (by kernel_rfl) (by kernel_rfl) hPF rfl rfl (fun w' hw' => by first | exact hw'.1 | exact hw'.2 | exact hw'.2.1 | exact hw'.2.2) under54 rfl hia hHeld ?_
  simp only [Act.put, List.setIfInBounds_toArray, List.set_cons_zero, List.set_cons_succ]
  refine tkl 8 (.some 28) _ rfl rfl 54 (.tmp 5) rfl (w.heap.size + 2) 0 (bys b) _ (by kernel_rfl) (by kernel_rfl) (by kernel_rfl) hPF rfl rfl (fun w' hw' => by first | exact hw'.1 | exact hw'.2 | exact hw'.2.1 | exact hw'.2.2) under54 rfl hib hHeld ?_
  simp only [Act.put, List.setIfInBounds_toArray, List.set_cons_zero, List.set_cons_succ]
  refine tk 9 (.some 29) _ _ rfl rfl (by kernel_rfl) (by kernel_rfl) (by kernel_rfl) hPF rfl (fun w' hw' => by (go_simp; try with_reducible rfl)) hHeld ?_
  simp only [Act.put, List.setIfInBounds_toArray, List.set_cons_zero, List.set_cons_succ]
  refine wpAnyH_ready (rs := [2]) (by kernel_rfl) (by simp) (AllReadyH.cons (o := _) rfl (fun K hK => ?_) AllReadyH.nil)
  go_simp
  refine (enc_any _ ka _ a hKA Ha.out).mono ?_
  rintro e wn ⟨rfl, hBn⟩
  have hKA := KeysAt.below hKA hBn
  have hX := hX.below hBn hX.lt
  have hY := hY.below hBn hY.lt
  have hL := hL.trans (Below.mono hBn hL.size)
  clear hBn
  refine hK.out _ _ ⟨hX.whole, hY.whole⟩ (fun hHeld => ?_)
  clear hK K
  try simp only [Act.put, List.setIfInBounds_toArray, List.set_cons_zero, List.set_cons_succ]
  refine wpAnyH_ready (rs := [5]) (by kernel_rfl) (by simp) (AllReadyH.cons (o := _) rfl (fun K hK => ?_) AllReadyH.nil)
  go_simp
  refine (enc_any _ ka _ b hKA Hb.out).mono ?_
  rintro e wn ⟨rfl, hBn⟩
  have hKA := KeysAt.below hKA hBn
  have hX := hX.below hBn hX.lt
  have hY := hY.below hBn hY.lt
  have hL := hL.trans (Below.mono hBn hL.size)
  clear hBn
  refine hK.out _ _ ⟨hX.whole, hY.whole⟩ (fun hHeld => ?_)
  clear hK K
  try simp only [Act.put, List.setIfInBounds_toArray, List.set_cons_zero, List.set_cons_succ]
  refine tk 6 (.some 26) _ _ rfl rfl (by kernel_rfl) (by kernel_rfl) (by kernel_rfl) hPF rfl (fun w' hw' => by (go_simp; try with_reducible rfl)) hHeld ?_
  simp only [Act.put, List.setIfInBounds_toArray, List.set_cons_zero, List.set_cons_succ]
  refine tk 10 (.some 30) _ _ rfl rfl (by kernel_rfl) (by kernel_rfl) (by kernel_rfl) hPF rfl (fun w' hw' => by (go_simp; try with_reducible rfl)) hHeld ?_
  simp only [Act.put, List.setIfInBounds_toArray, List.set_cons_zero, List.set_cons_succ]
  refine tk 11 (.some 31) _ _ rfl rfl (by kernel_rfl) (by kernel_rfl) (by kernel_rfl) hPF rfl (fun w' hw' => by (go_simp; try with_reducible rfl)) hHeld ?_
  simp only [Act.put, List.setIfInBounds_toArray, List.set_cons_zero, List.set_cons_succ]
  refine tk 12 (.some 32) _ _ rfl rfl (by kernel_rfl) (by kernel_rfl) (by kernel_rfl) hPF rfl (fun w' hw' => by (go_simp; try with_reducible rfl)) hHeld ?_
  simp only [Act.put, List.setIfInBounds_toArray, List.set_cons_zero, List.set_cons_succ]
  refine tkl 13 (.some 33) _ rfl rfl 54 (.tmp 4) rfl (w.heap.size + 1) 0 (bys a) _ (by kernel_rfl) (by kernel_rfl) (by kernel_rfl) hPF rfl rfl (fun w' hw' => by first | exact hw'.1 | exact hw'.2 | exact hw'.2.1 | exact hw'.2.2) under54 rfl hia hHeld ?_
  simp only [Act.put, List.setIfInBounds_toArray, List.set_cons_zero, List.set_cons_succ]
  refine tk 15 (.some 35) _ _ rfl rfl (by kernel_rfl) (by kernel_rfl) (by kernel_rfl) hPF rfl (fun w' hw' => by (go_simp; try with_reducible rfl)) hHeld ?_
  simp only [Act.put, List.setIfInBounds_toArray, List.set_cons_zero, List.set_cons_succ]
  refine tkl 16 (.some 36) _ rfl rfl 54 (.tmp 5) rfl (w.heap.size + 2) 0 (bys b) _ (by kernel_rfl) (by kernel_rfl) (by kernel_rfl) hPF rfl rfl (fun w' hw' => by first | exact hw'.1 | exact hw'.2 | exact hw'.2.1 | exact hw'.2.2) under54 rfl hib hHeld ?_
  simp only [Act.put, List.setIfInBounds_toArray, List.set_cons_zero, List.set_cons_succ]
  refine tkl 19 (.some 39) _ rfl rfl 54 (.tmp 4) rfl (w.heap.size + 1) 0 (bys a) _ (by kernel_rfl) (by kernel_rfl) (by kernel_rfl) hPF rfl rfl (fun w' hw' => by first | exact hw'.1 | exact hw'.2 | exact hw'.2.1 | exact hw'.2.2) under54 rfl hia hHeld ?_
  simp only [Act.put, List.setIfInBounds_toArray, List.set_cons_zero, List.set_cons_succ]
  refine tkl 20 (.some 40) _ rfl rfl 54 (.tmp 5) rfl (w.heap.size + 2) 0 (bys b) _ (by kernel_rfl) (by kernel_rfl) (by kernel_rfl) hPF rfl rfl (fun w' hw' => by first | exact hw'.1 | exact hw'.2 | exact hw'.2.1 | exact hw'.2.2) under54 rfl hib hHeld ?_
  simp only [Act.put, List.setIfInBounds_toArray, List.set_cons_zero, List.set_cons_succ]
  refine tk 21 (.some 41) _ _ rfl rfl (by kernel_rfl) (by kernel_rfl) (by kernel_rfl) hPF rfl (fun w' hw' => by (go_simp; try with_reducible rfl)) hHeld ?_
  simp only [Act.put, List.setIfInBounds_toArray, List.set_cons_zero, List.set_cons_succ]
  refine wpAnyH_ready (rs := [14]) (by kernel_rfl) (by simp) (AllReadyH.cons (o := _) rfl (fun K hK => ?_) AllReadyH.nil)
  go_simp
  refine (dec_any _ ka _ a hKA Ha.out).mono ?_
  rintro e wn ⟨rfl, hBn⟩
  have hKA := KeysAt.below hKA hBn
  have hX := hX.below hBn hX.lt
  have hY := hY.below hBn hY.lt
  have hL := hL.trans (Below.mono hBn hL.size)
  clear hBn
  refine hK.out _ _ ⟨hX.whole, hY.whole⟩ (fun hHeld => ?_)
  clear hK K
  try simp only [Act.put, List.setIfInBounds_toArray, List.set_cons_zero, List.set_cons_succ]
  refine wpAnyH_ready (rs := [17]) (by kernel_rfl) (by simp) (AllReadyH.cons (o := _) rfl (fun K hK => ?_) AllReadyH.nil)
  go_simp
  refine (dec_any _ ka _ b hKA Hb.out).mono ?_
  rintro e wn ⟨rfl, hBn⟩
  have hKA := KeysAt.below hKA hBn
  have hX := hX.below hBn hX.lt
  have hY := hY.below hBn hY.lt
  have hL := hL.trans (Below.mono hBn hL.size)
  clear hBn
  refine hK.out _ _ ⟨hX.whole, hY.whole⟩ (fun hHeld => ?_)
  clear hK K
  try simp only [Act.put, List.setIfInBounds_toArray, List.set_cons_zero, List.set_cons_succ]
  refine tk 18 (.some 38) _ _ rfl rfl (by kernel_rfl) (by kernel_rfl) (by kernel_rfl) hPF rfl (fun w' hw' => by (go_simp; try with_reducible rfl)) hHeld ?_
  simp only [Act.put, List.setIfInBounds_toArray, List.set_cons_zero, List.set_cons_succ]
  refine tk 22 (.some 42) _ _ rfl rfl (by kernel_rfl) (by kernel_rfl) (by kernel_rfl) hPF rfl (fun w' hw' => by (go_simp; try with_reducible rfl)) hHeld ?_
  simp only [Act.put, List.setIfInBounds_toArray, List.set_cons_zero, List.set_cons_succ]
  refine tk 23 (.some 43) _ _ rfl rfl (by kernel_rfl) (by kernel_rfl) (by kernel_rfl) hPF rfl (fun w' hw' => by (go_simp; try with_reducible rfl)) hHeld ?_
  simp only [Act.put, List.setIfInBounds_toArray, List.set_cons_zero, List.set_cons_succ]
  refine tk 24 (.some 44) _ _ rfl rfl (by kernel_rfl) (by kernel_rfl) (by kernel_rfl) hPF rfl (fun w' hw' => by (go_simp; try with_reducible rfl)) hHeld ?_
  simp only [Act.put, List.setIfInBounds_toArray, List.set_cons_zero, List.set_cons_succ]
  refine wpAnyH_ready (rs := [25]) (by kernel_rfl) (by simp) (AllReadyH.cons (o := _) rfl (fun K hK => ?_) AllReadyH.nil)
  go_simp
  refine (awake03_any _).mono ?_
  rintro e wn ⟨rfl, hBn⟩
  have hKA := KeysAt.below hKA hBn
  have hX := hX.below hBn hX.lt
  have hY := hY.below hBn hY.lt
  have hL := hL.trans (Below.mono hBn hL.size)
  clear hBn
  refine hK.out _ _ ⟨hX.whole, hY.whole⟩ (fun hHeld => ?_)
  clear hK K
  try simp only [Act.put, List.setIfInBounds_toArray, List.set_cons_zero, List.set_cons_succ]
  refine tk 26 (.some 46) _ _ rfl rfl (by kernel_rfl) (by kernel_rfl) (by kernel_rfl) hPF rfl (fun w' hw' => by (go_simp; try with_reducible rfl)) hHeld ?_
  simp only [Act.put, List.setIfInBounds_toArray, List.set_cons_zero, List.set_cons_succ]
  refine tk 27 (.some 6) _ _ rfl rfl (by kernel_rfl) (by kernel_rfl) (by kernel_rfl) hPF rfl (fun w' hw' => by (go_simp; try with_reducible rfl)) hHeld ?_
  simp only [Act.put, List.setIfInBounds_toArray, List.set_cons_zero, List.set_cons_succ]
  refine wpAnyH_done (by kernel_rfl) ?_ _
  go_wp2_with fail
  go_ret
  exact ⟨rfl, hL⟩

#print axioms aesApart_walk
end Go.Proofs.Ytoffpchabpfhkaa
