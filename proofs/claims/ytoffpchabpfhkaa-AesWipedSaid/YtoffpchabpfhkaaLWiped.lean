/- aes: AesWiped, walked -/
import Derived.Test.YtoffpchabpfhkaaWipe
import Derived.Test.YtoffpchabpfhkaaExp2
namespace Go.Proofs.Ytoffpchabpfhkaa
open Go.RowKit

theorem KeysFrom.chg {lo : Nat} {w w' : World} {kb : Nat} {rk : List UInt8} {F : List Nat} (h : KeysFrom lo w kb rk) (hc : Chg w.heap.size F w w') (hF : ∀ k ∈ F, k < lo) : KeysFrom lo w' kb rk := by
  obtain ⟨h0, tb, wb, n, cap, ex, h1, h2, h3, h4, h5, h6, h7⟩ := h
  exact ⟨h0, tb, wb, n, cap, ex, h1, h2, h3.chg hc h3.lt (fun k => by have := hF _ k; omega), h4.chg hc h4.lt (fun k => by have := hF _ k; omega), h5.chg hc h5.lt (fun k => by have := hF _ k; omega), h6, h7⟩
theorem KeysFrom.below {lo : Nat} {w w' : World} {kb : Nat} {rk : List UInt8} (h : KeysFrom lo w kb rk) (hB : Below w.heap.size w w') : KeysFrom lo w' kb rk :=
  h.chg (F := []) (Chg.ofBelow hB) (by simp)
theorem KeysFrom.drew {lo : Nat} {w : World} {kb : Nat} {rk : List UInt8} (h : KeysFrom lo w kb rk) : KeysFrom lo w.drew kb rk := by
  obtain ⟨h0, tb, wb, n, cap, ex, h1, h2, h3, h4, h5, h6, h7⟩ := h
  exact ⟨h0, tb, wb, n, cap, ex, h1, h2, h3.drew, h4.drew, h5.drew, h6, h7⟩
theorem alike16 (X : List UInt8) (hX : X.length = 16) (w : World) : (Op.equalIn 10000 54 (.agg (bys X).toArray) (.agg (bys X).toArray)).run Try.prog w = .ok true w := by
  have := run_equalIn_bytes (P := Try.prog) 9998 54 5 .u8 X X (by rw [hX]; exact under54) under5 size5 rfl w
  simpa using this

set_option maxRecDepth 100000 in
set_option maxHeartbeats 40000000 in
theorem aesWiped_walk (key b : List UInt8) (w : World) (hkl : key.length = 32) (hbl : b.length = 16) :
    Calls Try.prog 13 #[.agg (bys key).toArray, .agg (bys b).toArray] w fun e w' => e = .returned (.bool true) ∧ Below w.heap.size w w' := by
  have h8 : (key.take 32).length = 4 * 8 := by simp; omega
  have hrl := rk_len 8 (key.take 32) h8 (.inr rfl)
  obtain ⟨X, hX⟩ : ∃ X, enc (rkOf 8 (key.take 32)) b = X := ⟨_, rfl⟩
  have hX16 : X.length = 16 := by rw [← hX]; exact encTo_len _ _ _ _ hrl.1 hbl
  have HX := hid hX
  have he1 := alike16 z16 rfl
  have he2 := alike16 X hX16
  have he3 : ∀ w, (Op.equalIn 10000 54 (.agg (bys z16).toArray) (.agg #[.int .u8 0, .int .u8 0, .int .u8 0, .int .u8 0, .int .u8 0, .int .u8 0, .int .u8 0, .int .u8 0, .int .u8 0, .int .u8 0, .int .u8 0, .int .u8 0, .int .u8 0, .int .u8 0, .int .u8 0, .int .u8 0])).run Try.prog w = .ok true w := he1
  have hN : Blk ((w.alloc (.cells (bys key).toArray t32)).alloc (.cells (bys b).toArray tA16)) w.heap.size (bys key) t32 := (Blk.new w (bys key) t32).alloc _
  have hBl : Blk ((w.alloc (.cells (bys key).toArray t32)).alloc (.cells (bys b).toArray tA16)) (w.heap.size + 1) (bys b) tA16 := by
    have := Blk.new (w.alloc (.cells (bys key).toArray t32)) (bys b) tA16
    simpa using this
  have hL : Below w.heap.size w ((w.alloc (.cells (bys key).toArray t32)).alloc (.cells (bys b).toArray tA16)) := ((Below.refl _ _).alloc (Nat.le_refl _) _).alloc (by simp) _
  have Hb := hid hbl
  have HXl := hid hX16
  have hib : (Try.prog.info? 54).map (·.size) = some (bys b).length := by rw [size54, bys_length, hbl]
  have hiX : (Try.prog.info? 54).map (·.size) = some (bys X).length := by rw [size54, bys_length, hX16]
  have hgd := guard54
  clear hkl hbl hrl hX hX16
  go_enter Try.func13, Try.ntmps13
  go_wp2_with fail
  change Calls _ _ _ ((w.alloc (.cells (bys key).toArray t32)).alloc (.cells (bys b).toArray tA16)) _
  generalize hw0 : (w.alloc (.cells (bys key).toArray t32)).alloc (.cells (bys b).toArray tA16) = w0 at *
  clear hw0
  refine (expand_from _ w.heap.size 0 32 32 8 (key.take 32) (hN.rowAt 0 32) h8 (.inr rfl) rfl (by omega)).mono ?_
  rintro e wa ⟨ka, rfl, ⟨hka, tb1, wb1, n1, cap1, ex1, htb1, hwb1, hA, hT1, hW1, hr1, hn1⟩, hBn⟩
  have hlo := hBl.lt
  have hN := hN.below hBn hN.lt
  have hBl := hBl.below hBn hBl.lt
  have hL := hL.trans (Below.mono hBn hL.size)
  have hne1 : w.heap.size + 1 ≠ ka := by omega
  have hne2 : w.heap.size + 1 ≠ wb1 := by omega
  clear hBn
  have hal := hA.lt
  have hwl := hW1.lt
  have hwn1 : w.heap.size ≤ ka := by omega
  have hwn2 : w.heap.size ≤ wb1 := by omega
  have hsA : w.heap.size ≤ wa.heap.size := hL.size
  clear hka htb1 hwb1 hT1 hlo
  go_wp2_with fail
  refine (expand_from _ w.heap.size 0 32 32 8 (key.take 32) (hN.rowAt 0 32) h8 (.inr rfl) rfl (by omega)).mono ?_
  rintro e wb ⟨kb, rfl, hKB, hBn⟩
  have hA := hA.below hBn hA.lt
  have hW1 := hW1.below hBn hW1.lt
  have hBl := hBl.below hBn hBl.lt
  have hL := hL.trans (Below.mono hBn hL.size)
  have hsB := hBn.size
  clear hBn hN
  go_wp2_with (refine wpList_load_mid rfl 54 (.tmp 3) rfl (w.heap.size + 1) 0 rfl (bys b) _ hBl.whole under54 rfl hib ?_)
  refine (enc_any _ kb _ b hKB.at Hb.out).mono ?_
  rintro e wc ⟨rfl, hBn⟩
  rw [HX.out]
  have hA := hA.below hBn hA.lt
  have hW1 := hW1.below hBn hW1.lt
  have hKB := hKB.below hBn
  have hBl := hBl.below hBn hBl.lt
  have hL := hL.trans (Below.mono hBn hL.size)
  have hsC := hBn.size
  clear hBn
  have hE : Blk (wc.alloc (.cells (bys z16).toArray tA16)) wc.heap.size (bys z16) tA16 := Blk.new wc (bys z16) tA16
  go_wp2_with (refine wpList_store_mid rfl 54 (.tmp 9) (.tmp 37) rfl wc.heap.size 0 (bys X).toArray rfl rfl (hE.there 0 _ (by rw [List.size_toArray, bys_length, bys_length, HXl.out]; decide)) (by rw [size54, List.size_toArray, bys_length, HXl.out]) (all_oneCell_toArray (bys_one _)) ?_)
  have hBn : Below wc.heap.size wc ((wc.alloc (.cells (bys z16).toArray tA16)).setCells wc.heap.size 0 (bys X)) := (((Chg.refl wc.heap.size [] wc).alloc (Nat.le_refl _) _).setCells (.inr (Nat.le_refl _)) _ _).below (Nat.le_refl _) (by simp)
  have hE := hE.setCells (bys X) 0 (by rw [bys_length, bys_length, HXl.out]; decide)
  rw [splice_whole _ _ (by rw [bys_length, bys_length, HXl.out]; decide)] at hE
  have hA := hA.below hBn hA.lt
  have hW1 := hW1.below hBn hW1.lt
  have hKB := hKB.below hBn
  have hBl := hBl.below hBn hBl.lt
  have hL := hL.trans (Below.mono hBn hL.size)
  clear hBn
  change Calls _ _ _ ((wc.alloc (.cells (bys z16).toArray tA16)).setCells wc.heap.size 0 (bys X)) _
  generalize hwd : (wc.alloc (.cells (bys z16).toArray tA16)).setCells wc.heap.size 0 (bys X) = wd at *
  clear hwd
  obtain ⟨E, hEe⟩ : ∃ E, wc.heap.size = E := ⟨_, rfl⟩
  rw [hEe] at hE
  refine (wipe_some _ ka wb1 n1 cap1 _ _ hA hW1 (by omega) (by rw [List.length_append, bys_length]; omega)).mono ?_
  rintro e we ⟨rfl, hA, hC2⟩
  have hKB := hKB.chg hC2 (by simp; omega)
  have hBl := hBl.chg hC2 hBl.lt (by simp; omega)
  have hE := hE.chg hC2 hE.lt (by simp; omega)
  have hL := hL.trans (hC2.below (M := w.heap.size) hL.size (by simp; omega))
  clear hC2 hW1 hr1
  go_wp2_with fail
  refine (wipe_again _ ka hA).mono ?_
  rintro e wf ⟨rfl, hA, hC2⟩
  have hKB := hKB.chg hC2 (by simp; omega)
  have hBl := hBl.chg hC2 hBl.lt (by simp; omega)
  have hE := hE.chg hC2 hE.lt (by simp; omega)
  have hL := hL.trans (hC2.below (M := w.heap.size) hL.size (by simp; omega))
  clear hC2
  go_wp2_with fail
  refine (wipe_nil _).mono ?_
  rintro e wg ⟨rfl, rfl⟩
  have hA := hA.drew
  have hKB := hKB.drew
  have hBl := hBl.drew
  have hE := hE.drew
  have hL := hL.drew
  go_wp2_with fail
  refine tk_region (fun w' => w'.rangeAt (w.heap.size + 1) 0 (bys b) ∧ w'.rangeAt E 0 (bys X)) (by kernel_rfl) (fun c a d v w h => by cases d <;> exact h) ⟨hBl.whole, hE.whole⟩ (fun hPF hHeld => ?_)
  refine tk 0 (.some 44) _ _ rfl rfl (by kernel_rfl) (by kernel_rfl) (by kernel_rfl) hPF rfl (fun w' hw' => by (go_simp; try with_reducible rfl)) hHeld ?_
  simp only [Act.put, List.setIfInBounds_toArray, List.set_cons_zero, List.set_cons_succ]
  refine tkl 1 (.some 45) _ rfl rfl 54 (.tmp 3) rfl (w.heap.size + 1) 0 (bys b) _ (by kernel_rfl) (by kernel_rfl) (by kernel_rfl) hPF rfl rfl (fun w' hw' => by first | exact hw' | exact hw'.1 | exact hw'.2 | exact hw'.2.1 | exact hw'.2.2) under54 rfl hib hHeld ?_
  simp only [Act.put, List.setIfInBounds_toArray, List.set_cons_zero, List.set_cons_succ]
  refine tk 3 (.some 47) _ _ rfl rfl (by kernel_rfl) (by kernel_rfl) (by kernel_rfl) hPF rfl (fun w' hw' => by (go_simp; try with_reducible rfl)) hHeld ?_
  simp only [Act.put, List.setIfInBounds_toArray, List.set_cons_zero, List.set_cons_succ]
  refine wpAnyH_ready (rs := [2]) (by kernel_rfl) (by simp) (AllReadyH.cons (o := _) rfl (fun K hK => ?_) AllReadyH.nil)
  go_simp
  refine (enc_none _ ka _ b hA).mono ?_
  rintro e wn ⟨rfl, hBn⟩
  have hA := hA.below hBn hA.lt
  have hKB := hKB.below hBn
  have hBl := hBl.below hBn hBl.lt
  have hE := hE.below hBn hE.lt
  have hL := hL.trans (Below.mono hBn hL.size)
  clear hBn
  refine hK.out _ _ ⟨hBl.whole, hE.whole⟩ (fun hHeld => ?_)
  clear hK K
  try simp only [Act.put, List.setIfInBounds_toArray, List.set_cons_zero, List.set_cons_succ]
  refine tk 4 (.some 48) _ _ rfl rfl (by kernel_rfl) (by kernel_rfl) (by kernel_rfl) hPF rfl (fun w' hw' => by (go_simp; try with_reducible rfl)) hHeld ?_
  simp only [Act.put, List.setIfInBounds_toArray, List.set_cons_zero, List.set_cons_succ]
  refine tk 5 (.some 49) _ _ rfl rfl (by kernel_rfl) (by kernel_rfl) (by kernel_rfl) hPF rfl (fun w' hw' => by (go_simp; try with_reducible rfl)) hHeld ?_
  simp only [Act.put, List.setIfInBounds_toArray, List.set_cons_zero, List.set_cons_succ]
  refine tk 6 (.some 50) _ _ rfl rfl (by kernel_rfl) (by kernel_rfl) (by kernel_rfl) hPF rfl (fun w' hw' => by (go_simp; try with_reducible rfl)) hHeld ?_
  simp only [Act.put, List.setIfInBounds_toArray, List.set_cons_zero, List.set_cons_succ]
  refine tkl 7 (.some 51) _ rfl rfl 54 (.tmp 3) rfl (w.heap.size + 1) 0 (bys b) _ (by kernel_rfl) (by kernel_rfl) (by kernel_rfl) hPF rfl rfl (fun w' hw' => by first | exact hw' | exact hw'.1 | exact hw'.2 | exact hw'.2.1 | exact hw'.2.2) under54 rfl hib hHeld ?_
  simp only [Act.put, List.setIfInBounds_toArray, List.set_cons_zero, List.set_cons_succ]
  refine tk 9 (.some 53) _ _ rfl rfl (by kernel_rfl) (by kernel_rfl) (by kernel_rfl) hPF rfl (fun w' hw' => by (go_simp; try with_reducible rfl)) hHeld ?_
  simp only [Act.put, List.setIfInBounds_toArray, List.set_cons_zero, List.set_cons_succ]
  refine wpAnyH_ready (rs := [8]) (by kernel_rfl) (by simp) (AllReadyH.cons (o := _) rfl (fun K hK => ?_) AllReadyH.nil)
  go_simp
  refine (dec_none _ ka _ b hA).mono ?_
  rintro e wn ⟨rfl, hBn⟩
  have hA := hA.below hBn hA.lt
  have hKB := hKB.below hBn
  have hBl := hBl.below hBn hBl.lt
  have hE := hE.below hBn hE.lt
  have hL := hL.trans (Below.mono hBn hL.size)
  clear hBn
  refine hK.out _ _ ⟨hBl.whole, hE.whole⟩ (fun hHeld => ?_)
  clear hK K
  try simp only [Act.put, List.setIfInBounds_toArray, List.set_cons_zero, List.set_cons_succ]
  refine tk 10 (.some 54) _ _ rfl rfl (by kernel_rfl) (by kernel_rfl) (by kernel_rfl) hPF rfl (fun w' hw' => by (go_simp; try with_reducible rfl)) hHeld ?_
  simp only [Act.put, List.setIfInBounds_toArray, List.set_cons_zero, List.set_cons_succ]
  refine tk 11 (.some 55) _ _ rfl rfl (by kernel_rfl) (by kernel_rfl) (by kernel_rfl) hPF rfl (fun w' hw' => by (go_simp; try with_reducible rfl)) hHeld ?_
  simp only [Act.put, List.setIfInBounds_toArray, List.set_cons_zero, List.set_cons_succ]
  refine tk 12 (.some 56) _ _ rfl rfl (by kernel_rfl) (by kernel_rfl) (by kernel_rfl) hPF rfl (fun w' hw' => by (go_simp; try with_reducible rfl)) hHeld ?_
  simp only [Act.put, List.setIfInBounds_toArray, List.set_cons_zero, List.set_cons_succ]
  refine tk 13 (.some 57) _ _ rfl rfl (by kernel_rfl) (by kernel_rfl) (by kernel_rfl) hPF rfl (fun w' hw' => by (go_simp; try with_reducible rfl)) hHeld ?_
  simp only [Act.put, List.setIfInBounds_toArray, List.set_cons_zero, List.set_cons_succ]
  refine wpAnyH_ready (rs := [14]) (by kernel_rfl) (by simp) (AllReadyH.cons (o := _) rfl (fun K hK => ?_) AllReadyH.nil)
  go_simp
  refine (rounds_none _ ka _ hA).mono ?_
  rintro e wn ⟨rfl, rfl⟩
  refine hK.out _ _ ⟨hBl.whole, hE.whole⟩ (fun hHeld => ?_)
  clear hK K
  try simp only [Act.put, List.setIfInBounds_toArray, List.set_cons_zero, List.set_cons_succ]
  refine tk 15 (.some 59) _ _ rfl rfl (by kernel_rfl) (by kernel_rfl) (by kernel_rfl) hPF rfl (fun w' hw' => by (go_simp; try with_reducible rfl)) hHeld ?_
  simp only [Act.put, List.setIfInBounds_toArray, List.set_cons_zero, List.set_cons_succ]
  refine tk 16 (.some 60) _ _ rfl rfl (by kernel_rfl) (by kernel_rfl) (by kernel_rfl) hPF rfl (fun w' hw' => by (go_simp; try with_reducible rfl)) hHeld ?_
  simp only [Act.put, List.setIfInBounds_toArray, List.set_cons_zero, List.set_cons_succ]
  refine tk 17 (.some 61) _ _ rfl rfl (by kernel_rfl) (by kernel_rfl) (by kernel_rfl) hPF rfl (fun w' hw' => by (go_simp; try with_reducible rfl)) hHeld ?_
  simp only [Act.put, List.setIfInBounds_toArray, List.set_cons_zero, List.set_cons_succ]
  refine tk 18 (.some 62) _ _ rfl rfl (by kernel_rfl) (by kernel_rfl) (by kernel_rfl) hPF rfl (fun w' hw' => by (go_simp; try with_reducible rfl)) hHeld ?_
  simp only [Act.put, List.setIfInBounds_toArray, List.set_cons_zero, List.set_cons_succ]
  refine tkl 19 (.some 63) _ rfl rfl 54 (.tmp 3) rfl (w.heap.size + 1) 0 (bys b) _ (by kernel_rfl) (by kernel_rfl) (by kernel_rfl) hPF rfl rfl (fun w' hw' => by first | exact hw' | exact hw'.1 | exact hw'.2 | exact hw'.2.1 | exact hw'.2.2) under54 rfl hib hHeld ?_
  simp only [Act.put, List.setIfInBounds_toArray, List.set_cons_zero, List.set_cons_succ]
  refine tkl 21 (.some 65) _ rfl rfl 54 (.tmp 9) rfl E 0 (bys X) _ (by kernel_rfl) (by kernel_rfl) (by kernel_rfl) hPF rfl rfl (fun w' hw' => by first | exact hw' | exact hw'.1 | exact hw'.2 | exact hw'.2.1 | exact hw'.2.2) under54 rfl hiX hHeld ?_
  simp only [Act.put, List.setIfInBounds_toArray, List.set_cons_zero, List.set_cons_succ]
  refine wpAnyH_ready (rs := [20]) (by kernel_rfl) (by simp) (AllReadyH.cons (o := _) rfl (fun K hK => ?_) AllReadyH.nil)
  go_simp
  refine (enc_any _ kb _ b hKB.at Hb.out).mono ?_
  rintro e wn ⟨rfl, hBn⟩
  rw [HX.out]
  have hA := hA.below hBn hA.lt
  have hKB := hKB.below hBn
  have hBl := hBl.below hBn hBl.lt
  have hE := hE.below hBn hE.lt
  have hL := hL.trans (Below.mono hBn hL.size)
  clear hBn
  refine hK.out _ _ ⟨hBl.whole, hE.whole⟩ (fun hHeld => ?_)
  clear hK K
  try simp only [Act.put, List.setIfInBounds_toArray, List.set_cons_zero, List.set_cons_succ]
  refine tk 22 (.some 66) _ _ rfl rfl (by kernel_rfl) (by kernel_rfl) (by kernel_rfl) hPF rfl (fun w' hw' => by (go_simp; try with_reducible rfl)) hHeld ?_
  simp only [Act.put, List.setIfInBounds_toArray, List.set_cons_zero, List.set_cons_succ]
  refine tk 23 (.some 67) _ _ rfl rfl (by kernel_rfl) (by kernel_rfl) (by kernel_rfl) hPF rfl (fun w' hw' => by (go_simp; try with_reducible rfl)) hHeld ?_
  simp only [Act.put, List.setIfInBounds_toArray, List.set_cons_zero, List.set_cons_succ]
  refine tk 24 (.some 68) _ _ rfl rfl (by kernel_rfl) (by kernel_rfl) (by kernel_rfl) hPF rfl (fun w' hw' => by (go_simp; try with_reducible rfl)) hHeld ?_
  simp only [Act.put, List.setIfInBounds_toArray, List.set_cons_zero, List.set_cons_succ]
  refine wpAnyH_ready (rs := [25]) (by kernel_rfl) (by simp) (AllReadyH.cons (o := _) rfl (fun K hK => ?_) AllReadyH.nil)
  go_simp
  refine (awake03_any _).mono ?_
  rintro e wn ⟨rfl, hBn⟩
  have hA := hA.below hBn hA.lt
  have hKB := hKB.below hBn
  have hBl := hBl.below hBn hBl.lt
  have hE := hE.below hBn hE.lt
  have hL := hL.trans (Below.mono hBn hL.size)
  clear hBn
  refine hK.out _ _ ⟨hBl.whole, hE.whole⟩ (fun hHeld => ?_)
  clear hK K
  try simp only [Act.put, List.setIfInBounds_toArray, List.set_cons_zero, List.set_cons_succ]
  refine tk 26 (.some 70) _ _ rfl rfl (by kernel_rfl) (by kernel_rfl) (by kernel_rfl) hPF rfl (fun w' hw' => by (go_simp; try with_reducible rfl)) hHeld ?_
  simp only [Act.put, List.setIfInBounds_toArray, List.set_cons_zero, List.set_cons_succ]
  refine tk 27 (.some 4) _ _ rfl rfl (by kernel_rfl) (by kernel_rfl) (by kernel_rfl) hPF rfl (fun w' hw' => by (go_simp; try with_reducible rfl)) hHeld ?_
  simp only [Act.put, List.setIfInBounds_toArray, List.set_cons_zero, List.set_cons_succ]
  refine wpAnyH_done (by kernel_rfl) ?_ _
  go_wp2_with fail
  go_ret
  exact ⟨rfl, hL⟩

#print axioms aesWiped_walk
end Go.Proofs.Ytoffpchabpfhkaa
