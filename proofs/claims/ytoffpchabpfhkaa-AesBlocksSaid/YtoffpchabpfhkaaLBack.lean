/- aes: AesBack, walked -/
import Derived.Test.YtoffpchabpfhkaaAwk2
namespace Go.Proofs.Ytoffpchabpfhkaa
open Go.RowKit

abbrev t32 : TypeId := 66
theorem rk_len (m : Nat) (key : List UInt8) (hk : key.length = 4 * m) (hm : m = 4 ∨ m = 8) : 16 * roundsOf (rkOf m key) + 16 ≤ (rkOf m key).length ∧ 0 < roundsOf (rkOf m key) := by
  have h := exTo_len m key hk (by omega) (28 + 3 * m)
  unfold roundsOf rkOf
  rw [h]; omega

set_option maxRecDepth 100000 in
set_option maxHeartbeats 4000000 in
theorem aesBack_walk (key : List UInt8) (long : Bool) (b : List UInt8) (w : World) (hkl : key.length = 32) (hbl : b.length = 16) :
    Calls Try.prog 8 #[.agg (bys key).toArray, .bool long, .agg (bys b).toArray] w fun e w' => e = .returned (.bool true) ∧ Below w.heap.size w w' := by
  obtain ⟨n, m, hn, hm, hlong⟩ : ∃ n m, n = 4 * m ∧ (m = 4 ∨ m = 8) ∧ ((long = false ∧ n = 16) ∨ (long = true ∧ n = 32)) := by
    cases long
    · exact ⟨16, 4, rfl, .inl rfl, .inl ⟨rfl, rfl⟩⟩
    · exact ⟨32, 8, rfl, .inr rfl, .inr ⟨rfl, rfl⟩⟩
  have hkt : (key.take n).length = n := by simp; omega
  have hrl := rk_len m (key.take n) (hkt.trans hn) hm
  have hde := dec_enc (rkOf m (key.take n)) b hrl.1 hrl.2 hbl
  have hed := enc_dec (rkOf m (key.take n)) b hrl.1 hrl.2 hbl
  have he16 : (enc (rkOf m (key.take n)) b).length = 16 := encTo_len _ _ _ _ hrl.1 hbl
  have hd16 : (dec (rkOf m (key.take n)) b).length = 16 := addK_len _ _ _ (by omega) (decTo_len _ _ _ _ hrl.1 hbl)
  have hK0 := Blk.new w (bys key) t32
  have hN : Blk ((w.alloc (.cells (bys key).toArray t32)).alloc (.cells (bys b).toArray tA16)) w.heap.size (bys key) t32 := hK0.alloc _
  have hC : Blk ((w.alloc (.cells (bys key).toArray t32)).alloc (.cells (bys b).toArray tA16)) (w.heap.size + 1) (bys b) tA16 := by
    have := Blk.new (w.alloc (.cells (bys key).toArray t32)) (bys b) tA16
    simpa using this
  have hL : Below w.heap.size w ((w.alloc (.cells (bys key).toArray t32)).alloc (.cells (bys b).toArray tA16)) := ((Below.refl _ _).alloc (Nat.le_refl _) _).alloc (by simp) _
  have Hb16 := hid hbl
  have He16 := hid he16
  have Hd16 := hid hd16
  have Hde := hid hde
  have Hed := hid hed
  have Hkt := hid hkt
  have Hn := hid hn
  have Hm := hid hm
  have Hk := hid hkl
  clear hkl hbl hrl hde hed he16 hd16 hkt hn hm hK0
  go_enter Try.func8, Try.ntmps8
  go_upto_if 10 with fail
  go_cut [7] (fun s7 wx => s7 = .int .i64 n ∧ (w.alloc (.cells (bys key).toArray t32)).alloc (.cells (bys b).toArray tA16) = wx)
  case first =>
    rcases hlong with ⟨rfl, rfl⟩ | ⟨rfl, rfl⟩
    all_goals (go_wp2_with fail; go_meet; exact ⟨rfl, rfl⟩)
  case rest =>
    obtain ⟨rfl, hwx⟩ := hcut
    rw [hwx] at hN hC hL
    clear hwx hlong
    have hn32 : n ≤ 32 := by have := Hn.out; have := Hm.out; omega
    have HR := hid (hN.rowAt 0 n)
    have q0 : 0 ≤ (n : Int) := by omega
    have q1 : (n : Int) ≤ 32 := by omega
    go_wp2_with (go_at_call 32; refine (expand_any wc w.heap.size 0 n 32 m (key.take n) HR.out Hkt.out Hm.out Hn.out hn32).mono ?_; rintro e wa ⟨kb, rfl, hKa, hBa, hkb⟩)
    have hCa := hC.below hBa hC.lt
    have hLa' := hL.trans (Below.mono hBa hL.size)
    have hCa : Blk wa.drew (w.heap.size + 1) (bys b) tA16 := hCa.drew
    have hLa : Below w.heap.size w wa.drew := hLa'.drew
    have HKa := hid (KeysAt.drew hKa)
    have hr := hCa.whole
    have hi1 : (Try.prog.info? 54).map (·.size) = some (bys b).length := by rw [size54, bys_length, Hb16.out]
    have hgd := guard54
    have he : ∀ w, (Op.equalIn 10000 54 (.agg (bys b).toArray) (.agg (bys b).toArray)).run Try.prog w = .ok true w := fun w => by
      have := run_equalIn_bytes (P := Try.prog) 9998 54 5 .u8 b b (by rw [Hb16.out]; exact under54) under5 size5 rfl w
      simpa using this
    clear hKa hLa' hN hC hL HR hBa
    refine tk_region (fun w' => w'.rangeAt (w.heap.size + 1) 0 (bys b)) (by kernel_rfl) (fun c a d v w h => by cases d <;> exact h) hr (fun hPF hHeld => ?_)
    refine tk 0 (.some 23) _ _ rfl rfl (by kernel_rfl) (by kernel_rfl) (by kernel_rfl) hPF rfl (fun w' hw' => by (go_simp; try with_reducible rfl)) hHeld ?_
    simp only [Act.put, List.setIfInBounds_toArray, List.set_cons_zero, List.set_cons_succ]
    refine tk 1 (.some 24) _ _ rfl rfl (by kernel_rfl) (by kernel_rfl) (by kernel_rfl) hPF rfl (fun w' hw' => by (go_simp; try with_reducible rfl)) hHeld ?_
    simp only [Act.put, List.setIfInBounds_toArray, List.set_cons_zero, List.set_cons_succ]
    refine tkl 2 (.some 25) _ rfl rfl 54 (.tmp 5) rfl (w.heap.size + 1) 0 (bys b) _ (by kernel_rfl) (by kernel_rfl) (by kernel_rfl) hPF rfl rfl (fun w' hw' => hw') under54 rfl hi1 hHeld ?_
    simp only [Act.put, List.setIfInBounds_toArray, List.set_cons_zero, List.set_cons_succ]
    refine tkl 5 (.some 28) _ rfl rfl 54 (.tmp 5) rfl (w.heap.size + 1) 0 (bys b) _ (by kernel_rfl) (by kernel_rfl) (by kernel_rfl) hPF rfl rfl (fun w' hw' => hw') under54 rfl hi1 hHeld ?_
    simp only [Act.put, List.setIfInBounds_toArray, List.set_cons_zero, List.set_cons_succ]
    refine wpAnyH_ready (rs := [3]) (by kernel_rfl) (by simp) (AllReadyH.cons (o := _) rfl (fun K hK => ?_) AllReadyH.nil)
    go_simp
    refine (enc_any _ kb _ b HKa.out Hb16.out).mono ?_
    rintro e wb ⟨rfl, hBb⟩
    have HKb := hid (KeysAt.below HKa.out hBb)
    have hCb := hCa.below hBb hCa.lt
    have hr := hCb.whole
    have hLb := hLa.trans (Below.mono hBb hLa.size)
    refine hK.out _ _ hr (fun hHeld => ?_)
    clear hK K
    try simp only [Act.put, List.setIfInBounds_toArray, List.set_cons_zero, List.set_cons_succ]
    refine wpAnyH_ready (rs := [4]) (by kernel_rfl) (by simp) (AllReadyH.cons (o := _) rfl (fun K hK => ?_) AllReadyH.nil)
    go_simp
    refine (dec_any _ kb _ _ HKb.out He16.out).mono ?_
    rintro e wc ⟨rfl, hBc⟩
    rw [Hde.out]
    have HKc := hid (KeysAt.below HKb.out hBc)
    have hCc := hCb.below hBc hCb.lt
    have hr := hCc.whole
    have hLc := hLb.trans (Below.mono hBc hLb.size)
    refine hK.out _ _ hr (fun hHeld => ?_)
    clear hK K
    try simp only [Act.put, List.setIfInBounds_toArray, List.set_cons_zero, List.set_cons_succ]
    refine tk 6 (.some 29) _ _ rfl rfl (by kernel_rfl) (by kernel_rfl) (by kernel_rfl) hPF rfl (fun w' hw' => by (go_simp; try with_reducible rfl)) hHeld ?_
    simp only [Act.put, List.setIfInBounds_toArray, List.set_cons_zero, List.set_cons_succ]
    refine tk 7 (.some 30) _ _ rfl rfl (by kernel_rfl) (by kernel_rfl) (by kernel_rfl) hPF rfl (fun w' hw' => by (go_simp; try with_reducible rfl)) hHeld ?_
    simp only [Act.put, List.setIfInBounds_toArray, List.set_cons_zero, List.set_cons_succ]
    refine tk 8 (.some 31) _ _ rfl rfl (by kernel_rfl) (by kernel_rfl) (by kernel_rfl) hPF rfl (fun w' hw' => by (go_simp; try with_reducible rfl)) hHeld ?_
    simp only [Act.put, List.setIfInBounds_toArray, List.set_cons_zero, List.set_cons_succ]
    refine tk 9 (.some 32) _ _ rfl rfl (by kernel_rfl) (by kernel_rfl) (by kernel_rfl) hPF rfl (fun w' hw' => by (go_simp; try with_reducible rfl)) hHeld ?_
    simp only [Act.put, List.setIfInBounds_toArray, List.set_cons_zero, List.set_cons_succ]
    refine tkl 10 (.some 33) _ rfl rfl 54 (.tmp 5) rfl (w.heap.size + 1) 0 (bys b) _ (by kernel_rfl) (by kernel_rfl) (by kernel_rfl) hPF rfl rfl (fun w' hw' => hw') under54 rfl hi1 hHeld ?_
    simp only [Act.put, List.setIfInBounds_toArray, List.set_cons_zero, List.set_cons_succ]
    refine tkl 13 (.some 36) _ rfl rfl 54 (.tmp 5) rfl (w.heap.size + 1) 0 (bys b) _ (by kernel_rfl) (by kernel_rfl) (by kernel_rfl) hPF rfl rfl (fun w' hw' => hw') under54 rfl hi1 hHeld ?_
    simp only [Act.put, List.setIfInBounds_toArray, List.set_cons_zero, List.set_cons_succ]
    refine wpAnyH_ready (rs := [11]) (by kernel_rfl) (by simp) (AllReadyH.cons (o := _) rfl (fun K hK => ?_) AllReadyH.nil)
    go_simp
    refine (dec_any _ kb _ b HKc.out Hb16.out).mono ?_
    rintro e wd ⟨rfl, hBd⟩
    have HKd := hid (KeysAt.below HKc.out hBd)
    have hCd := hCc.below hBd hCc.lt
    have hr := hCd.whole
    have hLd := hLc.trans (Below.mono hBd hLc.size)
    refine hK.out _ _ hr (fun hHeld => ?_)
    clear hK K
    try simp only [Act.put, List.setIfInBounds_toArray, List.set_cons_zero, List.set_cons_succ]
    refine wpAnyH_ready (rs := [12]) (by kernel_rfl) (by simp) (AllReadyH.cons (o := _) rfl (fun K hK => ?_) AllReadyH.nil)
    go_simp
    refine (enc_any _ kb _ _ HKd.out Hd16.out).mono ?_
    rintro e we ⟨rfl, hBe⟩
    rw [Hed.out]
    have hCe := hCd.below hBe hCd.lt
    have hr := hCe.whole
    have hLe := hLd.trans (Below.mono hBe hLd.size)
    refine hK.out _ _ hr (fun hHeld => ?_)
    clear hK K
    try simp only [Act.put, List.setIfInBounds_toArray, List.set_cons_zero, List.set_cons_succ]
    refine tk 14 (.some 37) _ _ rfl rfl (by kernel_rfl) (by kernel_rfl) (by kernel_rfl) hPF rfl (fun w' hw' => by (go_simp; try with_reducible rfl)) hHeld ?_
    simp only [Act.put, List.setIfInBounds_toArray, List.set_cons_zero, List.set_cons_succ]
    refine tk 15 (.some 38) _ _ rfl rfl (by kernel_rfl) (by kernel_rfl) (by kernel_rfl) hPF rfl (fun w' hw' => by (go_simp; try with_reducible rfl)) hHeld ?_
    simp only [Act.put, List.setIfInBounds_toArray, List.set_cons_zero, List.set_cons_succ]
    refine tk 16 (.some 39) _ _ rfl rfl (by kernel_rfl) (by kernel_rfl) (by kernel_rfl) hPF rfl (fun w' hw' => by (go_simp; try with_reducible rfl)) hHeld ?_
    simp only [Act.put, List.setIfInBounds_toArray, List.set_cons_zero, List.set_cons_succ]
    refine wpAnyH_ready (rs := [17]) (by kernel_rfl) (by simp) (AllReadyH.cons (o := _) rfl (fun K hK => ?_) AllReadyH.nil)
    go_simp
    refine (awake03_any _).mono ?_
    rintro e wf ⟨rfl, hBf⟩
    have hCf := hCe.below hBf hCe.lt
    have hr := hCf.whole
    have hLf := hLe.trans (Below.mono hBf hLe.size)
    refine hK.out _ _ hr (fun hHeld => ?_)
    clear hK K
    try simp only [Act.put, List.setIfInBounds_toArray, List.set_cons_zero, List.set_cons_succ]
    refine tk 18 (.some 41) _ _ rfl rfl (by kernel_rfl) (by kernel_rfl) (by kernel_rfl) hPF rfl (fun w' hw' => by (go_simp; try with_reducible rfl)) hHeld ?_
    simp only [Act.put, List.setIfInBounds_toArray, List.set_cons_zero, List.set_cons_succ]
    refine tk 19 (.some 6) _ _ rfl rfl (by kernel_rfl) (by kernel_rfl) (by kernel_rfl) hPF rfl (fun w' hw' => by (go_simp; try with_reducible rfl)) hHeld ?_
    simp only [Act.put, List.setIfInBounds_toArray, List.set_cons_zero, List.set_cons_succ]
    refine wpAnyH_done (by kernel_rfl) ?_ _
    go_wp2_with fail
    go_ret
    exact ⟨rfl, hLf⟩

#print axioms aesBack_walk
end Go.Proofs.Ytoffpchabpfhkaa
