/- aes: AesBlocks, walked -/
import Derived.Test.YtoffpchabpfhkaaRf5
import Derived.Test.YtoffpchabpfhkaaRf6
import Derived.Test.YtoffpchabpfhkaaNil
import Derived.Test.YtoffpchabpfhkaaApp
import Derived.Test.YtoffpchabpfhkaaAwk2
import Derived.Deep.DeepCutAuto
namespace Go.Proofs.Ytoffpchabpfhkaa
open Go.RowKit

theorem enc_len (rk s : List UInt8) (_ : 16 ≤ rk.length) (h2 : 16 * roundsOf rk + 16 ≤ rk.length) (hs : s.length = 16) : (enc rk s).length = 16 := by
  unfold enc; exact encTo_len _ _ _ _ h2 hs
theorem dec_len (rk s : List UInt8) (h : 16 ≤ rk.length) (h2 : 16 * roundsOf rk + 16 ≤ rk.length) (hs : s.length = 16) : (dec rk s).length = 16 := by
  unfold dec; exact addK_len _ _ _ (by omega) (decTo_len _ _ _ _ h2 hs)
theorem refkeys_T {T : List UInt8} (hT : tbl 256 = T) (w : World) (b o n cap m : Nat) (key : List UInt8) (hk : RowAt w (some ⟨b, o, none⟩) key) (hkl : key.length = n) (hm : m = 4 ∨ m = 8) (hn : n = 4 * m) :
    Calls Try.prog 38 #[.agg (bys T).toArray, .slice (some ⟨b, o, none⟩) n cap] w fun e w' => ∃ g cap2 ex, e = .returned (.slice (some ⟨g, 0, none⟩) (m + 7) cap2) ∧ Blk w' g (bys (rkOf m key) ++ ex) tA16 ∧ Below w.heap.size w w' := by
  subst hT; exact refkeys_any w b o n cap m key hk hkl hm hn
theorem refenc_T {T : List UInt8} (hT : tbl 256 = T) (w : World) (g nr cap : Nat) (rk s : List UInt8) (ex : List Value) (hk : Blk w g (bys rk ++ ex) tA16) (hrk : rk.length = 16 * nr) (hn2 : 2 ≤ nr) (hn15 : nr ≤ 15) (hs : s.length = 16) :
    Calls Try.prog 39 #[.agg (bys T).toArray, .slice (some ⟨g, 0, none⟩) nr cap, .agg (bys s).toArray] w fun e w' => e = .returned (.agg (bys (enc rk s)).toArray) ∧ Below w.heap.size w w' := by
  subst hT; exact refenc_any w g nr cap rk s ex hk hrk hn2 hn15 hs
theorem refdec_T {T : List UInt8} (hT : tbl 256 = T) (w : World) (g nr cap R : Nat) (rk s : List UInt8) (ex : List Value) (hk : Blk w g (bys rk ++ ex) tA16) (hrk : rk.length = 16 * nr) (hnr : nr = R + 1) (hR1 : 1 ≤ R) (hR14 : R ≤ 14) (hs : s.length = 16) :
    Calls Try.prog 40 #[.agg (bys T).toArray, .slice (some ⟨g, 0, none⟩) nr cap, .agg (bys s).toArray] w fun e w' => e = .returned (.agg (bys (dec rk s)).toArray) ∧ Below w.heap.size w w' := by
  subst hT; exact refdec_any w g nr cap R rk s ex hk hrk hnr hR1 hR14 hs
theorem table_T {T : List UInt8} (hT : tbl 256 = T) (w : World) : Calls Try.prog 37 #[] w fun e w' => e = .returned (.agg (bys T).toArray) ∧ Below w.heap.size w w' := by
  subst hT; exact table_any w

set_option maxRecDepth 100000 in
set_option maxHeartbeats 1000000 in
theorem aesBlocks_walk (pa : Option Addr) (n cap : Nat) (key bl : List UInt8) (w : World) (hr : RowAt w pa key) (hn : key.length = n) (hb : bl.length = 16) :
    Calls Try.prog 7 #[.slice pa n cap, .agg (bys bl).toArray] w fun e w' => e = .returned (.bool true) ∧ Below w.heap.size w w' := by
  have hX0 := Blk.new w (bys bl) tA16
  have hL0 : Below w.heap.size w (w.alloc (.cells (bys bl).toArray tA16)) := (Below.refl _ _).alloc (Nat.le_refl _) _
  have Hb := hid hb
  clear hb
  by_cases h100 : n ≤ 100
  · have hown0 : ((w.alloc (.cells (bys bl).toArray tA16)).alloc (.cells #[] 5)).ownsRow (w.heap.size + 1) 5 1 (.slice (some ⟨w.heap.size + 1, 0, none⟩) 0 0) 0 [] := by
      have := World.ownsRow_made (w.alloc (.cells (bys bl).toArray tA16)) #[] 0 (e := 5) (size := 1) (base := w.heap.size + 1) (by simp) (by unfold maxLen; omega) (by simp)
      simpa using this
    have hown0 := hid hown0
    have hrA := hid ((hr.below hL0).below ((Below.refl _ _).alloc (Nat.le_refl _) (.cells #[] 5)))
    have hXA := hX0.alloc (.cells #[] 5)
    have hLA := hL0.alloc hL0.size (.cells #[] 5)
    go_enter Try.func7, Try.ntmps7
    go_wp2_with (refine wpList_append_rows rfl (.tmp 13) (.tmp 14) rfl (w.heap.size + 1) _ 0 [] rfl hown0.out pa n cap key rfl hrA.out hn (by omega) (by simp) ?_; intro v1 w1 hown1 hgrow1 _)
    have hgrow1 : ((w.alloc (.cells (bys bl).toArray tA16)).alloc (.cells #[] 5)).grownBy w1 (some (w.heap.size + 1)) := hgrow1
    have hX1 : Blk w1 w.heap.size (bys bl) tA16 := hXA.grown hgrow1 (by simp)
    have hL1 : Below w.heap.size w w1 := hLA.grown hgrow1 (by simp; omega) (fun j e => by have e : w.heap.size + 1 = j := Option.some.inj e; omega)
    have hown1 : w1.ownsRow (w.heap.size + 1) 5 1 v1 key.length (bys key) := by rw [hn]; simpa using hown1
    obtain ⟨pk, ck, rfl, hck, hRk⟩ := own_rowAt hown1
    rw [hn] at hck
    rw [hn]
    clear hown1 hgrow1 hXA hLA hown0 hX0 hL0
    by_cases hgd : n = 16 ∨ n = 32
    · obtain ⟨m, hm, hnm⟩ : ∃ m, (m = 4 ∨ m = 8) ∧ n = 4 * m := by
        rcases hgd with rfl | rfl
        · exact ⟨4, .inl rfl, rfl⟩
        · exact ⟨8, .inr rfl, rfl⟩
      obtain ⟨b0, o0, rfl, _, _⟩ := hRk 0 (by omega)
      have hm4 : 4 ≤ m := by omega
      have hm8 : m ≤ 8 := by omega
      have hrkl : (rkOf m key).length = 16 * (m + 7) := by
        have := exTo_len m key (by omega) (by omega) (28 + 3 * m)
        unfold rkOf; omega
      have Hrk := hid hrkl
      have hrw := hid hr
      clear hrkl
      refine (expand_any w1 b0 o0 n ck m key hRk hn hm hnm hck).mono ?_
      rintro e w2 ⟨kb, rfl, hKA, hB2, _⟩
      have hX := hX1.below hB2 hX1.lt
      have hL := hL1.trans (Below.mono hB2 hL1.size)
      clear hB2 hX1 hL1 hRk
      have Hgd := hid hgd
      have Hnm := hid hnm
      have hq : (n : Int) / 4 = (m : Int) := by omega
      have hq' : (n : Int).tdiv 4 = (m : Int) := by rw [Int.tdiv_eq_ediv_of_nonneg (by omega)]; exact hq
      obtain ⟨r6, hr6⟩ : ∃ r6, m + 6 = r6 := ⟨_, rfl⟩
      have hr6i : (m : Int) + 6 = (r6 : Int) := by omega
      have hrs : ∀ W, KeysAt W kb (rkOf m key) → Calls Try.prog 35 #[.pointer (some ⟨kb, 0, none⟩)] W fun e w' => e = .returned (.int .i64 r6) ∧ W = w' := fun W hW => by
        obtain ⟨tb', wb, nn, capn, ex0, hk0, _, _, hrk0, hn0⟩ := hW
        have e : nn / 4 - 1 = r6 := by have := Hrk.out; omega
        have := rounds_some W kb tb' nn capn _ hk0 (by omega) (by omega)
        rw [e] at this
        exact this
      clear hnm hgd hr6
      go_upto_region 4 with fail
      go_cut [26] (fun s26 wx => s26 = .bool false ∧ w2 = wx)
      case first =>
        rcases Hgd.out with rfl | rfl
        all_goals (go_wp2_with fail; go_meet; exact ⟨rfl, rfl⟩)
      case rest =>
        obtain ⟨rfl, rfl⟩ := hcut
        have hr66 : ((r6 : Int) != (r6 : Int)) = false := by simp
        go_wp2_with fail
        refine (hrs _ hKA).mono ?_
        rintro e w3 ⟨rfl, rfl⟩
        obtain ⟨T, hTe⟩ : ∃ T, tbl 256 = T := ⟨_, rfl⟩
        obtain ⟨Z, hZe⟩ : ∃ Z, tbl 0 = Z := ⟨_, rfl⟩
        have hl0 := tbl_len 0 (by omega)
        have hl1 := tbl_len 256 (by omega)
        have zz := zc60
        rw [hZe] at hl0 zz
        rw [hTe] at hl1
        have HTe := hid hTe
        have Zz := hid zz
        clear hTe hZe zz
        go_wp2_with fail
        refine (table_T HTe.out _).mono ?_
        rintro e w3 ⟨rfl, hB3⟩
        have hX := hX.below hB3 hX.lt
        have hL := hL.trans (Below.mono hB3 hL.size)
        have hKA := KeysAt.below hKA hB3
        clear hB3 hrs
        obtain ⟨pb0, po0, rfl, _, _⟩ := hrw.out 0 (by have := Hnm.out; omega)
        obtain ⟨tb, htb⟩ : ∃ tb, w3.heap.size = tb := ⟨_, rfl⟩
        have hT0 : Blk (w3.alloc (.cells Try.zeroCells60 60)) tb (bys Z) tA256 := by rw [Zz.out, ← htb]; exact Blk.new w3 (bys Z) tA256
        have hBt : Below w3.heap.size w3 (w3.alloc (.cells Try.zeroCells60 60)) := (Below.refl _ _).alloc (Nat.le_refl _) _
        obtain ⟨hTT, hcc⟩ := store16 (new := T) hT0 (by rw [hl0, hl1])
        have hBs := hBt.trans (hcc.below (M := w3.heap.size) hBt.size (fun k hk => by simp at hk; omega))
        have hX := hX.below hBs hX.lt
        have hKA := KeysAt.below hKA hBs
        have hL := hL.trans (Below.mono hBs hL.size)
        clear hBt hcc hBs
        have hsT : (Try.prog.info? 60).map (·.size) = some (bys T).length := by rw [size60, bys_length, hl1]
        have hsX : (Try.prog.info? 54).map (·.size) = some (bys bl).length := by rw [size54, bys_length, Hb.out]
        go_wp2_with (first | (refine wpList_store_mid rfl 60 (.tmp 7) (.tmp 70) rfl tb 0 (bys T).toArray rfl rfl (hT0.there 0 _ (by rw [List.size_toArray, bys_length, bys_length, hl0, hl1]; decide)) (by rw [size60, List.size_toArray, bys_length, hl1]) (all_oneCell_toArray (bys_one _)) ?_) | (refine wpList_load_mid rfl 60 (.tmp 7) rfl tb 0 rfl (bys T) _ hTT.whole under60 rfl hsT ?_))
        clear hT0
        generalize (w3.alloc (.cells Try.zeroCells60 60)).setCells tb 0 (bys T) = w4 at *
        refine (refkeys_T HTe.out w4 pb0 po0 n cap m key (hrw.out.below hL) hn hm Hnm.out).mono ?_
        rintro e w5 ⟨g, cap2, ex, rfl, hG, hBn⟩
        have hKA := KeysAt.below hKA hBn
        have hX := hX.below hBn hX.lt
        have hT := hTT.below hBn hTT.lt
        have hL := hL.trans (Below.mono hBn hL.size)
        clear hBn hTT
        have hel := enc_len (rkOf m key) bl (by have := Hrk.out; omega) (by unfold roundsOf; have := Hrk.out; omega) Hb.out
        have hdl := dec_len (rkOf m key) bl (by have := Hrk.out; omega) (by unfold roundsOf; have := Hrk.out; omega) Hb.out
        have he1 : ∀ W, (binOp .eql 54 (.agg (bys (enc (rkOf m key) bl)).toArray) (.agg (bys (enc (rkOf m key) bl)).toArray)).run Try.prog W = .ok (.bool true) W := fun W => by
          have := eql16 _ _ hel hel (.tmp 0) (.tmp 0) W
          rw [decide_eq_true rfl] at this
          exact this
        have he2 : ∀ W, (binOp .eql 54 (.agg (bys (dec (rkOf m key) bl)).toArray) (.agg (bys (dec (rkOf m key) bl)).toArray)).run Try.prog W = .ok (.bool true) W := fun W => by
          have := eql16 _ _ hdl hdl (.tmp 0) (.tmp 0) W
          rw [decide_eq_true rfl] at this
          exact this
        go_wp2_with fail
        have hKA := hKA.drew
        have hX := hX.drew
        have hT := hT.drew
        have hG := hG.drew
        have hL := hL.drew
        refine tk_region (fun w' => w'.rangeAt w.heap.size 0 (bys bl) ∧ w'.rangeAt tb 0 (bys T)) (by kernel_rfl) (fun c a d v w h => by cases d <;> exact h) ⟨hX.whole, hT.whole⟩ (fun hPF hHeld => ?_)
        refine tk 0 (.some 74) _ _ rfl rfl (by kernel_rfl) (by kernel_rfl) (by kernel_rfl) hPF rfl (fun w' hw' => by (go_simp; try with_reducible rfl)) hHeld ?_
        simp only [Act.put, List.setIfInBounds_toArray, List.set_cons_zero, List.set_cons_succ]
        refine tkl 1 (.some 75) _ rfl rfl 54 (.tmp 3) rfl w.heap.size 0 (bys bl) _ (by kernel_rfl) (by kernel_rfl) (by kernel_rfl) hPF rfl rfl (fun w' hw' => by first | exact hw'.1 | exact hw'.2) under54 rfl hsX hHeld ?_
        simp only [Act.put, List.setIfInBounds_toArray, List.set_cons_zero, List.set_cons_succ]
        refine tkl 3 (.some 77) _ rfl rfl 60 (.tmp 7) rfl tb 0 (bys T) _ (by kernel_rfl) (by kernel_rfl) (by kernel_rfl) hPF rfl rfl (fun w' hw' => by first | exact hw'.1 | exact hw'.2) under60 rfl hsT hHeld ?_
        simp only [Act.put, List.setIfInBounds_toArray, List.set_cons_zero, List.set_cons_succ]
        refine tk 4 (.some 78) _ _ rfl rfl (by kernel_rfl) (by kernel_rfl) (by kernel_rfl) hPF rfl (fun w' hw' => by (go_simp; try with_reducible rfl)) hHeld ?_
        simp only [Act.put, List.setIfInBounds_toArray, List.set_cons_zero, List.set_cons_succ]
        refine tkl 5 (.some 79) _ rfl rfl 54 (.tmp 3) rfl w.heap.size 0 (bys bl) _ (by kernel_rfl) (by kernel_rfl) (by kernel_rfl) hPF rfl rfl (fun w' hw' => by first | exact hw'.1 | exact hw'.2) under54 rfl hsX hHeld ?_
        simp only [Act.put, List.setIfInBounds_toArray, List.set_cons_zero, List.set_cons_succ]
        refine wpAnyH_ready (rs := [2]) (by kernel_rfl) (by simp) (AllReadyH.cons (o := _) rfl (fun K hK => ?_) AllReadyH.nil)
        go_simp
        refine (enc_any _ kb _ bl hKA Hb.out).mono ?_
        rintro e wn ⟨rfl, hBn⟩
        have hKA := KeysAt.below hKA hBn
        have hX := hX.below hBn hX.lt
        have hT := hT.below hBn hT.lt
        have hG := hG.below hBn hG.lt
        have hL := hL.trans (Below.mono hBn hL.size)
        clear hBn
        refine hK.out _ _ ⟨hX.whole, hT.whole⟩ (fun hHeld => ?_)
        clear hK K
        try simp only [Act.put, List.setIfInBounds_toArray, List.set_cons_zero, List.set_cons_succ]
        refine wpAnyH_ready (rs := [6]) (by kernel_rfl) (by simp) (AllReadyH.cons (o := _) rfl (fun K hK => ?_) AllReadyH.nil)
        go_simp
        refine (refenc_T HTe.out _ g (m + 7) cap2 _ bl ex hG Hrk.out (by omega) (by omega) Hb.out).mono ?_
        rintro e wn ⟨rfl, hBn⟩
        have hKA := KeysAt.below hKA hBn
        have hX := hX.below hBn hX.lt
        have hT := hT.below hBn hT.lt
        have hG := hG.below hBn hG.lt
        have hL := hL.trans (Below.mono hBn hL.size)
        clear hBn
        refine hK.out _ _ ⟨hX.whole, hT.whole⟩ (fun hHeld => ?_)
        clear hK K
        try simp only [Act.put, List.setIfInBounds_toArray, List.set_cons_zero, List.set_cons_succ]
        refine tk 7 (.some 81) _ _ rfl rfl (by kernel_rfl) (by kernel_rfl) (by kernel_rfl) hPF rfl (fun w' hw' => by (go_simp; try with_reducible rfl)) hHeld ?_
        simp only [Act.put, List.setIfInBounds_toArray, List.set_cons_zero, List.set_cons_succ]
        refine tk 8 (.some 82) _ _ rfl rfl (by kernel_rfl) (by kernel_rfl) (by kernel_rfl) hPF rfl (fun w' hw' => by (go_simp; try with_reducible rfl)) hHeld ?_
        simp only [Act.put, List.setIfInBounds_toArray, List.set_cons_zero, List.set_cons_succ]
        refine tk 9 (.some 83) _ _ rfl rfl (by kernel_rfl) (by kernel_rfl) (by kernel_rfl) hPF rfl (fun w' hw' => by (go_simp; try with_reducible rfl)) hHeld ?_
        simp only [Act.put, List.setIfInBounds_toArray, List.set_cons_zero, List.set_cons_succ]
        refine tkl 10 (.some 84) _ rfl rfl 54 (.tmp 3) rfl w.heap.size 0 (bys bl) _ (by kernel_rfl) (by kernel_rfl) (by kernel_rfl) hPF rfl rfl (fun w' hw' => by first | exact hw'.1 | exact hw'.2) under54 rfl hsX hHeld ?_
        simp only [Act.put, List.setIfInBounds_toArray, List.set_cons_zero, List.set_cons_succ]
        refine tkl 12 (.some 86) _ rfl rfl 60 (.tmp 7) rfl tb 0 (bys T) _ (by kernel_rfl) (by kernel_rfl) (by kernel_rfl) hPF rfl rfl (fun w' hw' => by first | exact hw'.1 | exact hw'.2) under60 rfl hsT hHeld ?_
        simp only [Act.put, List.setIfInBounds_toArray, List.set_cons_zero, List.set_cons_succ]
        refine tk 13 (.some 87) _ _ rfl rfl (by kernel_rfl) (by kernel_rfl) (by kernel_rfl) hPF rfl (fun w' hw' => by (go_simp; try with_reducible rfl)) hHeld ?_
        simp only [Act.put, List.setIfInBounds_toArray, List.set_cons_zero, List.set_cons_succ]
        refine tkl 14 (.some 88) _ rfl rfl 54 (.tmp 3) rfl w.heap.size 0 (bys bl) _ (by kernel_rfl) (by kernel_rfl) (by kernel_rfl) hPF rfl rfl (fun w' hw' => by first | exact hw'.1 | exact hw'.2) under54 rfl hsX hHeld ?_
        simp only [Act.put, List.setIfInBounds_toArray, List.set_cons_zero, List.set_cons_succ]
        refine wpAnyH_ready (rs := [11]) (by kernel_rfl) (by simp) (AllReadyH.cons (o := _) rfl (fun K hK => ?_) AllReadyH.nil)
        go_simp
        refine (dec_any _ kb _ bl hKA Hb.out).mono ?_
        rintro e wn ⟨rfl, hBn⟩
        have hKA := KeysAt.below hKA hBn
        have hX := hX.below hBn hX.lt
        have hT := hT.below hBn hT.lt
        have hG := hG.below hBn hG.lt
        have hL := hL.trans (Below.mono hBn hL.size)
        clear hBn
        refine hK.out _ _ ⟨hX.whole, hT.whole⟩ (fun hHeld => ?_)
        clear hK K
        try simp only [Act.put, List.setIfInBounds_toArray, List.set_cons_zero, List.set_cons_succ]
        refine wpAnyH_ready (rs := [15]) (by kernel_rfl) (by simp) (AllReadyH.cons (o := _) rfl (fun K hK => ?_) AllReadyH.nil)
        go_simp
        refine (refdec_T HTe.out _ g (m + 7) cap2 (m + 6) _ bl ex hG Hrk.out rfl (by omega) (by omega) Hb.out).mono ?_
        rintro e wn ⟨rfl, hBn⟩
        have hKA := KeysAt.below hKA hBn
        have hX := hX.below hBn hX.lt
        have hT := hT.below hBn hT.lt
        have hG := hG.below hBn hG.lt
        have hL := hL.trans (Below.mono hBn hL.size)
        clear hBn
        refine hK.out _ _ ⟨hX.whole, hT.whole⟩ (fun hHeld => ?_)
        clear hK K
        try simp only [Act.put, List.setIfInBounds_toArray, List.set_cons_zero, List.set_cons_succ]
        refine tk 16 (.some 90) _ _ rfl rfl (by kernel_rfl) (by kernel_rfl) (by kernel_rfl) hPF rfl (fun w' hw' => by (go_simp; try with_reducible rfl)) hHeld ?_
        simp only [Act.put, List.setIfInBounds_toArray, List.set_cons_zero, List.set_cons_succ]
        refine tk 17 (.some 91) _ _ rfl rfl (by kernel_rfl) (by kernel_rfl) (by kernel_rfl) hPF rfl (fun w' hw' => by (go_simp; try with_reducible rfl)) hHeld ?_
        simp only [Act.put, List.setIfInBounds_toArray, List.set_cons_zero, List.set_cons_succ]
        refine tk 18 (.some 92) _ _ rfl rfl (by kernel_rfl) (by kernel_rfl) (by kernel_rfl) hPF rfl (fun w' hw' => by (go_simp; try with_reducible rfl)) hHeld ?_
        simp only [Act.put, List.setIfInBounds_toArray, List.set_cons_zero, List.set_cons_succ]
        refine wpAnyH_ready (rs := [19]) (by kernel_rfl) (by simp) (AllReadyH.cons (o := _) rfl (fun K hK => ?_) AllReadyH.nil)
        go_simp
        refine (awake03_any _).mono ?_
        rintro e wn ⟨rfl, hBn⟩
        have hKA := KeysAt.below hKA hBn
        have hX := hX.below hBn hX.lt
        have hT := hT.below hBn hT.lt
        have hG := hG.below hBn hG.lt
        have hL := hL.trans (Below.mono hBn hL.size)
        clear hBn
        refine hK.out _ _ ⟨hX.whole, hT.whole⟩ (fun hHeld => ?_)
        clear hK K
        try simp only [Act.put, List.setIfInBounds_toArray, List.set_cons_zero, List.set_cons_succ]
        refine tk 20 (.some 94) _ _ rfl rfl (by kernel_rfl) (by kernel_rfl) (by kernel_rfl) hPF rfl (fun w' hw' => by (go_simp; try with_reducible rfl)) hHeld ?_
        simp only [Act.put, List.setIfInBounds_toArray, List.set_cons_zero, List.set_cons_succ]
        refine tk 21 (.some 4) _ _ rfl rfl (by kernel_rfl) (by kernel_rfl) (by kernel_rfl) hPF rfl (fun w' hw' => by (go_simp; try with_reducible rfl)) hHeld ?_
        simp only [Act.put, List.setIfInBounds_toArray, List.set_cons_zero, List.set_cons_succ]
        refine wpAnyH_done (by kernel_rfl) ?_ _
        go_wp2_with fail
        go_ret
        exact ⟨rfl, hL⟩
    · have h1 : ((n : Int) != 16) = true := bne_iff_ne.2 (by omega)
      have h2 : ((n : Int) != 32) = true := bne_iff_ne.2 (by omega)
      have hzz : ∀ W, (binOp .eql 54 (.agg (bys z16).toArray) (.agg #[.int .u8 0, .int .u8 0, .int .u8 0, .int .u8 0, .int .u8 0, .int .u8 0, .int .u8 0, .int .u8 0, .int .u8 0, .int .u8 0, .int .u8 0, .int .u8 0, .int .u8 0, .int .u8 0, .int .u8 0, .int .u8 0])).run Try.prog W = .ok (.bool true) W := fun W => by
        have := eql16 z16 z16 rfl rfl (.tmp 0) (.tmp 0) W
        rw [decide_eq_true rfl] at this
        exact this
      refine (expand_bad w1 pk n ck h1 h2).mono ?_
      rintro e w2 ⟨rfl, rfl⟩
      obtain ⟨a0, a1, a2, a3, a4, a5, a6, a7, a8, a9, a10, a11, a12, a13, a14, a15, rfl⟩ := len16 Hb.out
      have c0 := hX1.cell 0
      have c1 := hX1.cell 1
      have c2 := hX1.cell 2
      have c3 := hX1.cell 3
      have c4 := hX1.cell 4
      have c5 := hX1.cell 5
      have c6 := hX1.cell 6
      have c7 := hX1.cell 7
      have c8 := hX1.cell 8
      have c9 := hX1.cell 9
      have c10 := hX1.cell 10
      have c11 := hX1.cell 11
      have c12 := hX1.cell 12
      have c13 := hX1.cell 13
      have c14 := hX1.cell 14
      have c15 := hX1.cell 15
      simp only [bys, List.map_cons, List.map_nil, List.getElem?_cons_zero, List.getElem?_cons_succ] at c0 c1 c2 c3 c4 c5 c6 c7 c8 c9 c10 c11 c12 c13 c14 c15
      go_wp2_with fail
      refine (enc_nil _ [a0, a1, a2, a3, a4, a5, a6, a7, a8, a9, a10, a11, a12, a13, a14, a15]).mono ?_
      rintro e w3 ⟨rfl, hB3⟩
      have hX3 := hX1.below hB3 hX1.lt
      have hL3 := hL1.trans (Below.mono hB3 hL1.size)
      clear c0 c1 c2 c3 c4 c5 c6 c7 c8 c9 c10 c11 c12 c13 c14 c15 hX1 hL1 hB3
      have c0 := hX3.cell 0
      have c1 := hX3.cell 1
      have c2 := hX3.cell 2
      have c3 := hX3.cell 3
      have c4 := hX3.cell 4
      have c5 := hX3.cell 5
      have c6 := hX3.cell 6
      have c7 := hX3.cell 7
      have c8 := hX3.cell 8
      have c9 := hX3.cell 9
      have c10 := hX3.cell 10
      have c11 := hX3.cell 11
      have c12 := hX3.cell 12
      have c13 := hX3.cell 13
      have c14 := hX3.cell 14
      have c15 := hX3.cell 15
      simp only [bys, List.map_cons, List.map_nil, List.getElem?_cons_zero, List.getElem?_cons_succ] at c0 c1 c2 c3 c4 c5 c6 c7 c8 c9 c10 c11 c12 c13 c14 c15
      go_wp2_with fail
      refine (dec_nil _ [a0, a1, a2, a3, a4, a5, a6, a7, a8, a9, a10, a11, a12, a13, a14, a15]).mono ?_
      rintro e w4 ⟨rfl, hB4⟩
      have hL4 := hL3.trans (Below.mono hB4 hL3.size)
      clear c0 c1 c2 c3 c4 c5 c6 c7 c8 c9 c10 c11 c12 c13 c14 c15 hX3 hL3 hB4
      go_wp2_with fail
      refine (rounds_nil _).mono ?_
      rintro e w5 ⟨rfl, rfl⟩
      go_wp2_with fail
      refine (awake03_any _).mono ?_
      rintro e w6 ⟨rfl, hB6⟩
      have hL6 := hL4.trans (Below.mono hB6 hL4.size)
      go_wp2_with fail
      go_ret
      exact ⟨rfl, hL6⟩
  · go_enter Try.func7, Try.ntmps7
    go_wp2_with fail
    go_ret
    exact ⟨rfl, hL0⟩
end Go.Proofs.Ytoffpchabpfhkaa
