/- weave: counters -/
import Derived.Test.YtgellbapbphnlaaXc
import Derived.Test.YtgellbapbphnlaaExp2
namespace Go.Proofs.Ytgellbapbphnlaa
open Go.RowKit

structure CtrFor (x : CtrV) (t : TextV) : Prop where
  rk : x.rk = rkT t
  iv : x.iv = t.iv
  b : x.b = t.b
theorem owns_below {w w' : World} {base size n : Nat} {e : TypeId} {v : Value} {xs : List Value} (h : w.ownsRow base e size v n xs) (hB : Below w.heap.size w w') : w'.ownsRow base e size v n xs := by
  refine ⟨h.1, ?_⟩
  rcases h.2 with hn | ⟨g, cap, cur, hv, hb, hh, rest⟩
  · exact .inl hn
  · have hg : g < w.heap.size := by
      rcases Nat.lt_or_ge g w.heap.size with q | q
      · exact q
      · rw [Array.getElem?_eq_none q] at hh; cases hh
    exact .inr ⟨g, cap, cur, hv, hb, by rw [hB.block g hg]; exact hh, rest⟩
/-- A text made ready that stays so, whatever comes of the row that holds it. -/
def CtrOff (w : World) (v : Value) (x : CtrV) : Prop := ∀ w' : World, w.heap.size ≤ w'.heap.size → (∀ b, b < w.heap.size → v.ownBlock ≠ some b → w'.heap[b]? = w.heap[b]?) → CtrOk w' x
theorem CtrOff.ok {w : World} {v : Value} {x : CtrV} (h : CtrOff w v x) : CtrOk w x := h w (Nat.le_refl _) (fun _ _ _ => rfl)
def ctrsc (cs : List CtrV) : List Value := cs.flatMap ctrc

set_option maxRecDepth 100000 in
set_option maxHeartbeats 4000000 in
theorem counters_any (w : World) (pa : Option Addr) (l : List TextV) (n cap : Nat) (hl : TextsAt w pa l) (hn : l.length = n) (h9 : n ≤ 1000) (hm : ∀ k (h : k < l.length), l[k].b.length ≤ 1000) :
    Calls Try.prog 16 #[.slice pa n cap] w fun e w' => ∃ v cs, e = .returned (.tuple #[v, .bool true]) ∧ cs.length = n ∧ (∀ j (h : j < cs.length) (h' : j < l.length), CtrFor cs[j] l[j]) ∧ (∀ x ∈ cs, CtrOff w' v x) ∧ w'.ownsRow w.heap.size tCtr 18 v n (ctrsc cs) ∧ Below w.heap.size w w' := by
  obtain ⟨i0, hi0, hz0, hs0, hb0⟩ := info_parts infoCtr
  have Hi0 := hid hi0
  have Hz0 := hid hz0
  have Hs0 := hid hs0
  have Hb0 := hid hb0
  have Hn := hid hn
  have HM := hid hm
  clear hi0 hz0 hs0 hb0 hn hm
  go_enter Try.func16, Try.ntmps16
  go_wp2_with fail
  go_loopw [4, 5] (fun v i wr => ∃ (k : Nat) (cs : List CtrV), k ≤ n ∧ i = .int .i64 k ∧ cs.length = k ∧ (∀ j (h : j < cs.length) (h' : j < l.length), CtrFor cs[j] l[j]) ∧ (∀ x ∈ cs, CtrOff wr v x) ∧ wr.ownsRow w.heap.size tCtr 18 v k (ctrsc cs) ∧ Below w.heap.size w wr) (fun _ i _ => n - (intOf i).toNat)
  case atStart => exact ⟨0, [], by omega, rfl, rfl, fun j h => absurd h (by simp), fun x h => absurd h (by simp), World.ownsRow_nil _ _ _ _, Below.refl _ _⟩
  case round =>
    obtain ⟨k, cs, hk, rfl, hcl, hcf, hco, hown, hB⟩ := hrel
    have Hcl := hid hcl
    have Hcf := hid hcf
    have Hco := hid hco
    have Hown := hid hown
    clear hcl hcf hco hown
    by_cases hlt : k < n
    · have hkl : k < l.length := by rw [Hn.out]; exact hlt
      have hh := hl.below hB k hkl
      have hxm := HM.out k hkl
      generalize hx : l[k] = x at hh hxm
      have Hx := hid hx
      obtain ⟨tk, b, o, rfl, hb, hc⟩ := hh
      have hrg := textc_range tk hc
      have hszT : (Try.prog.info? 39).map (·.size) = some (textc x).length := by rw [sizeText, textc_len tk]
      have hkn := kn_km x.long
      have hkl2 : (x.K.take (kn x.long)).length = kn x.long := by rw [List.length_take, tk.K]; omega
      have Hkn := hid hkn
      have Hkl2 := hid hkl2
      have Tk := hid tk
      have Hc := hid hc
      have q1 : (k : Int) < (n : Int) := by omega
      clear hx hkn hkl2 tk hc
      go_wp2_with (refine wpList_load_mid rfl 39 (.tmp 17) rfl b (o + k * 51) rfl (textc x) _ hrg Try.underlying39 rfl hszT ?_)
      refine (bytesT_any wr _ x Tk.out).mono ?_
      rintro e w2 ⟨rfl, hb2, hB2⟩
      have hr2 := textc_row Tk.out hb2 (kn x.long) Hkn.out.2.2
      go_wp2_with fail
      refine (expand_from w2 wr.heap.size 0 (kn x.long) 32 (km x.long) (x.K.take (kn x.long)) hr2 Hkl2.out Hkn.out.2.1 Hkn.out.1 Hkn.out.2.2).mono ?_
      rintro e w3 ⟨kb, rfl, hK3, hB3⟩
      have hB2s := hB2.size
      have hS3 := hB2.trans (hB3.mono hB2.size)
      have hBw := hB.trans (hS3.mono hB.size)
      clear hr2 hb2 hB2 hB3 hrg
      obtain ⟨a0, a1, a2, a3, a4, a5, a6, a7, a8, a9, a10, a11, a12, a13, a14, a15, hiv⟩ := len16 Tk.out.iv
      have hcell : ∀ w', Below wr.heap.size wr w' → ∀ j, j < 51 → w'.cell? ⟨b, o + k * 51 + j, none⟩ = (textc x)[j]? := fun w' hw j hj => by
        rw [← Hc.out j hj]; simp [World.cell?, hw.block b hb]
      have hrgi : ∀ w', Below w3.heap.size w3 w' → w'.rangeAt b (o + k * 51 + 33) [B a0, B a1, B a2, B a3, B a4, B a5, B a6, B a7, B a8, B a9, B a10, B a11, B a12, B a13, B a14, B a15] := fun w' hw => by
        have hw2 := hS3.trans (hw.mono hS3.size)
        have tk := Tk.out
        have := textc_iv (w := w') (x := x) ⟨tk.K, tk.iv, tk.n, tk.row.below hw2, tk.cap⟩ (textc_range ⟨tk.K, tk.iv, tk.n, tk.row.below hw2, tk.cap⟩ (hcell w' hw2))
        rw [hiv] at this; exact this
      have h50 : ∀ w', Below w3.heap.size w3 w' → w'.cell? ⟨b, o + k * 51 + 50, none⟩ = some (.slice x.pa x.b.length x.cap) := fun w' hw => by
        rw [hcell w' (hS3.trans (hw.mono hS3.size)) 50 (by omega), textc_slice Tk.out]
      have hrb := Tk.out.row.below hS3
      have hown3 : w3.ownsRow w.heap.size tCtr 18 u4 k (ctrsc cs) := owns_below Hown.out hS3
      have hszi : (Try.prog.info? 36).map (·.size) = some [B a0, B a1, B a2, B a3, B a4, B a5, B a6, B a7, B a8, B a9, B a10, B a11, B a12, B a13, B a14, B a15].length := by rw [size54]; rfl
      have Hrgi := hid hrgi
      have H50 := hid h50
      have Hown3 := hid hown3
      have Hiv := hid hiv
      clear hcell hrgi h50 hown3 hiv
      obtain ⟨pk, hpk⟩ : ∃ p, x.pa = p := ⟨_, rfl⟩
      obtain ⟨bk, hbk⟩ : ∃ p, x.b.length = p := ⟨_, rfl⟩
      obtain ⟨ck, hck⟩ : ∃ p, x.cap = p := ⟨_, rfl⟩
      have h50' := H50.out
      rw [hpk, hbk, hck] at h50'
      rw [hbk] at hxm
      have H50b := hid h50'
      rw [hpk] at hrb
      have Hbk := hid hbk
      clear h50' hpk hbk hck H50
      have hS0 : Below w3.heap.size w3 w3.drew := (Below.refl _ _).drew
      go_upto_region 8 with fail
      try simp only [Act.put]
      refine tkR (fun w' => Below w3.heap.size w3 w') [16] (by kernel_rfl) (fun c a d v w h => by cases d <;> exact h) (hS0) (fun hPF hHeld => ?_)
      refine tkB 0 (.some 29) _ _ rfl rfl (by kernel_rfl) (by kernel_rfl) (by kernel_rfl) (by kernel_rfl) hPF rfl (fun w' => by (go_simp; try with_reducible rfl)) hHeld (fun hHeld => ?_)
      simp only [Act.put, List.setIfInBounds_toArray, List.set_cons_zero, List.set_cons_succ]
      refine tkB 1 (.some 30) _ _ rfl rfl (by kernel_rfl) (by kernel_rfl) (by kernel_rfl) (by kernel_rfl) hPF rfl (fun w' => by (go_simp; try with_reducible rfl)) hHeld (fun hHeld => ?_)
      simp only [Act.put, List.setIfInBounds_toArray, List.set_cons_zero, List.set_cons_succ]
      refine tkB 2 (.some 31) _ _ rfl rfl (by kernel_rfl) (by kernel_rfl) (by kernel_rfl) (by kernel_rfl) hPF rfl (fun w' => by (go_simp; try with_reducible rfl)) hHeld (fun hHeld => ?_)
      simp only [Act.put, List.setIfInBounds_toArray, List.set_cons_zero, List.set_cons_succ]
      refine tkB 3 (.some 32) _ _ rfl rfl (by kernel_rfl) (by kernel_rfl) (by kernel_rfl) (by kernel_rfl) hPF rfl (fun w' => by (go_simp; try with_reducible rfl)) hHeld (fun hHeld => ?_)
      simp only [Act.put, List.setIfInBounds_toArray, List.set_cons_zero, List.set_cons_succ]
      refine tkB 4 (.some 33) _ _ rfl rfl (by kernel_rfl) (by kernel_rfl) (by kernel_rfl) (by kernel_rfl) hPF rfl (fun w' => by (go_simp; try with_reducible rfl)) hHeld (fun hHeld => ?_)
      simp only [Act.put, List.setIfInBounds_toArray, List.set_cons_zero, List.set_cons_succ]
      refine tkB 5 (.some 34) _ _ rfl rfl (by kernel_rfl) (by kernel_rfl) (by kernel_rfl) (by kernel_rfl) hPF rfl (fun w' => by (go_simp; try with_reducible rfl)) hHeld (fun hHeld => ?_)
      simp only [Act.put, List.setIfInBounds_toArray, List.set_cons_zero, List.set_cons_succ]
      refine tkL 6 (.some 35) _ rfl rfl 36 (.tmp 34) rfl b (o + k * 51 + 33) [B a0, B a1, B a2, B a3, B a4, B a5, B a6, B a7, B a8, B a9, B a10, B a11, B a12, B a13, B a14, B a15] _ (by kernel_rfl) (by kernel_rfl) (by kernel_rfl) (by kernel_rfl) (by kernel_rfl) hPF rfl rfl (fun w' hw' => Hrgi.out _ hw') under54 rfl hszi hHeld (fun hHeld => ?_)
      simp only [Act.put, List.setIfInBounds_toArray, List.set_cons_zero, List.set_cons_succ]
      refine tkB 8 (.some 37) _ _ rfl rfl (by kernel_rfl) (by kernel_rfl) (by kernel_rfl) (by kernel_rfl) hPF rfl (fun w' => by (go_simp; try with_reducible rfl)) hHeld (fun hHeld => ?_)
      simp only [Act.put, List.setIfInBounds_toArray, List.set_cons_zero, List.set_cons_succ]
      refine tkB 9 (.some 38) _ _ rfl rfl (by kernel_rfl) (by kernel_rfl) (by kernel_rfl) (by kernel_rfl) hPF rfl (fun w' => by (go_simp; try with_reducible rfl)) hHeld (fun hHeld => ?_)
      simp only [Act.put, List.setIfInBounds_toArray, List.set_cons_zero, List.set_cons_succ]
      refine tkB 10 (.some 39) _ _ rfl rfl (by kernel_rfl) (by kernel_rfl) (by kernel_rfl) (by kernel_rfl) hPF rfl (fun w' => by (go_simp; try with_reducible rfl)) hHeld (fun hHeld => ?_)
      simp only [Act.put, List.setIfInBounds_toArray, List.set_cons_zero, List.set_cons_succ]
      refine tkB 11 (.some 40) _ _ rfl rfl (by kernel_rfl) (by kernel_rfl) (by kernel_rfl) (by kernel_rfl) hPF rfl (fun w' => by (go_simp; try with_reducible rfl)) hHeld (fun hHeld => ?_)
      simp only [Act.put, List.setIfInBounds_toArray, List.set_cons_zero, List.set_cons_succ]
      refine tkA 12 (.some 41) _ _ rfl rfl (by kernel_rfl) (by kernel_rfl) (by kernel_rfl) (by kernel_rfl) (by kernel_rfl) hPF rfl (fun w' hw' => by (have h1 := H50b.out _ hw'; go_simp; try with_reducible rfl)) hHeld (fun hHeld => ?_)
      simp only [Act.put, List.setIfInBounds_toArray, List.set_cons_zero, List.set_cons_succ]
      have hS := hHeld (by kernel_rfl)
      refine tkW (rs := [7]) (by kernel_rfl) (by simp) (AllK.cons (o := _) rfl (fun KC hKC => ?_) AllK.nil)
      go_simp
      have h7 := hS.alloc hS.size (.cells #[] 5)
      have hbm := hrb.below h7
      have hmade : OwnR w3.heap.size (w3.alloc (.cells #[] 5)).drew (.slice (some ⟨w3.heap.size, 0, none⟩) 0 0) [] := (OwnR.made w3).drew
      refine hKC.out _ _ (h7) (fun hHeld => ?_)
      clear hKC KC
      try simp only [Act.put, List.setIfInBounds_toArray, List.set_cons_zero, List.set_cons_succ]
      have hS := hHeld (by kernel_rfl)
      refine tkW (rs := [13]) (by kernel_rfl) (by simp) (AllK.cons (o := _) rfl (fun KC hKC => ?_) AllK.nil)
      refine wantIt rfl (wp_add (.some 42) rfl (.tmp 36) (.tmp 41) rfl w3.heap.size _ _ rfl hmade pk bk ck x.b rfl hbm Hbk.out (by simp; omega) h7.size ?_)
      intro v5 w5 hown5 hgrow5 _
      have h13 : Below w3.heap.size w3 w5 := h7.grown hgrow5 h7.size (fun j e => (hmade.lt j e).1)
      rw [List.nil_append] at hown5
      have hl5 := fun j => OwnR.lt hown5 j
      obtain ⟨p5, c5, rfl, hc5, hr5⟩ := hown5.row
      rw [Hbk.out] at hc5 ⊢
      refine hKC.out _ _ (h13) (fun hHeld => ?_)
      clear hKC KC
      try simp only [Act.put, List.setIfInBounds_toArray, List.set_cons_zero, List.set_cons_succ]
      refine tkB 14 (.some 43) _ _ rfl rfl (by kernel_rfl) (by kernel_rfl) (by kernel_rfl) (by kernel_rfl) hPF rfl (fun w' => by (go_simp; try with_reducible rfl)) hHeld (fun hHeld => ?_)
      simp only [Act.put, List.setIfInBounds_toArray, List.set_cons_zero, List.set_cons_succ]
      have hS := hHeld (by kernel_rfl)
      refine tkW (rs := [15]) (by kernel_rfl) (by simp) (AllK.cons (o := _) rfl (fun KC hKC => ?_) AllK.nil)
      go_simp
      have hnc : ctrc ⟨kb, rkT x, x.iv, p5, x.b, c5⟩ = [.pointer (some ⟨kb, 0, none⟩), B a0, B a1, B a2, B a3, B a4, B a5, B a6, B a7, B a8, B a9, B a10, B a11, B a12, B a13, B a14, B a15, .slice p5 bk c5] := by unfold ctrc; rw [Hiv.out, Hbk.out]; rfl
      have h15 := h13.alloc h13.size (.cells (ctrc ⟨kb, rkT x, x.iv, p5, x.b, c5⟩).toArray tCtr)
      rw [hnc] at h15
      refine hKC.out _ _ (h15) (fun hHeld => ?_)
      clear hKC KC
      try simp only [Act.put, List.setIfInBounds_toArray, List.set_cons_zero, List.set_cons_succ]
      refine tkW (rs := [16]) (by kernel_rfl) (by simp) (AllK.close (o := _) rfl (by kernel_rfl) (fun KC hKC => ?_) AllK.nil)
      refine wantIt rfl (wp_append_own (.some 45) rfl (.tmp 29) (.tmp 44) 24 rfl w.heap.size tCtr i0 _ 18 48 underCtrs Hi0.out Hz0.out Hs0.out Hb0.out rfl (by decide) u4 k _ rfl (owns_below Hown3.out h15) ⟨w5.heap.size, 0, none⟩ 1 1 (ctrc ⟨kb, rkT x, x.iv, p5, x.b, c5⟩) rfl (by rw [hnc]; rfl) (fun a u hu => by rw [Addr.add_mid]; rw [hnc] at hu; exact (Blk.new w5 [.pointer (some ⟨kb, 0, none⟩), B a0, B a1, B a2, B a3, B a4, B a5, B a6, B a7, B a8, B a9, B a10, B a11, B a12, B a13, B a14, B a15, .slice p5 bk c5] tCtr).whole a u hu) (by rw [hnc]; exact List.all_eq_true.1 rfl) (by unfold maxLen; omega) (by omega) (Nat.le_trans hBw.size h15.size) ?_)
      intro v6 w6 hown6 hgrow6 hwhich
      have h5a : Below w5.heap.size w5 (w5.alloc (.cells [.pointer (some ⟨kb, 0, none⟩), B a0, B a1, B a2, B a3, B a4, B a5, B a6, B a7, B a8, B a9, B a10, B a11, B a12, B a13, B a14, B a15, .slice p5 bk c5].toArray tCtr)) := (Below.refl _ _).alloc (Nat.le_refl _) _
      have hBa := hBw.trans (h15.mono hBw.size)
      have hB6 := hBa.grown hgrow6 hBa.size (fun j e => (World.ownsRow.lt Hown.out j e).1)
      have h3a := hS3.trans (h15.mono hS3.size)
      have hlt4 : ∀ j, u4.ownBlock = some j → j < wr.heap.size := fun j e => (World.ownsRow.lt Hown.out j e).2
      have hs6 := hgrow6.size
      have hg6 := hgrow6.block
      generalize w5.alloc (.cells [.pointer (some ⟨kb, 0, none⟩), B a0, B a1, B a2, B a3, B a4, B a5, B a6, B a7, B a8, B a9, B a10, B a11, B a12, B a13, B a14, B a15, .slice p5 bk c5].toArray tCtr) = wa at *
      have hsa := h3a.size
      have hs35 := h13.size
      have hs3 := hS3.size
      have hs5a := h5a.size
      have hoff6 : ∀ b, b < wa.heap.size → u4.ownBlock ≠ some b → v6.ownBlock ≠ some b := fun b hb hne e => by
        rcases hwhich with h | h
        · rw [h] at e; exact hne e
        · rw [h] at e
          have e : wa.heap.size = b := Option.some.inj e
          omega
      have hold : ∀ y ∈ cs, CtrOff w6 v6 y := fun y hy w' hs hw => Hco.out y hy w' (by omega) (fun b hb hne => by
        have h1 : wa.heap[b]? = wr.heap[b]? := h3a.block b hb
        have h2 : w6.heap[b]? = wa.heap[b]? := hg6 b (by omega) (fun e => hne e.symm)
        rw [hw b (by omega) (hoff6 b (by omega) hne), h2, h1])
      have hnew : CtrOff w6 v6 ⟨kb, rkT x, x.iv, p5, x.b, c5⟩ := fun w' hs hw => by
        have hag : ∀ b, wr.heap.size ≤ b → b < wa.heap.size → w'.heap[b]? = wa.heap[b]? := fun b h1 h2 => by
          have hne : u4.ownBlock ≠ some b := fun e => by have := hlt4 b e; omega
          rw [hw b (by omega) (hoff6 b h2 hne), hg6 b h2 (fun e => hne e.symm)]
        have hbl : ∀ b cs T, wr.heap.size ≤ b → Blk w3 b cs T → Blk w' b cs T := fun b cs T h1 h2 => by
          have h3 := h2.below h15 h2.lt
          have := h3.lt
          unfold Blk at h3 ⊢
          rw [hag b h1 this]; exact h3
        obtain ⟨k0, tb, wb, m, cp, ex, k1, k2, k3, k4, k5, k6, k7⟩ := hK3
        refine ⟨⟨tb, wb, m, cp, ex, hbl kb _ _ (by omega) k3, hbl _ _ _ (by omega) k4, hbl _ _ _ (by omega) k5, k6, k7⟩, rkT_len Tk.out, Tk.out.iv, fun i hi => ?_, by rw [Hbk.out]; exact hc5⟩
        obtain ⟨b', o', e, h1, h2⟩ := hr5 i hi
        obtain ⟨g1, _⟩ := hl5 b' (by rw [e]; rfl)
        refine ⟨b', o', e, by omega, ?_⟩
        rw [← h2]
        have h3 : wa.heap[b']? = w5.heap[b']? := h5a.block b' h1
        simp [World.cell?, hag b' (by omega) (by omega), h3]
      clear hg6 h5a
      refine hKC.out _ _ (fun hHeld => ?_)
      clear hKC KC
      try simp only [Act.put, List.setIfInBounds_toArray, List.set_cons_zero, List.set_cons_succ]
      refine tkB 17 (.some 4) _ _ rfl rfl (by kernel_rfl) (by kernel_rfl) (by kernel_rfl) (by kernel_rfl) hPF rfl (fun w' => by (go_simp; try with_reducible rfl)) hHeld (fun hHeld => ?_)
      simp only [Act.put, List.setIfInBounds_toArray, List.set_cons_zero, List.set_cons_succ]
      refine tkD (by kernel_rfl) ?_ _
      clear hB
      go_wp2_with fail
      go_roundw
      case rel =>
        refine ⟨k + 1, cs ++ [⟨kb, rkT x, x.iv, p5, x.b, c5⟩], by omega, by go_num, by rw [List.length_append, Hcl.out]; rfl, fun j h h' => ?_, fun y hy => ?_, ?_, hB6⟩
        · by_cases hj : j < cs.length
          · rw [List.getElem_append_left hj]; exact Hcf.out j hj h'
          · have hjk : j = k := by rw [List.length_append, Hcl.out] at h; rw [Hcl.out] at hj; simp at h; omega
            subst hjk
            rw [List.getElem_append_right (by omega)]
            simp only [Hcl.out, Nat.sub_self, List.getElem_cons_zero]
            rw [Hx.out]
            exact ⟨rfl, rfl, rfl⟩
        · rcases List.mem_append.1 hy with h | h
          · exact hold y h
          · obtain rfl := List.mem_singleton.1 h
            exact hnew
        · unfold ctrsc; rw [List.flatMap_append]
          simpa [ctrsc] using hown6
      case measure => (simp [intOf]; try omega)
    · have hke : k = n := by omega
      have q1 : ¬ ((k : Int) < (n : Int)) := by omega
      have hown := Hown.out
      have hcl := Hcl.out
      rw [hke] at hown hcl
      have Hown2 := hid hown
      have Hcl2 := hid hcl
      clear hke hown hcl
      go_wp2_with fail
      go_ret2
      exact ⟨_, rfl, cs, Hcl2.out, Hcf.out, Hco.out, Hown2.out, hB⟩
end Go.Proofs.Ytgellbapbphnlaa
