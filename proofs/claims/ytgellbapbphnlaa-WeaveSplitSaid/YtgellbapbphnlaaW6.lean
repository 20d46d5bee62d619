/- weave: what CTR hands to woven -/
import Derived.Test.YtgellbapbphnlaaW4
import Derived.Test.YtgellbapbphnlaaBg
namespace Go.Proofs.Ytgellbapbphnlaa
open Go.RowKit

abbrev tCtr : TypeId := 45
theorem ctrc_at {w : World} {x : CtrV} (h : CtrOk w x) : (ctrc x)[0]? = some (.pointer (some ⟨x.kb, 0, none⟩)) ∧ (ctrc x)[17]? = some (.slice x.pa x.b.length x.cap) := by
  unfold ctrc
  refine ⟨rfl, ?_⟩
  rw [List.getElem?_append_right (by simp [bys, h.iv])]
  simp [bys, h.iv]
theorem rangeAt_part {w : World} {b o : Nat} {A X C : List Value} (h : w.rangeAt b o (A ++ X ++ C)) : w.rangeAt b (o + A.length) X := fun j v hv => by
  have hj : j < X.length := by
    rcases Nat.lt_or_ge j X.length with q | q
    · exact q
    · rw [List.getElem?_eq_none q] at hv; cases hv
  have := h (A.length + j) v (by rw [List.append_assoc, List.getElem?_append_right (by omega), List.getElem?_append_left (by omega), ← hv]; congr 1; omega)
  rw [Nat.add_assoc]; exact this
theorem ctrc_iv {w : World} {b : Nat} {x : CtrV} {T : TypeId} (h : Blk w b (ctrc x) T) : w.rangeAt b 1 (bys x.iv) := rangeAt_part (A := [.pointer (some ⟨x.kb, 0, none⟩)]) (C := [.slice x.pa x.b.length x.cap]) h.whole

set_option maxRecDepth 100000 in
set_option maxHeartbeats 1000000 in
theorem ctr1_any (w wx : World) (x : CtrV) (hx : CtrOk wx x) :
    Calls Try.prog 42 #[.agg (ctrc x).toArray] w fun e w' => e = .returned (.slice x.pa x.b.length x.cap) ∧ Below w.heap.size w w' := by
  have h0 := Blk.new w (ctrc x) tCtr
  have hB0 : Below w.heap.size w (w.alloc (.cells (ctrc x).toArray tCtr)) := (Below.refl _ _).alloc (Nat.le_refl _) _
  have c := h0.cell 17
  rw [(ctrc_at hx).2] at c
  obtain ⟨cs, hcs⟩ : ∃ cs, ctrc x = cs := ⟨_, rfl⟩
  rw [hcs] at c h0 hB0 ⊢
  generalize x.pa = pa at *
  generalize x.b.length = n at *
  generalize x.cap = cap at *
  clear hcs hx
  go_enter Try.func42, Try.ntmps42
  go_wp2_with fail
  go_ret
  exact ⟨rfl, hB0⟩
set_option maxRecDepth 100000 in
set_option maxHeartbeats 4000000 in
theorem ctr2_any (w : World) (x : CtrV) (hx : CtrOk w x) (n : Nat) (h9 : n < 1000000) :
    Calls Try.prog 43 #[.agg (ctrc x).toArray, .int .i64 n] w fun e w' => ∃ g, e = .returned (.slice (some ⟨g, 0, none⟩) 16 16) ∧ w.heap.size ≤ g ∧ Blk w' g (bys (enc x.rk (cnt x.iv n))) tA16 ∧ Below w.heap.size w w' := by
  have h0 := Blk.new w (ctrc x) tCtr
  have hB0 : Below w.heap.size w (w.alloc (.cells (ctrc x).toArray tCtr)) := (Below.refl _ _).alloc (Nat.le_refl _) _
  have hk0 := hx.keys.below hB0
  have hc0 := (ctrc_at hx).1
  have hiv : ∀ w', Blk w' w.heap.size (ctrc x) tCtr → w'.rangeAt w.heap.size 1 (bys x.iv) := fun w' h => ctrc_iv h
  have hil := hx.iv
  have hcl := cnt_len x.iv n
  have hel : (enc x.rk (cnt x.iv n)).length = 16 := by unfold enc; exact encTo_len _ _ _ _ hx.rounds hcl
  obtain ⟨cs, hcs⟩ : ∃ cs, ctrc x = cs := ⟨_, rfl⟩
  rw [hcs] at hc0 hiv h0 hB0 hk0 ⊢
  generalize x.kb = kb at *
  generalize x.rk = rk at *
  generalize x.iv = iv at *
  obtain ⟨X, hX⟩ : ∃ X, cnt iv n = X := ⟨_, rfl⟩
  rw [hX] at hcl hel ⊢
  obtain ⟨EC, hEC⟩ : ∃ EC, enc rk X = EC := ⟨_, rfl⟩
  rw [hEC] at hel ⊢
  have hszi : (Try.prog.info? 36).map (·.size) = some (bys iv).length := by rw [size54, bys_length, hil]
  have Hiv := hid hiv
  have Hc0 := hid hc0
  have Hil := hid hil
  have Hcl := hid hcl
  have Hel := hid hel
  have HX := hid hX
  have HEC := hid hEC
  have hnw : IntKind.u64.wrap (n : Int) = (n : Int) := by rw [IntKind.wrap_u64]; omega
  clear hx hcs hiv hc0 hil hcl hel hX hEC
  go_enter Try.func43, Try.ntmps43
  go_upto_region 1 with fail
  change Code.wp _ _ _ _ (w.alloc (.cells cs.toArray tCtr))
  obtain ⟨bx, hbx⟩ : ∃ bx, w.heap.size = bx := ⟨_, rfl⟩
  have hbW : bx ≤ (w.alloc (.cells cs.toArray tCtr)).heap.size := by simp [hbx]
  rw [hbx] at h0 Hiv hB0 ⊢
  generalize w.alloc (.cells cs.toArray tCtr) = W at *
  have hS : Below W.heap.size W W.drew := (Below.refl _ _).drew
  try simp only [Act.put]
  refine tkR (fun w' => Below W.heap.size W w') [] (by kernel_rfl) (fun c a d v w h => by cases d <;> exact h) (hS) (fun hPF hHeld => ?_)
  refine tkB 0 (.some 6) _ _ rfl rfl (by kernel_rfl) (by kernel_rfl) (by kernel_rfl) (by kernel_rfl) hPF rfl (fun w' => by (go_simp; try with_reducible rfl)) hHeld (fun hHeld => ?_)
  simp only [Act.put, List.setIfInBounds_toArray, List.set_cons_zero, List.set_cons_succ]
  refine tkA 1 (.some 7) _ _ rfl rfl (by kernel_rfl) (by kernel_rfl) (by kernel_rfl) (by kernel_rfl) (by kernel_rfl) hPF rfl (fun w' hw' => by (have h1 := (h0.below hw' h0.lt).cell 0; rw [Hc0.out] at h1; go_simp; try with_reducible rfl)) hHeld (fun hHeld => ?_)
  simp only [Act.put, List.setIfInBounds_toArray, List.set_cons_zero, List.set_cons_succ]
  refine tkB 2 (.some 8) _ _ rfl rfl (by kernel_rfl) (by kernel_rfl) (by kernel_rfl) (by kernel_rfl) hPF rfl (fun w' => by (go_simp; try with_reducible rfl)) hHeld (fun hHeld => ?_)
  simp only [Act.put, List.setIfInBounds_toArray, List.set_cons_zero, List.set_cons_succ]
  refine tkL 3 (.some 9) _ rfl rfl 36 (.tmp 8) rfl bx 1 (bys iv) _ (by kernel_rfl) (by kernel_rfl) (by kernel_rfl) (by kernel_rfl) (by kernel_rfl) hPF rfl rfl (fun w' hw' => Hiv.out _ (h0.below hw' h0.lt)) under54 rfl hszi hHeld (fun hHeld => ?_)
  simp only [Act.put, List.setIfInBounds_toArray, List.set_cons_zero, List.set_cons_succ]
  refine tkB 4 (.some 10) _ _ rfl rfl (by kernel_rfl) (by kernel_rfl) (by kernel_rfl) (by kernel_rfl) hPF rfl (fun w' => by (go_simp; try with_reducible rfl)) hHeld (fun hHeld => ?_)
  simp only [Act.put, List.setIfInBounds_toArray, List.set_cons_zero, List.set_cons_succ]
  refine tkB 5 (.some 11) _ _ rfl rfl (by kernel_rfl) (by kernel_rfl) (by kernel_rfl) (by kernel_rfl) hPF rfl (fun w' => by (go_simp; try with_reducible rfl)) hHeld (fun hHeld => ?_)
  simp only [Act.put, List.setIfInBounds_toArray, List.set_cons_zero, List.set_cons_succ]
  have hS := hHeld (by kernel_rfl)
  refine tkW (rs := [6, 8]) (by kernel_rfl) (by simp) (AllK.cons (o := _) rfl (fun KC hKC => ?_) (AllK.cons (o := _) rfl (fun KC hKC => ?_) AllK.nil))
  ·
    go_simp
    refine (count_any _ iv n Hil.out (by omega)).mono ?_
    rw [HX.out]
    rintro e w7 ⟨rfl, hB7⟩
    have hS := hS.trans (hB7.mono hS.size)
    clear hB7
    refine hKC.out _ _ (hS) (fun hHeld => ?_)
    clear hKC KC
    try simp only [Act.put, List.setIfInBounds_toArray, List.set_cons_zero, List.set_cons_succ]
    have hS := hHeld (by kernel_rfl)
    refine tkW (rs := [7, 8]) (by kernel_rfl) (by simp) (AllK.cons (o := _) rfl (fun KC hKC => ?_) (AllK.cons (o := _) rfl (fun KC hKC => ?_) AllK.nil))
    ·
      go_simp
      refine (enc_any _ kb rk X (hk0.below hS) Hcl.out).mono ?_
      rw [HEC.out]
      rintro e w8 ⟨rfl, hB8⟩
      have hS := hS.trans (hB8.mono hS.size)
      clear hB8
      refine hKC.out _ _ (hS) (fun hHeld => ?_)
      clear hKC KC
      try simp only [Act.put, List.setIfInBounds_toArray, List.set_cons_zero, List.set_cons_succ]
      have hS := hHeld (by kernel_rfl)
      refine tkW (rs := [8]) (by kernel_rfl) (by simp) (AllK.cons (o := _) rfl (fun KC hKC => ?_) AllK.nil)
      go_simp
      have hA : Blk (World.alloc w8 (.cells (bys z16).toArray tA16)) w8.heap.size (bys z16) tA16 := Blk.new w8 _ _
      have hsb : W.heap.size ≤ w8.heap.size := hS.size
      have hBn : Below w8.heap.size w8 (World.alloc w8 (.cells (bys z16).toArray tA16)) := (Below.refl _ _).alloc (Nat.le_refl _) _
      change KC _ (World.alloc w8 (.cells (bys z16).toArray tA16))
      have hS := hS.trans (hBn.mono hS.size)
      generalize World.alloc w8 (.cells (bys z16).toArray tA16) = wa at *
      clear hBn
      refine hKC.out _ _ (hS) (fun hHeld => ?_)
      clear hKC KC
      try simp only [Act.put, List.setIfInBounds_toArray, List.set_cons_zero, List.set_cons_succ]
      have hS := hHeld (by kernel_rfl)
      refine tkW (rs := [9]) (by kernel_rfl) (by simp) (AllK.cons (o := _) rfl (fun KC hKC => ?_) AllK.nil)
      refine wantIt rfl (wp_storeD none rfl 36 (.tmp 5) (.tmp 13) rfl w8.heap.size 0 (bys EC).toArray rfl rfl (hA.there 0 _ (by rw [List.size_toArray, bys_length, bys_length, Hel.out]; decide)) (by rw [size54, List.size_toArray, bys_length, Hel.out]) (all_oneCell_toArray (bys_one _)) ?_)
      have hA10 := hA.setCells (bys EC) 0 (by rw [bys_length, bys_length, Hel.out]; decide)
      rw [splice_whole _ _ (by rw [bys_length, bys_length, Hel.out]; rfl)] at hA10
      have hS10 := hS.trans (((Chg.refl W.heap.size [] wa).setCells (b := w8.heap.size) (.inr hsb) (bys EC) 0).below (Nat.le_refl _) (by simp))
      refine hKC.out _ _ (hS10) (fun hHeld => ?_)
      clear hKC KC
      try simp only [Act.put]
      refine tkD (by kernel_rfl) ?_ _
      change Exit.then _ _ _ _ (wa.setCells w8.heap.size 0 (bys EC))
      generalize wa.setCells w8.heap.size 0 (bys EC) = W2 at *
      generalize w8.heap.size = sb at *
      go_wp2_with fail
      go_ret
      exact ⟨sb, rfl, by rw [hbx]; exact Nat.le_trans hbW hsb, hA10, by rw [hbx]; exact hB0.trans (hS10.mono hbW)⟩
    ·
      go_simp
      have hA : Blk (World.alloc w7 (.cells (bys z16).toArray tA16)) w7.heap.size (bys z16) tA16 := Blk.new w7 _ _
      have hsb : W.heap.size ≤ w7.heap.size := hS.size
      have hBn : Below w7.heap.size w7 (World.alloc w7 (.cells (bys z16).toArray tA16)) := (Below.refl _ _).alloc (Nat.le_refl _) _
      change KC _ (World.alloc w7 (.cells (bys z16).toArray tA16))
      have hS := hS.trans (hBn.mono hS.size)
      generalize World.alloc w7 (.cells (bys z16).toArray tA16) = wa at *
      clear hBn
      refine hKC.out _ _ (hS) (fun hHeld => ?_)
      clear hKC KC
      try simp only [Act.put, List.setIfInBounds_toArray, List.set_cons_zero, List.set_cons_succ]
      have hS := hHeld (by kernel_rfl)
      refine tkW (rs := [7]) (by kernel_rfl) (by simp) (AllK.cons (o := _) rfl (fun KC hKC => ?_) AllK.nil)
      go_simp
      refine (enc_any _ kb rk X (hk0.below hS) Hcl.out).mono ?_
      rw [HEC.out]
      rintro e w8 ⟨rfl, hB8⟩
      have hS := hS.trans (hB8.mono hS.size)
      have hA := hA.below hB8 hA.lt
      clear hB8
      refine hKC.out _ _ (hS) (fun hHeld => ?_)
      clear hKC KC
      try simp only [Act.put, List.setIfInBounds_toArray, List.set_cons_zero, List.set_cons_succ]
      have hS := hHeld (by kernel_rfl)
      refine tkW (rs := [9]) (by kernel_rfl) (by simp) (AllK.cons (o := _) rfl (fun KC hKC => ?_) AllK.nil)
      refine wantIt rfl (wp_storeD none rfl 36 (.tmp 5) (.tmp 13) rfl w7.heap.size 0 (bys EC).toArray rfl rfl (hA.there 0 _ (by rw [List.size_toArray, bys_length, bys_length, Hel.out]; decide)) (by rw [size54, List.size_toArray, bys_length, Hel.out]) (all_oneCell_toArray (bys_one _)) ?_)
      have hA10 := hA.setCells (bys EC) 0 (by rw [bys_length, bys_length, Hel.out]; decide)
      rw [splice_whole _ _ (by rw [bys_length, bys_length, Hel.out]; rfl)] at hA10
      have hS10 := hS.trans (((Chg.refl W.heap.size [] w8).setCells (b := w7.heap.size) (.inr hsb) (bys EC) 0).below (Nat.le_refl _) (by simp))
      refine hKC.out _ _ (hS10) (fun hHeld => ?_)
      clear hKC KC
      try simp only [Act.put]
      refine tkD (by kernel_rfl) ?_ _
      change Exit.then _ _ _ _ (w8.setCells w7.heap.size 0 (bys EC))
      generalize w8.setCells w7.heap.size 0 (bys EC) = W2 at *
      generalize w7.heap.size = sb at *
      go_wp2_with fail
      go_ret
      exact ⟨sb, rfl, by rw [hbx]; exact Nat.le_trans hbW hsb, hA10, by rw [hbx]; exact hB0.trans (hS10.mono hbW)⟩
  ·
    go_simp
    have hA : Blk (World.alloc W.drew (.cells (bys z16).toArray tA16)) W.heap.size (bys z16) tA16 := Blk.new W.drew _ _
    have hsb : W.heap.size ≤ W.heap.size := hS.size
    have hBn : Below W.drew.heap.size W.drew (World.alloc W.drew (.cells (bys z16).toArray tA16)) := (Below.refl _ _).alloc (Nat.le_refl _) _
    change KC _ (World.alloc W.drew (.cells (bys z16).toArray tA16))
    have hS := hS.trans (hBn.mono hS.size)
    generalize World.alloc W.drew (.cells (bys z16).toArray tA16) = wa at *
    clear hBn
    refine hKC.out _ _ (hS) (fun hHeld => ?_)
    clear hKC KC
    try simp only [Act.put, List.setIfInBounds_toArray, List.set_cons_zero, List.set_cons_succ]
    have hS := hHeld (by kernel_rfl)
    refine tkW (rs := [6]) (by kernel_rfl) (by simp) (AllK.cons (o := _) rfl (fun KC hKC => ?_) AllK.nil)
    go_simp
    refine (count_any _ iv n Hil.out (by omega)).mono ?_
    rw [HX.out]
    rintro e w7 ⟨rfl, hB7⟩
    have hS := hS.trans (hB7.mono hS.size)
    have hA := hA.below hB7 hA.lt
    clear hB7
    refine hKC.out _ _ (hS) (fun hHeld => ?_)
    clear hKC KC
    try simp only [Act.put, List.setIfInBounds_toArray, List.set_cons_zero, List.set_cons_succ]
    have hS := hHeld (by kernel_rfl)
    refine tkW (rs := [7]) (by kernel_rfl) (by simp) (AllK.cons (o := _) rfl (fun KC hKC => ?_) AllK.nil)
    go_simp
    refine (enc_any _ kb rk X (hk0.below hS) Hcl.out).mono ?_
    rw [HEC.out]
    rintro e w8 ⟨rfl, hB8⟩
    have hS := hS.trans (hB8.mono hS.size)
    have hA := hA.below hB8 hA.lt
    clear hB8
    refine hKC.out _ _ (hS) (fun hHeld => ?_)
    clear hKC KC
    try simp only [Act.put, List.setIfInBounds_toArray, List.set_cons_zero, List.set_cons_succ]
    have hS := hHeld (by kernel_rfl)
    refine tkW (rs := [9]) (by kernel_rfl) (by simp) (AllK.cons (o := _) rfl (fun KC hKC => ?_) AllK.nil)
    refine wantIt rfl (wp_storeD none rfl 36 (.tmp 5) (.tmp 13) rfl W.heap.size 0 (bys EC).toArray rfl rfl (hA.there 0 _ (by rw [List.size_toArray, bys_length, bys_length, Hel.out]; decide)) (by rw [size54, List.size_toArray, bys_length, Hel.out]) (all_oneCell_toArray (bys_one _)) ?_)
    have hA10 := hA.setCells (bys EC) 0 (by rw [bys_length, bys_length, Hel.out]; decide)
    rw [splice_whole _ _ (by rw [bys_length, bys_length, Hel.out]; rfl)] at hA10
    have hS10 := hS.trans (((Chg.refl W.heap.size [] w8).setCells (b := W.heap.size) (.inr hsb) (bys EC) 0).below (Nat.le_refl _) (by simp))
    refine hKC.out _ _ (hS10) (fun hHeld => ?_)
    clear hKC KC
    try simp only [Act.put]
    refine tkD (by kernel_rfl) ?_ _
    change Exit.then _ _ _ _ (w8.setCells W.heap.size 0 (bys EC))
    generalize w8.setCells W.heap.size 0 (bys EC) = W2 at *
    generalize W.heap.size = sb at *
    go_wp2_with fail
    go_ret
    exact ⟨sb, rfl, by rw [hbx]; exact Nat.le_trans hbW hsb, hA10, by rw [hbx]; exact hB0.trans (hS10.mono hbW)⟩
end Go.Proofs.Ytgellbapbphnlaa
