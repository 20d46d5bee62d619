/- weave: CTR; the example -/
import Derived.Test.YtgellbapbphnlaaWv
import Derived.Test.YtgellbapbphnlaaSt
namespace Go.Proofs.Ytgellbapbphnlaa
open Go.RowKit

theorem flat_get {α : Type} (f : α → List Value) (m : Nat) : ∀ (l : List α), (∀ x ∈ l, (f x).length = m) → ∀ k (hk : k < l.length) j, j < m → (l.flatMap f)[k * m + j]? = (f l[k])[j]?
  | [], _, k, hk, _, _ => by simp at hk
  | x :: l, h, k, hk, j, hj => by
    have hx := h x (by simp)
    rw [List.flatMap_cons]
    cases k with
    | zero => rw [Nat.zero_mul, Nat.zero_add, List.getElem?_append_left (by rw [hx]; exact hj)]; rfl
    | succ k =>
      rw [Nat.succ_mul, List.getElem?_append_right (by rw [hx]; omega), hx, show k * m + m + j - m = k * m + j by omega]
      exact flat_get f m l (fun y hy => h y (by simp [hy])) k (by simpa using hk) j hj
theorem flat_len {α : Type} (f : α → List Value) (m : Nat) : ∀ (l : List α), (∀ x ∈ l, (f x).length = m) → (l.flatMap f).length = l.length * m
  | [], _ => by simp
  | x :: l, h => by
    rw [List.flatMap_cons, List.length_append, h x (by simp), flat_len f m l (fun y hy => h y (by simp [hy])), List.length_cons, Nat.succ_mul, Nat.add_comm]
theorem ctrs_of_blk {w : World} {b : Nat} {cs : List CtrV} {rest : List Value} {T : TypeId} (h : Blk w b (ctrsc cs ++ rest) T) (hok : ∀ x ∈ cs, CtrOk w x) : CtrsAt w (some ⟨b, 0, none⟩) cs := fun k hk => by
  have hl : ∀ x ∈ cs, (ctrc x).length = 18 := fun x hx => ctrc_len (hok x hx)
  refine ⟨hok _ (List.getElem_mem hk), b, 0, rfl, h.lt, fun j v hv => ?_⟩
  have hj : j < 18 := by
    rcases Nat.lt_or_ge j 18 with q | q
    · exact q
    · rw [List.getElem?_eq_none (by rw [hl _ (List.getElem_mem hk)]; exact q)] at hv; cases hv
  have h3 : k * 18 + j < cs.length * 18 := by
    have := Nat.mul_le_mul_right 18 (Nat.succ_le_of_lt hk)
    omega
  rw [h.cell, Nat.zero_add, List.getElem?_append_left (by unfold ctrsc; rw [flat_len _ 18 cs hl]; exact h3)]
  unfold ctrsc
  rw [flat_get _ 18 cs hl k hk j hj]; exact hv
theorem ctrs_of_owns {w : World} {base : Nat} {v : Value} {cs : List CtrV} {n : Nat} (h : w.ownsRow base tCtr 18 v n (ctrsc cs)) (hn : cs.length = n) (hok : ∀ x ∈ cs, CtrOk w x) : ∃ pa cap, v = .slice pa n cap ∧ n ≤ cap ∧ CtrsAt w pa cs := by
  rcases Nat.eq_zero_or_pos n with h0 | h0
  · subst h0
    obtain ⟨pa, cap, rfl⟩ := owns_zero h
    exact ⟨pa, cap, rfl, Nat.zero_le _, fun k hk => by omega⟩
  · obtain ⟨g, cap, rest, rfl, hc, _, hb⟩ := owns_blk h h0
    exact ⟨_, cap, rfl, hc, ctrs_of_blk hb hok⟩
def CF (cs : List CtrV) (k : Nat) : List UInt8 := match cs[k]? with | some x => xk (enc x.rk) x.iv 0 x.b | none => []

set_option maxRecDepth 100000 in
set_option maxHeartbeats 1000000 in
theorem ctr_any (w : World) (pa : Option Addr) (cs : List CtrV) (n cap : Nat) (hl : CtrsAt w pa cs) (hn : cs.length = n) (h9 : n ≤ 100) (hm : ∀ k (h : k < cs.length), cs[k].b.length ≤ 1000) :
    Calls Try.prog 17 #[.slice pa n cap] w fun e w' => ∃ g vs, e = .returned (.tuple #[.slice (some ⟨g, 0, none⟩) n n, .int .i64 (stepsF 16 8 (lens cs))]) ∧ w.heap.size ≤ g ∧ Blk w' g vs tBytes ∧ vs.length = n ∧
      RowsI w.heap.size w' vs (CF cs) ∧ Below w.heap.size w w' := by
  have Hc := hid (woven_any w pa cs n cap hl hn h9 hm)
  clear hl hn hm
  go_enter Try.func17, Try.ntmps17
  go_wp2_with fail
  refine Hc.out.mono ?_
  rintro e w' ⟨g, vs, rfl, h1, h2, h3, h4, h5⟩
  have h4 := h4.congr (C' := CF cs) (fun k _ => by
    unfold CF
    cases cs[k]? with
    | none => rfl
    | some x => exact xf_xk _ _ _)
  have H4 := hid h4
  obtain ⟨st, hst⟩ : ∃ st, stepsF 16 8 (lens cs) = st := ⟨_, rfl⟩
  rw [hst]
  have Hst := hid hst
  clear hst
  clear h4
  go_wp2_with fail
  go_ret2
  exact ⟨g, vs, by rw [Hst.out]; rfl, h1, h2, h3, H4.out, h5⟩

theorem make_bytes (W : World) (n : Nat) (hn : n ≤ 100000) : (Instr.makeSlice 33 (.int .i64 n) (.int .i64 n)).run Try.prog W = .ok (.slice (some ⟨W.heap.size, 0, none⟩) n n) (W.alloc (.cells (bys (List.replicate n 0)).toArray 5)) := by
  have h := run_make_row' (P := Try.prog) (w := W) 33 5 (.int .u8 0) 1 under33b info5 rfl .i64 .i64 n (by omega) (by omega)
  rw [madeCells_bys] at h; exact h
def rk0 : List UInt8 := rkOf 4 (List.replicate 16 0)
def nul70 : List UInt8 := List.replicate 70 0
def awx (kb b : Nat) : CtrV := ⟨kb, rk0, z16, some ⟨b, 0, none⟩, nul70, 70⟩
theorem awx_ok {w : World} {kb b : Nat} {T : TypeId} (hk : KeysAt w kb rk0) (hb : Blk w b (bys nul70) T) : CtrOk w (awx kb b) :=
  ⟨hk, (rkOf_len 4 (List.replicate 16 0) rfl (.inl rfl)).2, rfl, hb.rowAt0, Nat.le_refl _⟩

set_option maxRecDepth 100000 in
set_option maxHeartbeats 4000000 in
theorem awake14_any (w : World) : Calls Try.prog 22 #[] w fun e w' => e = .returned (.bool true) ∧ Below w.heap.size w w' := by
  have h0 := Blk.new w (bys (List.replicate 16 0)) tU8
  have hB0 : Below w.heap.size w (w.alloc (.cells (bys (List.replicate 16 0)).toArray tU8)) := (Below.refl _ _).alloc (Nat.le_refl _) _
  have hmk : (Instr.makeSlice 33 (.int .i64 16) (.int .i64 16)).run Try.prog w = .ok (.slice (some ⟨w.heap.size, 0, none⟩) 16 16) (w.alloc (.cells (bys (List.replicate 16 0)).toArray 5)) := make_bytes w 16 (by omega)
  go_enter Try.func22, Try.ntmps22
  go_wp2_with fail
  change Calls _ _ _ (w.alloc (.cells (bys (List.replicate 16 0)).toArray tU8)) _
  generalize w.alloc (.cells (bys (List.replicate 16 0)).toArray tU8) = w1 at *
  refine (expand_any w1 w.heap.size 0 16 16 4 (List.replicate 16 0) h0.rowAt0 rfl (.inl rfl) rfl (Nat.le_refl _)).mono ?_
  rintro e w2 ⟨kb, rfl, hK2, hB2, _⟩
  change KeysAt w2 kb rk0 at hK2
  have hB2 := hB0.trans (hB2.mono hB0.size)
  have hm7 : ∀ W : World, (Instr.makeSlice 33 (.int .i64 70) (.int .i64 70)).run Try.prog W = .ok (.slice (some ⟨W.heap.size, 0, none⟩) 70 70) (W.alloc (.cells (bys nul70).toArray 5)) := fun W => make_bytes W 70 (by omega)
  clear h0 hmk hB0
  go_upto_region 2 with fail
  have hS : Below w2.heap.size w2 w2.drew := (Below.refl _ _).drew
  try simp only [Act.put]
  refine tkR (fun w' => Below w2.heap.size w2 w') [] (by kernel_rfl) (fun c a d v w h => by cases d <;> exact h) (hS) (fun hPF hHeld => ?_)
  refine tkB 0 (.some 11) _ _ rfl rfl (by kernel_rfl) (by kernel_rfl) (by kernel_rfl) (by kernel_rfl) hPF rfl (fun w' => by (go_simp; try with_reducible rfl)) hHeld (fun hHeld => ?_)
  simp only [Act.put, List.setIfInBounds_toArray, List.set_cons_zero, List.set_cons_succ]
  refine tkB 3 (.some 14) _ _ rfl rfl (by kernel_rfl) (by kernel_rfl) (by kernel_rfl) (by kernel_rfl) hPF rfl (fun w' => by (go_simp; try with_reducible rfl)) hHeld (fun hHeld => ?_)
  simp only [Act.put, List.setIfInBounds_toArray, List.set_cons_zero, List.set_cons_succ]
  have hS := hHeld (by kernel_rfl)
  refine tkW (rs := [1, 4]) (by kernel_rfl) (by simp) (AllK.cons (o := _) rfl (fun KC hKC => ?_) (AllK.cons (o := _) rfl (fun KC hKC => ?_) AllK.nil))
  ·
    go_simp
    change KC _ (World.alloc w2.drew (.cells (bys nul70).toArray tU8))
    have hA := Blk.new w2.drew (bys nul70) tU8
    have h1 : Below w2.heap.size w2 (World.alloc w2.drew (.cells (bys nul70).toArray tU8)) := hS.alloc hS.size (.cells (bys nul70).toArray tU8)
    generalize World.alloc w2.drew (.cells (bys nul70).toArray tU8) = w3 at *
    obtain ⟨b1, hb1⟩ : ∃ b1, w2.drew.heap.size = b1 := ⟨_, rfl⟩
    have hb1' : w2.heap.size = b1 := hb1
    rw [hb1] at hA
    rw [hb1']
    refine hKC.out _ _ (h1) (fun hHeld => ?_)
    clear hKC KC
    try simp only [Act.put, List.setIfInBounds_toArray, List.set_cons_zero, List.set_cons_succ]
    refine tkB 2 (.some 13) _ _ rfl rfl (by kernel_rfl) (by kernel_rfl) (by kernel_rfl) (by kernel_rfl) hPF rfl (fun w' => by (go_simp; try with_reducible rfl)) hHeld (fun hHeld => ?_)
    simp only [Act.put, List.setIfInBounds_toArray, List.set_cons_zero, List.set_cons_succ]
    have hS := hHeld (by kernel_rfl)
    refine tkW (rs := [4]) (by kernel_rfl) (by simp) (AllK.cons (o := _) rfl (fun KC hKC => ?_) AllK.nil)
    go_simp
    change KC _ (World.alloc w3 (.cells (bys nul70).toArray tU8))
    have hC := Blk.new w3 (bys nul70) tU8
    have hA2 := hA.alloc (.cells (bys nul70).toArray tU8)
    have h2 := h1.alloc h1.size (.cells (bys nul70).toArray tU8)
    generalize World.alloc w3 (.cells (bys nul70).toArray tU8) = w4 at *
    obtain ⟨b2, hb2⟩ : ∃ b2, w3.heap.size = b2 := ⟨_, rfl⟩
    rw [hb2] at hC ⊢
    refine hKC.out _ _ (h2) (fun hHeld => ?_)
    clear hKC KC
    try simp only [Act.put, List.setIfInBounds_toArray, List.set_cons_zero, List.set_cons_succ]
    refine tkB 5 (.some 16) _ _ rfl rfl (by kernel_rfl) (by kernel_rfl) (by kernel_rfl) (by kernel_rfl) hPF rfl (fun w' => by (go_simp; try with_reducible rfl)) hHeld (fun hHeld => ?_)
    simp only [Act.put, List.setIfInBounds_toArray, List.set_cons_zero, List.set_cons_succ]
    have hS := hHeld (by kernel_rfl)
    refine tkW (rs := [6]) (by kernel_rfl) (by simp) (AllK.cons (o := _) rfl (fun KC hKC => ?_) AllK.nil)
    go_simp
    change KC _ (World.alloc w4 (.cells (ctrsc [awx kb b1, awx kb b2]).toArray tCtr))
    have hD := Blk.new w4 (ctrsc [awx kb b1, awx kb b2]) tCtr
    have hd : Below w4.heap.size w4 (World.alloc w4 (.cells (ctrsc [awx kb b1, awx kb b2]).toArray tCtr)) := (Below.refl _ _).alloc (Nat.le_refl _) _
    have h3 := h2.trans (hd.mono h2.size)
    have hA3 := hA2.below hd hA2.lt
    have hC3 := hC.below hd hC.lt
    generalize World.alloc w4 (.cells (ctrsc [awx kb b1, awx kb b2]).toArray tCtr) = w5 at *
    obtain ⟨b5, hb5⟩ : ∃ b5, w4.heap.size = b5 := ⟨_, rfl⟩
    rw [hb5] at hD ⊢
    have hat : CtrsAt w5 (some ⟨b5, 0, none⟩) [awx kb b1, awx kb b2] := ctrs_of_blk (rest := []) (by rw [List.append_nil]; exact hD) (fun x hx => by
      rcases List.mem_cons.1 hx with rfl | hx
      · exact awx_ok (hK2.below h3) hA3
      · obtain rfl := List.mem_singleton.1 hx
        exact awx_ok (hK2.below h3) hC3)
    refine hKC.out _ _ (h3) (fun hHeld => ?_)
    clear hKC KC
    try simp only [Act.put, List.setIfInBounds_toArray, List.set_cons_zero, List.set_cons_succ]
    have hS := hHeld (by kernel_rfl)
    refine tkW (rs := [7]) (by kernel_rfl) (by simp) (AllK.cons (o := _) rfl (fun KC hKC => ?_) AllK.nil)
    go_simp
    refine (ctr_any w5 _ _ 2 2 hat rfl (by omega) (fun k hk => by
      have hk : k = 0 ∨ k = 1 := by (simp at hk; omega)
      rcases hk with rfl | rfl
      · exact (by decide : (70 : Nat) ≤ 1000)
      · exact (by decide : (70 : Nat) ≤ 1000))).mono ?_
    rintro e w7 ⟨g, vs, rfl, hg7, hb7, hv7, hr7, hB7⟩
    have h7 := h3.trans (hB7.mono h3.size)
    have r0 := hr7.row 0 (by omega)
    have r1 := hr7.row 1 (by omega)
    obtain ⟨v0, v1, rfl⟩ : ∃ v0 v1, vs = [v0, v1] := by
      match vs, hv7 with
      | [v0, v1], _ => exact ⟨v0, v1, rfl⟩
    obtain ⟨X, hX⟩ : ∃ X, xk (enc rk0) z16 0 nul70 = X := ⟨_, rfl⟩
    have hXl : X.length = 70 := by rw [← hX, xk_len]; rfl
    have q0 : OwnR w5.heap.size w7 v0 X := by rw [← hX]; exact r0
    have q1 : OwnR w5.heap.size w7 v1 X := by rw [← hX]; exact r1
    clear r0 r1 hr7
    obtain ⟨p0, c0, rfl, _, t0⟩ := q0.row
    obtain ⟨p1, c1, rfl, _, t1⟩ := q1.row
    have hle : lens [awx kb b1, awx kb b2] = [70, 70] := rfl
    have hst : stepsF 16 8 (lens [awx kb b1, awx kb b2]) = 2 := by rw [hle]; decide
    rw [hst]
    have S7 : Below w2.heap.size w2 w7 := h7
    refine hKC.out _ _ (h7) (fun hHeld => ?_)
    clear hKC KC
    try simp only [Act.put, List.setIfInBounds_toArray, List.set_cons_zero, List.set_cons_succ]
    refine tkS (fun w' => Below w7.heap.size w7 w') (fun w' h => Below.trans h7 (Below.mono h (Below.size h7))) (Below.refl _ _) (fun hHeld => ?_)
    refine tkB 8 (.some 10) _ _ rfl rfl (by kernel_rfl) (by kernel_rfl) (by kernel_rfl) (by kernel_rfl) hPF rfl (fun w' => by (go_simp; try with_reducible rfl)) hHeld (fun hHeld => ?_)
    simp only [Act.put, List.setIfInBounds_toArray, List.set_cons_zero, List.set_cons_succ]
    refine tkB 9 (.some 19) _ _ rfl rfl (by kernel_rfl) (by kernel_rfl) (by kernel_rfl) (by kernel_rfl) hPF rfl (fun w' => by (go_simp; try with_reducible rfl)) hHeld (fun hHeld => ?_)
    simp only [Act.put, List.setIfInBounds_toArray, List.set_cons_zero, List.set_cons_succ]
    refine tkB 10 (.some 20) _ _ rfl rfl (by kernel_rfl) (by kernel_rfl) (by kernel_rfl) (by kernel_rfl) hPF rfl (fun w' => by (go_simp; try with_reducible rfl)) hHeld (fun hHeld => ?_)
    simp only [Act.put, List.setIfInBounds_toArray, List.set_cons_zero, List.set_cons_succ]
    refine tkB 11 (.some 3) _ _ rfl rfl (by kernel_rfl) (by kernel_rfl) (by kernel_rfl) (by kernel_rfl) hPF rfl (fun w' => by (go_simp; try with_reducible rfl)) hHeld (fun hHeld => ?_)
    simp only [Act.put, List.setIfInBounds_toArray, List.set_cons_zero, List.set_cons_succ]
    refine tkB 12 (.some 4) _ _ rfl rfl (by kernel_rfl) (by kernel_rfl) (by kernel_rfl) (by kernel_rfl) hPF rfl (fun w' => by (go_simp; try with_reducible rfl)) hHeld (fun hHeld => ?_)
    simp only [Act.put, List.setIfInBounds_toArray, List.set_cons_zero, List.set_cons_succ]
    refine tkD (by kernel_rfl) ?_ _
    clear hm7 hX
    have hBz := hB2.trans (S7.mono hB2.size)
    have c70 := hb7.cell 0
    have c71 := hb7.cell 1
    rw [hXl] at hb7
    go_upto_region 3 with fail
    try simp only [Act.put]
    refine tkR (fun w' => Below w7.heap.size w7 w') [] (by kernel_rfl) (fun c a d v w h => by cases d <;> exact h) ((Below.refl _ _).drew) (fun hPF hHeld => ?_)
    refine tkB 0 (.some 21) _ _ rfl rfl (by kernel_rfl) (by kernel_rfl) (by kernel_rfl) (by kernel_rfl) hPF rfl (fun w' => by (go_simp; try with_reducible rfl)) hHeld (fun hHeld => ?_)
    simp only [Act.put, List.setIfInBounds_toArray, List.set_cons_zero, List.set_cons_succ]
    refine tkB 1 (.some 22) _ _ rfl rfl (by kernel_rfl) (by kernel_rfl) (by kernel_rfl) (by kernel_rfl) hPF rfl (fun w' => by (go_simp; try with_reducible rfl)) hHeld (fun hHeld => ?_)
    simp only [Act.put, List.setIfInBounds_toArray, List.set_cons_zero, List.set_cons_succ]
    refine tkB 2 (.some 23) _ _ rfl rfl (by kernel_rfl) (by kernel_rfl) (by kernel_rfl) (by kernel_rfl) hPF rfl (fun w' => by (go_simp; try with_reducible rfl)) hHeld (fun hHeld => ?_)
    simp only [Act.put, List.setIfInBounds_toArray, List.set_cons_zero, List.set_cons_succ]
    refine tkB 3 (.some 24) _ _ rfl rfl (by kernel_rfl) (by kernel_rfl) (by kernel_rfl) (by kernel_rfl) hPF rfl (fun w' => by (go_simp; try with_reducible rfl)) hHeld (fun hHeld => ?_)
    simp only [Act.put, List.setIfInBounds_toArray, List.set_cons_zero, List.set_cons_succ]
    refine tkB 4 (.some 25) _ _ rfl rfl (by kernel_rfl) (by kernel_rfl) (by kernel_rfl) (by kernel_rfl) hPF rfl (fun w' => by (go_simp; try with_reducible rfl)) hHeld (fun hHeld => ?_)
    simp only [Act.put, List.setIfInBounds_toArray, List.set_cons_zero, List.set_cons_succ]
    refine tkB 5 (.some 26) _ _ rfl rfl (by kernel_rfl) (by kernel_rfl) (by kernel_rfl) (by kernel_rfl) hPF rfl (fun w' => by (go_simp; try with_reducible rfl)) hHeld (fun hHeld => ?_)
    simp only [Act.put, List.setIfInBounds_toArray, List.set_cons_zero, List.set_cons_succ]
    refine tkB 6 (.some 27) _ _ rfl rfl (by kernel_rfl) (by kernel_rfl) (by kernel_rfl) (by kernel_rfl) hPF rfl (fun w' => by (go_simp; try with_reducible rfl)) hHeld (fun hHeld => ?_)
    simp only [Act.put, List.setIfInBounds_toArray, List.set_cons_zero, List.set_cons_succ]
    refine tkB 7 (.some 28) _ _ rfl rfl (by kernel_rfl) (by kernel_rfl) (by kernel_rfl) (by kernel_rfl) hPF rfl (fun w' => by (go_simp; try with_reducible rfl)) hHeld (fun hHeld => ?_)
    simp only [Act.put, List.setIfInBounds_toArray, List.set_cons_zero, List.set_cons_succ]
    refine tkB 8 (.some 29) _ _ rfl rfl (by kernel_rfl) (by kernel_rfl) (by kernel_rfl) (by kernel_rfl) hPF rfl (fun w' => by (go_simp; try with_reducible rfl)) hHeld (fun hHeld => ?_)
    simp only [Act.put, List.setIfInBounds_toArray, List.set_cons_zero, List.set_cons_succ]
    refine tkB 9 (.some 30) _ _ rfl rfl (by kernel_rfl) (by kernel_rfl) (by kernel_rfl) (by kernel_rfl) hPF rfl (fun w' => by (go_simp; try with_reducible rfl)) hHeld (fun hHeld => ?_)
    simp only [Act.put, List.setIfInBounds_toArray, List.set_cons_zero, List.set_cons_succ]
    refine tkB 10 (.some 31) _ _ rfl rfl (by kernel_rfl) (by kernel_rfl) (by kernel_rfl) (by kernel_rfl) hPF rfl (fun w' => by (go_simp; try with_reducible rfl)) hHeld (fun hHeld => ?_)
    simp only [Act.put, List.setIfInBounds_toArray, List.set_cons_zero, List.set_cons_succ]
    refine tkB 11 (.some 32) _ _ rfl rfl (by kernel_rfl) (by kernel_rfl) (by kernel_rfl) (by kernel_rfl) hPF rfl (fun w' => by (go_simp; try with_reducible rfl)) hHeld (fun hHeld => ?_)
    simp only [Act.put, List.setIfInBounds_toArray, List.set_cons_zero, List.set_cons_succ]
    refine tkB 12 (.some 33) _ _ rfl rfl (by kernel_rfl) (by kernel_rfl) (by kernel_rfl) (by kernel_rfl) hPF rfl (fun w' => by (go_simp; try with_reducible rfl)) hHeld (fun hHeld => ?_)
    simp only [Act.put, List.setIfInBounds_toArray, List.set_cons_zero, List.set_cons_succ]
    refine tkB 13 (.some 34) _ _ rfl rfl (by kernel_rfl) (by kernel_rfl) (by kernel_rfl) (by kernel_rfl) hPF rfl (fun w' => by (go_simp; try with_reducible rfl)) hHeld (fun hHeld => ?_)
    simp only [Act.put, List.setIfInBounds_toArray, List.set_cons_zero, List.set_cons_succ]
    refine tkA 14 (.some 35) _ _ rfl rfl (by kernel_rfl) (by kernel_rfl) (by kernel_rfl) (by kernel_rfl) (by kernel_rfl) hPF rfl (fun w' hw' => by (have h1 := (hb7.below hw' hb7.lt).cell 0; go_simp; try with_reducible rfl)) hHeld (fun hHeld => ?_)
    simp only [Act.put, List.setIfInBounds_toArray, List.set_cons_zero, List.set_cons_succ]
    refine tkB 15 (.some 36) _ _ rfl rfl (by kernel_rfl) (by kernel_rfl) (by kernel_rfl) (by kernel_rfl) hPF rfl (fun w' => by (go_simp; try with_reducible rfl)) hHeld (fun hHeld => ?_)
    simp only [Act.put, List.setIfInBounds_toArray, List.set_cons_zero, List.set_cons_succ]
    refine tkB 16 (.some 37) _ _ rfl rfl (by kernel_rfl) (by kernel_rfl) (by kernel_rfl) (by kernel_rfl) hPF rfl (fun w' => by (go_simp; try with_reducible rfl)) hHeld (fun hHeld => ?_)
    simp only [Act.put, List.setIfInBounds_toArray, List.set_cons_zero, List.set_cons_succ]
    refine tkB 17 (.some 38) _ _ rfl rfl (by kernel_rfl) (by kernel_rfl) (by kernel_rfl) (by kernel_rfl) hPF rfl (fun w' => by (go_simp; try with_reducible rfl)) hHeld (fun hHeld => ?_)
    simp only [Act.put, List.setIfInBounds_toArray, List.set_cons_zero, List.set_cons_succ]
    refine tkB 18 (.some 39) _ _ rfl rfl (by kernel_rfl) (by kernel_rfl) (by kernel_rfl) (by kernel_rfl) hPF rfl (fun w' => by (go_simp; try with_reducible rfl)) hHeld (fun hHeld => ?_)
    simp only [Act.put, List.setIfInBounds_toArray, List.set_cons_zero, List.set_cons_succ]
    refine tkB 19 (.some 40) _ _ rfl rfl (by kernel_rfl) (by kernel_rfl) (by kernel_rfl) (by kernel_rfl) hPF rfl (fun w' => by (go_simp; try with_reducible rfl)) hHeld (fun hHeld => ?_)
    simp only [Act.put, List.setIfInBounds_toArray, List.set_cons_zero, List.set_cons_succ]
    refine tkB 20 (.some 41) _ _ rfl rfl (by kernel_rfl) (by kernel_rfl) (by kernel_rfl) (by kernel_rfl) hPF rfl (fun w' => by (go_simp; try with_reducible rfl)) hHeld (fun hHeld => ?_)
    simp only [Act.put, List.setIfInBounds_toArray, List.set_cons_zero, List.set_cons_succ]
    refine tkA 21 (.some 42) _ _ rfl rfl (by kernel_rfl) (by kernel_rfl) (by kernel_rfl) (by kernel_rfl) (by kernel_rfl) hPF rfl (fun w' hw' => by (have h1 := (hb7.below hw' hb7.lt).cell 0; go_simp; try with_reducible rfl)) hHeld (fun hHeld => ?_)
    simp only [Act.put, List.setIfInBounds_toArray, List.set_cons_zero, List.set_cons_succ]
    refine tkA 22 (.some 43) _ _ rfl rfl (by kernel_rfl) (by kernel_rfl) (by kernel_rfl) (by kernel_rfl) (by kernel_rfl) hPF rfl (fun w' hw' => by (have h1 := str_row (n := 70) (c := c0) (t0.below hw') hXl; go_simp; try with_reducible rfl)) hHeld (fun hHeld => ?_)
    simp only [Act.put, List.setIfInBounds_toArray, List.set_cons_zero, List.set_cons_succ]
    refine tkB 23 (.some 44) _ _ rfl rfl (by kernel_rfl) (by kernel_rfl) (by kernel_rfl) (by kernel_rfl) hPF rfl (fun w' => by (go_simp; try with_reducible rfl)) hHeld (fun hHeld => ?_)
    simp only [Act.put, List.setIfInBounds_toArray, List.set_cons_zero, List.set_cons_succ]
    refine tkB 24 (.some 45) _ _ rfl rfl (by kernel_rfl) (by kernel_rfl) (by kernel_rfl) (by kernel_rfl) hPF rfl (fun w' => by (go_simp; try with_reducible rfl)) hHeld (fun hHeld => ?_)
    simp only [Act.put, List.setIfInBounds_toArray, List.set_cons_zero, List.set_cons_succ]
    refine tkA 25 (.some 46) _ _ rfl rfl (by kernel_rfl) (by kernel_rfl) (by kernel_rfl) (by kernel_rfl) (by kernel_rfl) hPF rfl (fun w' hw' => by (have h1 := (hb7.below hw' hb7.lt).cell 1; go_simp; try with_reducible rfl)) hHeld (fun hHeld => ?_)
    simp only [Act.put, List.setIfInBounds_toArray, List.set_cons_zero, List.set_cons_succ]
    refine tkA 26 (.some 47) _ _ rfl rfl (by kernel_rfl) (by kernel_rfl) (by kernel_rfl) (by kernel_rfl) (by kernel_rfl) hPF rfl (fun w' hw' => by (have h1 := str_row (n := 70) (c := c1) (t1.below hw') hXl; go_simp; try with_reducible rfl)) hHeld (fun hHeld => ?_)
    simp only [Act.put, List.setIfInBounds_toArray, List.set_cons_zero, List.set_cons_succ]
    refine tkA 27 (.some 48) _ (.bool true) rfl rfl (by kernel_rfl) (by kernel_rfl) (by kernel_rfl) (by kernel_rfl) (by kernel_rfl) hPF rfl (fun w' hw' => by (go_simp)) hHeld (fun hHeld => ?_)
    simp only [Act.put, List.setIfInBounds_toArray, List.set_cons_zero, List.set_cons_succ]
    refine tkB 28 (.some 49) _ _ rfl rfl (by kernel_rfl) (by kernel_rfl) (by kernel_rfl) (by kernel_rfl) hPF rfl (fun w' => by (go_simp; try with_reducible rfl)) hHeld (fun hHeld => ?_)
    simp only [Act.put, List.setIfInBounds_toArray, List.set_cons_zero, List.set_cons_succ]
    refine tkB 29 (.some 0) _ _ rfl rfl (by kernel_rfl) (by kernel_rfl) (by kernel_rfl) (by kernel_rfl) hPF rfl (fun w' => by (go_simp; try with_reducible rfl)) hHeld (fun hHeld => ?_)
    simp only [Act.put, List.setIfInBounds_toArray, List.set_cons_zero]
    refine tkD (by kernel_rfl) ?_ _
    go_wp2_with fail
    go_ret
    exact ⟨rfl, hBz.drew⟩
  ·
    go_simp
    change KC _ (World.alloc w2.drew (.cells (bys nul70).toArray tU8))
    have hA := Blk.new w2.drew (bys nul70) tU8
    have h1 : Below w2.heap.size w2 (World.alloc w2.drew (.cells (bys nul70).toArray tU8)) := hS.alloc hS.size (.cells (bys nul70).toArray tU8)
    generalize World.alloc w2.drew (.cells (bys nul70).toArray tU8) = w3 at *
    obtain ⟨b1, hb1⟩ : ∃ b1, w2.drew.heap.size = b1 := ⟨_, rfl⟩
    have hb1' : w2.heap.size = b1 := hb1
    rw [hb1] at hA
    rw [hb1']
    refine hKC.out _ _ (h1) (fun hHeld => ?_)
    clear hKC KC
    try simp only [Act.put, List.setIfInBounds_toArray, List.set_cons_zero, List.set_cons_succ]
    refine tkB 5 (.some 16) _ _ rfl rfl (by kernel_rfl) (by kernel_rfl) (by kernel_rfl) (by kernel_rfl) hPF rfl (fun w' => by (go_simp; try with_reducible rfl)) hHeld (fun hHeld => ?_)
    simp only [Act.put, List.setIfInBounds_toArray, List.set_cons_zero, List.set_cons_succ]
    have hS := hHeld (by kernel_rfl)
    refine tkW (rs := [1]) (by kernel_rfl) (by simp) (AllK.cons (o := _) rfl (fun KC hKC => ?_) AllK.nil)
    go_simp
    change KC _ (World.alloc w3 (.cells (bys nul70).toArray tU8))
    have hC := Blk.new w3 (bys nul70) tU8
    have hA2 := hA.alloc (.cells (bys nul70).toArray tU8)
    have h2 := h1.alloc h1.size (.cells (bys nul70).toArray tU8)
    generalize World.alloc w3 (.cells (bys nul70).toArray tU8) = w4 at *
    obtain ⟨b2, hb2⟩ : ∃ b2, w3.heap.size = b2 := ⟨_, rfl⟩
    rw [hb2] at hC ⊢
    refine hKC.out _ _ (h2) (fun hHeld => ?_)
    clear hKC KC
    try simp only [Act.put, List.setIfInBounds_toArray, List.set_cons_zero, List.set_cons_succ]
    refine tkB 2 (.some 13) _ _ rfl rfl (by kernel_rfl) (by kernel_rfl) (by kernel_rfl) (by kernel_rfl) hPF rfl (fun w' => by (go_simp; try with_reducible rfl)) hHeld (fun hHeld => ?_)
    simp only [Act.put, List.setIfInBounds_toArray, List.set_cons_zero, List.set_cons_succ]
    have hS := hHeld (by kernel_rfl)
    refine tkW (rs := [6]) (by kernel_rfl) (by simp) (AllK.cons (o := _) rfl (fun KC hKC => ?_) AllK.nil)
    go_simp
    change KC _ (World.alloc w4 (.cells (ctrsc [awx kb b2, awx kb b1]).toArray tCtr))
    have hD := Blk.new w4 (ctrsc [awx kb b2, awx kb b1]) tCtr
    have hd : Below w4.heap.size w4 (World.alloc w4 (.cells (ctrsc [awx kb b2, awx kb b1]).toArray tCtr)) := (Below.refl _ _).alloc (Nat.le_refl _) _
    have h3 := h2.trans (hd.mono h2.size)
    have hA3 := hA2.below hd hA2.lt
    have hC3 := hC.below hd hC.lt
    generalize World.alloc w4 (.cells (ctrsc [awx kb b2, awx kb b1]).toArray tCtr) = w5 at *
    obtain ⟨b5, hb5⟩ : ∃ b5, w4.heap.size = b5 := ⟨_, rfl⟩
    rw [hb5] at hD ⊢
    have hat : CtrsAt w5 (some ⟨b5, 0, none⟩) [awx kb b2, awx kb b1] := ctrs_of_blk (rest := []) (by rw [List.append_nil]; exact hD) (fun x hx => by
      rcases List.mem_cons.1 hx with rfl | hx
      · exact awx_ok (hK2.below h3) hC3
      · obtain rfl := List.mem_singleton.1 hx
        exact awx_ok (hK2.below h3) hA3)
    refine hKC.out _ _ (h3) (fun hHeld => ?_)
    clear hKC KC
    try simp only [Act.put, List.setIfInBounds_toArray, List.set_cons_zero, List.set_cons_succ]
    have hS := hHeld (by kernel_rfl)
    refine tkW (rs := [7]) (by kernel_rfl) (by simp) (AllK.cons (o := _) rfl (fun KC hKC => ?_) AllK.nil)
    go_simp
    refine (ctr_any w5 _ _ 2 2 hat rfl (by omega) (fun k hk => by
      have hk : k = 0 ∨ k = 1 := by (simp at hk; omega)
      rcases hk with rfl | rfl
      · exact (by decide : (70 : Nat) ≤ 1000)
      · exact (by decide : (70 : Nat) ≤ 1000))).mono ?_
    rintro e w7 ⟨g, vs, rfl, hg7, hb7, hv7, hr7, hB7⟩
    have h7 := h3.trans (hB7.mono h3.size)
    have r0 := hr7.row 0 (by omega)
    have r1 := hr7.row 1 (by omega)
    obtain ⟨v0, v1, rfl⟩ : ∃ v0 v1, vs = [v0, v1] := by
      match vs, hv7 with
      | [v0, v1], _ => exact ⟨v0, v1, rfl⟩
    obtain ⟨X, hX⟩ : ∃ X, xk (enc rk0) z16 0 nul70 = X := ⟨_, rfl⟩
    have hXl : X.length = 70 := by rw [← hX, xk_len]; rfl
    have q0 : OwnR w5.heap.size w7 v0 X := by rw [← hX]; exact r0
    have q1 : OwnR w5.heap.size w7 v1 X := by rw [← hX]; exact r1
    clear r0 r1 hr7
    obtain ⟨p0, c0, rfl, _, t0⟩ := q0.row
    obtain ⟨p1, c1, rfl, _, t1⟩ := q1.row
    have hle : lens [awx kb b2, awx kb b1] = [70, 70] := rfl
    have hst : stepsF 16 8 (lens [awx kb b2, awx kb b1]) = 2 := by rw [hle]; decide
    rw [hst]
    have S7 : Below w2.heap.size w2 w7 := h7
    refine hKC.out _ _ (h7) (fun hHeld => ?_)
    clear hKC KC
    try simp only [Act.put, List.setIfInBounds_toArray, List.set_cons_zero, List.set_cons_succ]
    refine tkS (fun w' => Below w7.heap.size w7 w') (fun w' h => Below.trans h7 (Below.mono h (Below.size h7))) (Below.refl _ _) (fun hHeld => ?_)
    refine tkB 8 (.some 10) _ _ rfl rfl (by kernel_rfl) (by kernel_rfl) (by kernel_rfl) (by kernel_rfl) hPF rfl (fun w' => by (go_simp; try with_reducible rfl)) hHeld (fun hHeld => ?_)
    simp only [Act.put, List.setIfInBounds_toArray, List.set_cons_zero, List.set_cons_succ]
    refine tkB 9 (.some 19) _ _ rfl rfl (by kernel_rfl) (by kernel_rfl) (by kernel_rfl) (by kernel_rfl) hPF rfl (fun w' => by (go_simp; try with_reducible rfl)) hHeld (fun hHeld => ?_)
    simp only [Act.put, List.setIfInBounds_toArray, List.set_cons_zero, List.set_cons_succ]
    refine tkB 10 (.some 20) _ _ rfl rfl (by kernel_rfl) (by kernel_rfl) (by kernel_rfl) (by kernel_rfl) hPF rfl (fun w' => by (go_simp; try with_reducible rfl)) hHeld (fun hHeld => ?_)
    simp only [Act.put, List.setIfInBounds_toArray, List.set_cons_zero, List.set_cons_succ]
    refine tkB 11 (.some 3) _ _ rfl rfl (by kernel_rfl) (by kernel_rfl) (by kernel_rfl) (by kernel_rfl) hPF rfl (fun w' => by (go_simp; try with_reducible rfl)) hHeld (fun hHeld => ?_)
    simp only [Act.put, List.setIfInBounds_toArray, List.set_cons_zero, List.set_cons_succ]
    refine tkB 12 (.some 4) _ _ rfl rfl (by kernel_rfl) (by kernel_rfl) (by kernel_rfl) (by kernel_rfl) hPF rfl (fun w' => by (go_simp; try with_reducible rfl)) hHeld (fun hHeld => ?_)
    simp only [Act.put, List.setIfInBounds_toArray, List.set_cons_zero, List.set_cons_succ]
    refine tkD (by kernel_rfl) ?_ _
    clear hm7 hX
    have hBz := hB2.trans (S7.mono hB2.size)
    have c70 := hb7.cell 0
    have c71 := hb7.cell 1
    rw [hXl] at hb7
    go_upto_region 3 with fail
    try simp only [Act.put]
    refine tkR (fun w' => Below w7.heap.size w7 w') [] (by kernel_rfl) (fun c a d v w h => by cases d <;> exact h) ((Below.refl _ _).drew) (fun hPF hHeld => ?_)
    refine tkB 0 (.some 21) _ _ rfl rfl (by kernel_rfl) (by kernel_rfl) (by kernel_rfl) (by kernel_rfl) hPF rfl (fun w' => by (go_simp; try with_reducible rfl)) hHeld (fun hHeld => ?_)
    simp only [Act.put, List.setIfInBounds_toArray, List.set_cons_zero, List.set_cons_succ]
    refine tkB 1 (.some 22) _ _ rfl rfl (by kernel_rfl) (by kernel_rfl) (by kernel_rfl) (by kernel_rfl) hPF rfl (fun w' => by (go_simp; try with_reducible rfl)) hHeld (fun hHeld => ?_)
    simp only [Act.put, List.setIfInBounds_toArray, List.set_cons_zero, List.set_cons_succ]
    refine tkB 2 (.some 23) _ _ rfl rfl (by kernel_rfl) (by kernel_rfl) (by kernel_rfl) (by kernel_rfl) hPF rfl (fun w' => by (go_simp; try with_reducible rfl)) hHeld (fun hHeld => ?_)
    simp only [Act.put, List.setIfInBounds_toArray, List.set_cons_zero, List.set_cons_succ]
    refine tkB 3 (.some 24) _ _ rfl rfl (by kernel_rfl) (by kernel_rfl) (by kernel_rfl) (by kernel_rfl) hPF rfl (fun w' => by (go_simp; try with_reducible rfl)) hHeld (fun hHeld => ?_)
    simp only [Act.put, List.setIfInBounds_toArray, List.set_cons_zero, List.set_cons_succ]
    refine tkB 4 (.some 25) _ _ rfl rfl (by kernel_rfl) (by kernel_rfl) (by kernel_rfl) (by kernel_rfl) hPF rfl (fun w' => by (go_simp; try with_reducible rfl)) hHeld (fun hHeld => ?_)
    simp only [Act.put, List.setIfInBounds_toArray, List.set_cons_zero, List.set_cons_succ]
    refine tkB 5 (.some 26) _ _ rfl rfl (by kernel_rfl) (by kernel_rfl) (by kernel_rfl) (by kernel_rfl) hPF rfl (fun w' => by (go_simp; try with_reducible rfl)) hHeld (fun hHeld => ?_)
    simp only [Act.put, List.setIfInBounds_toArray, List.set_cons_zero, List.set_cons_succ]
    refine tkB 6 (.some 27) _ _ rfl rfl (by kernel_rfl) (by kernel_rfl) (by kernel_rfl) (by kernel_rfl) hPF rfl (fun w' => by (go_simp; try with_reducible rfl)) hHeld (fun hHeld => ?_)
    simp only [Act.put, List.setIfInBounds_toArray, List.set_cons_zero, List.set_cons_succ]
    refine tkB 7 (.some 28) _ _ rfl rfl (by kernel_rfl) (by kernel_rfl) (by kernel_rfl) (by kernel_rfl) hPF rfl (fun w' => by (go_simp; try with_reducible rfl)) hHeld (fun hHeld => ?_)
    simp only [Act.put, List.setIfInBounds_toArray, List.set_cons_zero, List.set_cons_succ]
    refine tkB 8 (.some 29) _ _ rfl rfl (by kernel_rfl) (by kernel_rfl) (by kernel_rfl) (by kernel_rfl) hPF rfl (fun w' => by (go_simp; try with_reducible rfl)) hHeld (fun hHeld => ?_)
    simp only [Act.put, List.setIfInBounds_toArray, List.set_cons_zero, List.set_cons_succ]
    refine tkB 9 (.some 30) _ _ rfl rfl (by kernel_rfl) (by kernel_rfl) (by kernel_rfl) (by kernel_rfl) hPF rfl (fun w' => by (go_simp; try with_reducible rfl)) hHeld (fun hHeld => ?_)
    simp only [Act.put, List.setIfInBounds_toArray, List.set_cons_zero, List.set_cons_succ]
    refine tkB 10 (.some 31) _ _ rfl rfl (by kernel_rfl) (by kernel_rfl) (by kernel_rfl) (by kernel_rfl) hPF rfl (fun w' => by (go_simp; try with_reducible rfl)) hHeld (fun hHeld => ?_)
    simp only [Act.put, List.setIfInBounds_toArray, List.set_cons_zero, List.set_cons_succ]
    refine tkB 11 (.some 32) _ _ rfl rfl (by kernel_rfl) (by kernel_rfl) (by kernel_rfl) (by kernel_rfl) hPF rfl (fun w' => by (go_simp; try with_reducible rfl)) hHeld (fun hHeld => ?_)
    simp only [Act.put, List.setIfInBounds_toArray, List.set_cons_zero, List.set_cons_succ]
    refine tkB 12 (.some 33) _ _ rfl rfl (by kernel_rfl) (by kernel_rfl) (by kernel_rfl) (by kernel_rfl) hPF rfl (fun w' => by (go_simp; try with_reducible rfl)) hHeld (fun hHeld => ?_)
    simp only [Act.put, List.setIfInBounds_toArray, List.set_cons_zero, List.set_cons_succ]
    refine tkB 13 (.some 34) _ _ rfl rfl (by kernel_rfl) (by kernel_rfl) (by kernel_rfl) (by kernel_rfl) hPF rfl (fun w' => by (go_simp; try with_reducible rfl)) hHeld (fun hHeld => ?_)
    simp only [Act.put, List.setIfInBounds_toArray, List.set_cons_zero, List.set_cons_succ]
    refine tkA 14 (.some 35) _ _ rfl rfl (by kernel_rfl) (by kernel_rfl) (by kernel_rfl) (by kernel_rfl) (by kernel_rfl) hPF rfl (fun w' hw' => by (have h1 := (hb7.below hw' hb7.lt).cell 0; go_simp; try with_reducible rfl)) hHeld (fun hHeld => ?_)
    simp only [Act.put, List.setIfInBounds_toArray, List.set_cons_zero, List.set_cons_succ]
    refine tkB 15 (.some 36) _ _ rfl rfl (by kernel_rfl) (by kernel_rfl) (by kernel_rfl) (by kernel_rfl) hPF rfl (fun w' => by (go_simp; try with_reducible rfl)) hHeld (fun hHeld => ?_)
    simp only [Act.put, List.setIfInBounds_toArray, List.set_cons_zero, List.set_cons_succ]
    refine tkB 16 (.some 37) _ _ rfl rfl (by kernel_rfl) (by kernel_rfl) (by kernel_rfl) (by kernel_rfl) hPF rfl (fun w' => by (go_simp; try with_reducible rfl)) hHeld (fun hHeld => ?_)
    simp only [Act.put, List.setIfInBounds_toArray, List.set_cons_zero, List.set_cons_succ]
    refine tkB 17 (.some 38) _ _ rfl rfl (by kernel_rfl) (by kernel_rfl) (by kernel_rfl) (by kernel_rfl) hPF rfl (fun w' => by (go_simp; try with_reducible rfl)) hHeld (fun hHeld => ?_)
    simp only [Act.put, List.setIfInBounds_toArray, List.set_cons_zero, List.set_cons_succ]
    refine tkB 18 (.some 39) _ _ rfl rfl (by kernel_rfl) (by kernel_rfl) (by kernel_rfl) (by kernel_rfl) hPF rfl (fun w' => by (go_simp; try with_reducible rfl)) hHeld (fun hHeld => ?_)
    simp only [Act.put, List.setIfInBounds_toArray, List.set_cons_zero, List.set_cons_succ]
    refine tkB 19 (.some 40) _ _ rfl rfl (by kernel_rfl) (by kernel_rfl) (by kernel_rfl) (by kernel_rfl) hPF rfl (fun w' => by (go_simp; try with_reducible rfl)) hHeld (fun hHeld => ?_)
    simp only [Act.put, List.setIfInBounds_toArray, List.set_cons_zero, List.set_cons_succ]
    refine tkB 20 (.some 41) _ _ rfl rfl (by kernel_rfl) (by kernel_rfl) (by kernel_rfl) (by kernel_rfl) hPF rfl (fun w' => by (go_simp; try with_reducible rfl)) hHeld (fun hHeld => ?_)
    simp only [Act.put, List.setIfInBounds_toArray, List.set_cons_zero, List.set_cons_succ]
    refine tkA 21 (.some 42) _ _ rfl rfl (by kernel_rfl) (by kernel_rfl) (by kernel_rfl) (by kernel_rfl) (by kernel_rfl) hPF rfl (fun w' hw' => by (have h1 := (hb7.below hw' hb7.lt).cell 0; go_simp; try with_reducible rfl)) hHeld (fun hHeld => ?_)
    simp only [Act.put, List.setIfInBounds_toArray, List.set_cons_zero, List.set_cons_succ]
    refine tkA 22 (.some 43) _ _ rfl rfl (by kernel_rfl) (by kernel_rfl) (by kernel_rfl) (by kernel_rfl) (by kernel_rfl) hPF rfl (fun w' hw' => by (have h1 := str_row (n := 70) (c := c0) (t0.below hw') hXl; go_simp; try with_reducible rfl)) hHeld (fun hHeld => ?_)
    simp only [Act.put, List.setIfInBounds_toArray, List.set_cons_zero, List.set_cons_succ]
    refine tkB 23 (.some 44) _ _ rfl rfl (by kernel_rfl) (by kernel_rfl) (by kernel_rfl) (by kernel_rfl) hPF rfl (fun w' => by (go_simp; try with_reducible rfl)) hHeld (fun hHeld => ?_)
    simp only [Act.put, List.setIfInBounds_toArray, List.set_cons_zero, List.set_cons_succ]
    refine tkB 24 (.some 45) _ _ rfl rfl (by kernel_rfl) (by kernel_rfl) (by kernel_rfl) (by kernel_rfl) hPF rfl (fun w' => by (go_simp; try with_reducible rfl)) hHeld (fun hHeld => ?_)
    simp only [Act.put, List.setIfInBounds_toArray, List.set_cons_zero, List.set_cons_succ]
    refine tkA 25 (.some 46) _ _ rfl rfl (by kernel_rfl) (by kernel_rfl) (by kernel_rfl) (by kernel_rfl) (by kernel_rfl) hPF rfl (fun w' hw' => by (have h1 := (hb7.below hw' hb7.lt).cell 1; go_simp; try with_reducible rfl)) hHeld (fun hHeld => ?_)
    simp only [Act.put, List.setIfInBounds_toArray, List.set_cons_zero, List.set_cons_succ]
    refine tkA 26 (.some 47) _ _ rfl rfl (by kernel_rfl) (by kernel_rfl) (by kernel_rfl) (by kernel_rfl) (by kernel_rfl) hPF rfl (fun w' hw' => by (have h1 := str_row (n := 70) (c := c1) (t1.below hw') hXl; go_simp; try with_reducible rfl)) hHeld (fun hHeld => ?_)
    simp only [Act.put, List.setIfInBounds_toArray, List.set_cons_zero, List.set_cons_succ]
    refine tkA 27 (.some 48) _ (.bool true) rfl rfl (by kernel_rfl) (by kernel_rfl) (by kernel_rfl) (by kernel_rfl) (by kernel_rfl) hPF rfl (fun w' hw' => by (go_simp)) hHeld (fun hHeld => ?_)
    simp only [Act.put, List.setIfInBounds_toArray, List.set_cons_zero, List.set_cons_succ]
    refine tkB 28 (.some 49) _ _ rfl rfl (by kernel_rfl) (by kernel_rfl) (by kernel_rfl) (by kernel_rfl) hPF rfl (fun w' => by (go_simp; try with_reducible rfl)) hHeld (fun hHeld => ?_)
    simp only [Act.put, List.setIfInBounds_toArray, List.set_cons_zero, List.set_cons_succ]
    refine tkB 29 (.some 0) _ _ rfl rfl (by kernel_rfl) (by kernel_rfl) (by kernel_rfl) (by kernel_rfl) hPF rfl (fun w' => by (go_simp; try with_reducible rfl)) hHeld (fun hHeld => ?_)
    simp only [Act.put, List.setIfInBounds_toArray, List.set_cons_zero]
    refine tkD (by kernel_rfl) ?_ _
    go_wp2_with fail
    go_ret
    exact ⟨rfl, hBz.drew⟩
end Go.Proofs.Ytgellbapbphnlaa
