/- Ns · Kv · Ct4 (joined by merge4.py) -/
import Derived.Test.YtnmmnlffobnbfaaGreatDoorME
import Derived.Test.YtnmmnlffobnbfaaGreatDoorMC
import Derived.Test.YtnmmnlffobnbfaaGreatDoorMF
import Derived.Deep.DeepCutAuto
import Derived.WalkMore
import Derived.ScopeJumps
/- aes: what a nil key does -/
namespace Go.Proofs.YtnmmnlffobnbfaaGreatDoor
open Go.RowKit

set_option maxRecDepth 100000 in
theorem rounds_nil (w : World) : Calls Tryz.prog 172 #[.pointer none] w fun e w' => e = .returned (.int .i64 0) ∧ w = w' := by
  go_enter Tryz.func172, Tryz.ntmps172
  go_wp2_with fail
  go_ret
  exact ⟨rfl, rfl⟩

set_option maxRecDepth 100000 in
set_option maxHeartbeats 2000000 in
theorem enc_nil (w : World) (s : List UInt8) :
    Calls Tryz.prog 132 #[.pointer none, .agg (bys s).toArray] w fun e w' => e = .returned (.agg (bys z16).toArray) ∧ Below w.heap.size w w' := by
  have hM : Blk ((w.alloc (.cells (bys s).toArray tA16)).alloc (.cells (bys z16).toArray tA16)) (w.heap.size + 1) (bys z16) tA16 := by
    have := Blk.new (w.alloc (.cells (bys s).toArray tA16)) (bys z16) tA16
    simpa using this
  have hB : Below w.heap.size w ((w.alloc (.cells (bys s).toArray tA16)).alloc (.cells (bys z16).toArray tA16)) := ((Below.refl _ _).alloc (Nat.le_refl _) _).alloc (by simp) _
  go_enter Tryz.func132, Tryz.ntmps132
  go_wp2_with fail
  change Calls _ _ _ ((w.alloc (.cells (bys s).toArray tA16)).alloc (.cells (bys z16).toArray tA16)) _
  generalize ((w.alloc (.cells (bys s).toArray tA16)).alloc (.cells (bys z16).toArray tA16)) = w2 at *
  refine (rounds_nil _).mono ?_
  rintro e w1 ⟨rfl, rfl⟩
  have f0 := hM.frozen 0
  have c0 := hM.cell 0
  have f1 := hM.frozen 1
  have c1 := hM.cell 1
  have f2 := hM.frozen 2
  have c2 := hM.cell 2
  have f3 := hM.frozen 3
  have c3 := hM.cell 3
  have f4 := hM.frozen 4
  have c4 := hM.cell 4
  have f5 := hM.frozen 5
  have c5 := hM.cell 5
  have f6 := hM.frozen 6
  have c6 := hM.cell 6
  have f7 := hM.frozen 7
  have c7 := hM.cell 7
  have f8 := hM.frozen 8
  have c8 := hM.cell 8
  have f9 := hM.frozen 9
  have c9 := hM.cell 9
  have f10 := hM.frozen 10
  have c10 := hM.cell 10
  have f11 := hM.frozen 11
  have c11 := hM.cell 11
  have f12 := hM.frozen 12
  have c12 := hM.cell 12
  have f13 := hM.frozen 13
  have c13 := hM.cell 13
  have f14 := hM.frozen 14
  have c14 := hM.cell 14
  have f15 := hM.frozen 15
  have c15 := hM.cell 15
  simp only [z16, bys, List.replicate, List.map, List.getElem?_cons_zero, List.getElem?_cons_succ] at c0 c1 c2 c3 c4 c5 c6 c7 c8 c9 c10 c11 c12 c13 c14 c15
  go_wp2_with fail
  have hMs : Blk _ (w.heap.size + 1) (bys z16) tA16 := ((((((((((((((((hM.set 0 (.int .u8 0)).set 1 (.int .u8 0)).set 2 (.int .u8 0)).set 3 (.int .u8 0)).set 4 (.int .u8 0)).set 5 (.int .u8 0)).set 6 (.int .u8 0)).set 7 (.int .u8 0)).set 8 (.int .u8 0)).set 9 (.int .u8 0)).set 10 (.int .u8 0)).set 11 (.int .u8 0)).set 12 (.int .u8 0)).set 13 (.int .u8 0)).set 14 (.int .u8 0)).set 15 (.int .u8 0))
  refine bodyPost_ret (v := .agg (bys z16).toArray) (results_cell_row (P := Tryz.prog) (p := 4) (ty := 100) rfl _ _ (w.heap.size + 1) tA16 _ (0, 0) _ rfl hMs under54 rfl (by rw [size54]; rfl)) rfl ⟨rfl, ?_⟩
  exact hB.trans ((((((((((((((((((Chg.refl w.heap.size [] w2).setCell (p := ⟨w.heap.size + 1, 0, none⟩) (.inr (by simp)) (.int .u8 0)).setCell (p := ⟨w.heap.size + 1, 1, none⟩) (.inr (by simp)) (.int .u8 0)).setCell (p := ⟨w.heap.size + 1, 2, none⟩) (.inr (by simp)) (.int .u8 0)).setCell (p := ⟨w.heap.size + 1, 3, none⟩) (.inr (by simp)) (.int .u8 0)).setCell (p := ⟨w.heap.size + 1, 4, none⟩) (.inr (by simp)) (.int .u8 0)).setCell (p := ⟨w.heap.size + 1, 5, none⟩) (.inr (by simp)) (.int .u8 0)).setCell (p := ⟨w.heap.size + 1, 6, none⟩) (.inr (by simp)) (.int .u8 0)).setCell (p := ⟨w.heap.size + 1, 7, none⟩) (.inr (by simp)) (.int .u8 0)).setCell (p := ⟨w.heap.size + 1, 8, none⟩) (.inr (by simp)) (.int .u8 0)).setCell (p := ⟨w.heap.size + 1, 9, none⟩) (.inr (by simp)) (.int .u8 0)).setCell (p := ⟨w.heap.size + 1, 10, none⟩) (.inr (by simp)) (.int .u8 0)).setCell (p := ⟨w.heap.size + 1, 11, none⟩) (.inr (by simp)) (.int .u8 0)).setCell (p := ⟨w.heap.size + 1, 12, none⟩) (.inr (by simp)) (.int .u8 0)).setCell (p := ⟨w.heap.size + 1, 13, none⟩) (.inr (by simp)) (.int .u8 0)).setCell (p := ⟨w.heap.size + 1, 14, none⟩) (.inr (by simp)) (.int .u8 0)).setCell (p := ⟨w.heap.size + 1, 15, none⟩) (.inr (by simp)) (.int .u8 0)).below (Nat.le_refl _) (by simp))

end Go.Proofs.YtnmmnlffobnbfaaGreatDoor

/- a pointer to round keys, or nil, and what Encrypt does by it -/
namespace Go.Proofs.YtnmmnlffobnbfaaGreatDoor
open Go.RowKit

/-- A pointer to round keys, or nil, and what Encrypt does by it. -/
def KeyV (w : World) (v : Option Addr) (E : List UInt8 → List UInt8) : Prop :=
  (v = none ∧ E = fun _ => z16) ∨ ∃ kb rk, v = some ⟨kb, 0, none⟩ ∧ KeysAt w kb rk ∧ E = enc rk ∧ 16 * roundsOf rk + 16 ≤ rk.length
theorem KeyV.below {w w' : World} {v : Option Addr} {E : List UInt8 → List UInt8} (h : KeyV w v E) (hB : Below w.heap.size w w') : KeyV w' v E := by
  rcases h with h | ⟨kb, rk, h1, h2, h3⟩
  · exact .inl h
  · exact .inr ⟨kb, rk, h1, h2.below hB, h3⟩
theorem KeyV.drew {w : World} {v : Option Addr} {E : List UInt8 → List UInt8} (h : KeyV w v E) : KeyV w.drew v E := h.below (Below.drew (Below.refl _ _))
theorem KeyV.len {w : World} {v : Option Addr} {E : List UInt8 → List UInt8} (h : KeyV w v E) (s : List UInt8) (hs : s.length = 16) : (E s).length = 16 := by
  rcases h with ⟨_, rfl⟩ | ⟨kb, rk, _, _, rfl, h4⟩
  · rfl
  · unfold enc; exact encTo_len _ _ _ _ h4 hs
theorem keyv_enc {w : World} {v : Option Addr} {E : List UInt8 → List UInt8} (h : KeyV w v E) (s : List UInt8) (hs : s.length = 16) :
    Calls Tryz.prog 132 #[.pointer v, .agg (bys s).toArray] w fun e w' => e = .returned (.agg (bys (E s)).toArray) ∧ Below w.heap.size w w' := by
  rcases h with ⟨rfl, rfl⟩ | ⟨kb, rk, rfl, h2, rfl, h4⟩
  · exact enc_nil w s
  · exact enc_any w kb rk s h2 hs

end Go.Proofs.YtnmmnlffobnbfaaGreatDoor

/- ctr: New, At, fill -/
namespace Go.Proofs.YtnmmnlffobnbfaaGreatDoor
open Go.RowKit

abbrev tStream : TypeId := 210
theorem KeysAt.chg {w w' : World} {kb N sb : Nat} {rk : List UInt8} {cs : List Value} {T : TypeId} (h : KeysAt w kb rk) (hc : Chg N [sb] w w') (hN : w.heap.size ≤ N) (hs : Blk w sb cs T) (h1 : T ≠ tKeys) (h2 : T ≠ tTables) (h3 : T ≠ tA4) : KeysAt w' kb rk := by
  obtain ⟨tb, wb, n, cap, ex, a, b, c, d, e⟩ := h
  exact ⟨tb, wb, n, cap, ex, a.chg hc (Nat.lt_of_lt_of_le a.lt hN) (by simp; exact a.ne hs (Ne.symm h1)), b.chg hc (Nat.lt_of_lt_of_le b.lt hN) (by simp; exact b.ne hs (Ne.symm h2)),
    c.chg hc (Nat.lt_of_lt_of_le c.lt hN) (by simp; exact c.ne hs (Ne.symm h3)), d, e⟩
theorem KeyV.chg {w w' : World} {v : Option Addr} {N sb : Nat} {E : List UInt8 → List UInt8} {cs : List Value} (h : KeyV w v E) (hc : Chg N [sb] w w') (hN : w.heap.size ≤ N) (hs : Blk w sb cs tStream) : KeyV w' v E := by
  rcases h with h | ⟨kb, rk, h1, h2, h3⟩
  · exact .inl h
  · exact .inr ⟨kb, rk, h1, h2.chg hc hN hs (by decide) (by decide) (by decide), h3⟩
def scells (kv : Option Addr) (nx : List UInt8) (lv : Value) (at' : Nat) : List Value := .pointer kv :: (bys nx ++ [lv, .int .i64 at'])
theorem scells_len (kv : Option Addr) (nx : List UInt8) (lv : Value) (at' : Nat) (h : nx.length = 16) : (scells kv nx lv at').length = 19 := by simp [scells, bys, h]
theorem scells_key (kv : Option Addr) (nx : List UInt8) (lv : Value) (at' : Nat) : (scells kv nx lv at')[0]? = some (.pointer kv) := rfl
theorem scells_left (kv : Option Addr) (nx : List UInt8) (lv : Value) (at' : Nat) (h : nx.length = 16) : (scells kv nx lv at')[17]? = some lv := by
  unfold scells; rw [List.getElem?_cons_succ, List.getElem?_append_right (by rw [bys_length, h]; decide), bys_length, h]; rfl
theorem scells_at (kv : Option Addr) (nx : List UInt8) (lv : Value) (at' : Nat) (h : nx.length = 16) : (scells kv nx lv at')[18]? = some (.int .i64 at') := by
  unfold scells; rw [List.getElem?_cons_succ, List.getElem?_append_right (by rw [bys_length, h]; decide), bys_length, h]; rfl
theorem scells_set17 (kv : Option Addr) (nx : List UInt8) (lv lv' : Value) (at' : Nat) (h : nx.length = 16) : (scells kv nx lv at').set 17 lv' = scells kv nx lv' at' := by
  unfold scells; rw [List.set_cons_succ, List.set_append_right _ _ (by rw [bys_length, h]; decide), bys_length, h]; rfl
theorem scells_set18 (kv : Option Addr) (nx : List UInt8) (lv : Value) (at' at2 : Nat) (h : nx.length = 16) : (scells kv nx lv at').set 18 (.int .i64 at2) = scells kv nx lv at2 := by
  unfold scells; rw [List.set_cons_succ, List.set_append_right _ _ (by rw [bys_length, h]; decide), bys_length, h]; rfl
theorem scells_next (kv : Option Addr) (nx nx' : List UInt8) (lv : Value) (at' : Nat) (h : nx.length = 16) (h' : nx'.length = 16) : splice (scells kv nx lv at') 1 (bys nx') = scells kv nx' lv at' := by
  simp [splice, scells, bys_length, h', h]
theorem Blk.next {w : World} {sb : Nat} {kv : Option Addr} {lv : Value} {nx : List UInt8} {at' : Nat} {T : TypeId} (h : Blk w sb (scells kv nx lv at') T) : w.rangeAt sb 1 (bys nx) := by
  intro j v hv
  rw [h.cell, Nat.add_comm]
  have hj : j < (bys nx).length := by
    rcases Nat.lt_or_ge j (bys nx).length with hh | hh
    · exact hh
    · rw [List.getElem?_eq_none hh] at hv; cases hv
  unfold scells
  rw [List.getElem?_cons_succ, List.getElem?_append_left hj, hv]

set_option maxRecDepth 100000 in
set_option maxHeartbeats 1000000 in
theorem new16 (w : World) (kv : Option Addr) (a0 a1 a2 a3 a4 a5 a6 a7 a8 a9 a10 a11 a12 a13 a14 a15 : UInt8) :
    Calls Tryz.prog 125 #[.pointer kv, .agg #[B a0, B a1, B a2, B a3, B a4, B a5, B a6, B a7, B a8, B a9, B a10, B a11, B a12, B a13, B a14, B a15]] w fun e w' => e = .returned (.pointer (some ⟨w.heap.size + 1, 0, none⟩)) ∧
      (w.alloc (.cells #[B a0, B a1, B a2, B a3, B a4, B a5, B a6, B a7, B a8, B a9, B a10, B a11, B a12, B a13, B a14, B a15] tA16)).alloc (.cells #[.pointer kv, B a0, B a1, B a2, B a3, B a4, B a5, B a6, B a7, B a8, B a9, B a10, B a11, B a12, B a13, B a14, B a15, .slice none 0 0, .int .i64 0] tStream) = w' := by
  have hb := Blk.new w [B a0, B a1, B a2, B a3, B a4, B a5, B a6, B a7, B a8, B a9, B a10, B a11, B a12, B a13, B a14, B a15] tA16
  have hs : (Tryz.prog.info? 100).map (·.size) = some [B a0, B a1, B a2, B a3, B a4, B a5, B a6, B a7, B a8, B a9, B a10, B a11, B a12, B a13, B a14, B a15].length := by rw [size54]; rfl
  go_enter Tryz.func125, Tryz.ntmps125
  go_wp2_with (refine wpList_load_mid rfl 100 (.tmp 3) rfl w.heap.size 0 rfl [B a0, B a1, B a2, B a3, B a4, B a5, B a6, B a7, B a8, B a9, B a10, B a11, B a12, B a13, B a14, B a15] _ hb.whole under54 rfl hs ?_)
  go_ret
  exact ⟨rfl, rfl⟩
theorem new_any (w : World) (kv : Option Addr) (iv : List UInt8) (hiv : iv.length = 16) :
    Calls Tryz.prog 125 #[.pointer kv, .agg (bys iv).toArray] w fun e w' => e = .returned (.pointer (some ⟨w.heap.size + 1, 0, none⟩)) ∧ Blk w' (w.heap.size + 1) (scells kv iv (.slice none 0 0) 0) tStream ∧ Below w.heap.size w w' := by
  obtain ⟨a0, a1, a2, a3, a4, a5, a6, a7, a8, a9, a10, a11, a12, a13, a14, a15, rfl⟩ := len16 hiv
  refine (new16 w kv a0 a1 a2 a3 a4 a5 a6 a7 a8 a9 a10 a11 a12 a13 a14 a15).mono ?_
  rintro e w' ⟨rfl, rfl⟩
  refine ⟨rfl, ?_, ((Below.refl _ _).alloc (Nat.le_refl _) _).alloc (by simp) _⟩
  have := Blk.new (w.alloc (.cells #[B a0, B a1, B a2, B a3, B a4, B a5, B a6, B a7, B a8, B a9, B a10, B a11, B a12, B a13, B a14, B a15] tA16)) (scells kv [a0, a1, a2, a3, a4, a5, a6, a7, a8, a9, a10, a11, a12, a13, a14, a15] (.slice none 0 0) 0) tStream
  simpa [scells, bys] using this

set_option maxRecDepth 100000 in
set_option maxHeartbeats 2000000 in
theorem fill_any (w : World) (sb : Nat) (kv : Option Addr) (E : List UInt8 → List UInt8) (nx : List UInt8) (lv : Value) (at' : Nat) (hb : Blk w sb (scells kv nx lv at') tStream) (hk : KeyV w kv E) (hnx : nx.length = 16) :
    Calls Tryz.prog 170 #[.pointer (some ⟨sb, 0, none⟩)] w fun e w' => e = .returned (.tuple #[]) ∧ ∃ gb, w.heap.size ≤ gb ∧ Blk w' gb (bys (E nx)) tA16 ∧
      Blk w' sb (scells kv (cnt nx 1) (.slice (some ⟨gb, 0, none⟩) 16 16) at') tStream ∧ Chg w.heap.size [sb] w w' := by
  have hnx' := hid hnx
  have hel := hid (hk.len nx hnx)
  have c0 := hb.cell 0
  rw [scells_key] at c0
  have hsz : (Tryz.prog.info? 100).map (·.size) = some (bys nx).length := by rw [size54, bys_length, hnx]
  have hlt := hb.lt
  clear hnx
  go_enter Tryz.func170, Tryz.ntmps170
  go_upto_region 1 with fail
  go_cut [2] (fun s2 wx => ∃ gb, s2 = .pointer (some ⟨gb, 0, none⟩) ∧ w.heap.size ≤ gb ∧ Blk wx gb (bys (E nx)) tA16 ∧ Below w.heap.size w wx)
  case first =>
    go_wp2_with fail
    have hD : Below w.heap.size w w.drew := (Below.refl _ _).drew
    try simp only [Act.put]
    refine tkR (fun w' => Below w.heap.size w w') [] (by kernel_rfl) (fun c a d v w h => by cases d <;> exact h) ((Below.refl _ _).drew) (fun hPF hHeld => ?_)
    refine tkB 0 (.some 3) _ _ rfl rfl (by kernel_rfl) (by kernel_rfl) (by kernel_rfl) (by kernel_rfl) hPF rfl (fun w' => by (go_simp; try with_reducible rfl)) hHeld (fun hHeld => ?_)
    simp only [Act.put, List.setIfInBounds_toArray, List.set_cons_zero, List.set_cons_succ]
    refine tkB 1 (.some 4) _ _ rfl rfl (by kernel_rfl) (by kernel_rfl) (by kernel_rfl) (by kernel_rfl) hPF rfl (fun w' => by (go_simp; try with_reducible rfl)) hHeld (fun hHeld => ?_)
    simp only [Act.put, List.setIfInBounds_toArray, List.set_cons_zero, List.set_cons_succ]
    refine tkB 2 (.some 5) _ _ rfl rfl (by kernel_rfl) (by kernel_rfl) (by kernel_rfl) (by kernel_rfl) hPF rfl (fun w' => by (go_simp; try with_reducible rfl)) hHeld (fun hHeld => ?_)
    simp only [Act.put, List.setIfInBounds_toArray, List.set_cons_zero, List.set_cons_succ]
    refine tkA 3 (.some 6) _ _ rfl rfl (by kernel_rfl) (by kernel_rfl) (by kernel_rfl) (by kernel_rfl) (by kernel_rfl) hPF rfl (fun w' hw' => by (have h1 := (hb.below hw' hlt).cell 0; rw [scells_key] at h1; go_simp; try with_reducible rfl)) hHeld (fun hHeld => ?_)
    simp only [Act.put, List.setIfInBounds_toArray, List.set_cons_zero, List.set_cons_succ]
    refine tkB 4 (.some 7) _ _ rfl rfl (by kernel_rfl) (by kernel_rfl) (by kernel_rfl) (by kernel_rfl) hPF rfl (fun w' => by (go_simp; try with_reducible rfl)) hHeld (fun hHeld => ?_)
    simp only [Act.put, List.setIfInBounds_toArray, List.set_cons_zero, List.set_cons_succ]
    refine tkB 5 (.some 8) _ _ rfl rfl (by kernel_rfl) (by kernel_rfl) (by kernel_rfl) (by kernel_rfl) hPF rfl (fun w' => by (go_simp; try with_reducible rfl)) hHeld (fun hHeld => ?_)
    simp only [Act.put, List.setIfInBounds_toArray, List.set_cons_zero, List.set_cons_succ]
    refine tkB 6 (.some 9) _ _ rfl rfl (by kernel_rfl) (by kernel_rfl) (by kernel_rfl) (by kernel_rfl) hPF rfl (fun w' => by (go_simp; try with_reducible rfl)) hHeld (fun hHeld => ?_)
    simp only [Act.put, List.setIfInBounds_toArray, List.set_cons_zero, List.set_cons_succ]
    refine tkL 7 (.some 10) _ rfl rfl 100 (.tmp 9) rfl sb 1 (bys nx) _ (by kernel_rfl) (by kernel_rfl) (by kernel_rfl) (by kernel_rfl) (by kernel_rfl) hPF rfl rfl (fun w' hw' => (hb.below hw' hlt).next) under54 rfl hsz hHeld (fun hHeld => ?_)
    simp only [Act.put, List.setIfInBounds_toArray, List.set_cons_zero, List.set_cons_succ]
    have hS := hHeld (by kernel_rfl)
    refine tkW (rs := [8, 9]) (by kernel_rfl) (by simp) (AllK.cons (o := _) rfl (fun KC hKC => ?_) (AllK.cons (o := _) rfl (fun KC hKC => ?_) AllK.nil))
    ·
      go_simp
      refine (keyv_enc (KeyV.below hk hS) nx hnx'.out).mono ?_
      rintro e w2 ⟨rfl, hB2⟩
      have hS2 := hS.trans (hB2.mono hS.size)
      refine hKC.out _ _ (hS2) (fun hHeld => ?_)
      clear hKC KC
      try simp only [Act.put, List.setIfInBounds_toArray, List.set_cons_zero, List.set_cons_succ]
      have hS := hHeld (by kernel_rfl)
      refine tkW (rs := [9]) (by kernel_rfl) (by simp) (AllK.cons (o := _) rfl (fun KC hKC => ?_) AllK.nil)
      go_simp
      have hS3 : Below w.heap.size w (w2.alloc (.cells (bys z16).toArray tA16)) := hS2.alloc hS2.size _
      have hG := Blk.new w2 (bys z16) tA16
      have hgs := hS2.size
      refine hKC.out _ _ (hS3) (fun hHeld => ?_)
      clear hKC KC
      try simp only [Act.put, List.setIfInBounds_toArray, List.set_cons_zero, List.set_cons_succ]
      have hS := hHeld (by kernel_rfl)
      refine tkW (rs := [10]) (by kernel_rfl) (by simp) (AllK.cons (o := _) rfl (fun KC hKC => ?_) AllK.nil)
      refine wantIt rfl (wp_storeD .none rfl 100 (.tmp 2) (.tmp 11) rfl w2.heap.size 0 (bys (E nx)).toArray rfl rfl (hG.there 0 _ (by rw [List.size_toArray, bys_length, bys_length, hel.out]; decide)) (by rw [size54, List.size_toArray, bys_length, hel.out]) (all_oneCell_toArray (bys_one _)) ?_)
      have hG4 := hG.setCells (bys (E nx)) 0 (by rw [bys_length, bys_length, hel.out]; decide)
      rw [splice_whole _ _ (by rw [bys_length, bys_length, hel.out]; rfl)] at hG4
      have hC4 := (Chg.refl (w2.alloc (.cells (bys z16).toArray tA16)).heap.size [w2.heap.size] (w2.alloc (.cells (bys z16).toArray tA16))).setCells (b := w2.heap.size) (.inl (by simp)) (bys (E nx)) 0
      refine hKC.out _ _ (hS3.trans (hC4.below (M := w.heap.size) hS3.size (fun k hk => by simp at hk; omega))) (fun hHeld => ?_)
      clear hKC KC
      try simp only [Act.put]
      refine tkD (by kernel_rfl) ?_ _
      go_wp2_with fail
      go_meet
      exact ⟨_, rfl, hgs, hG4, hS3.trans (hC4.below (M := w.heap.size) hS3.size (fun k hk => by simp at hk; omega))⟩
    ·
      go_simp
      have hS3 : Below w.heap.size w (w.drew.alloc (.cells (bys z16).toArray tA16)) := hS.alloc hS.size _
      have hG : Blk (w.drew.alloc (.cells (bys z16).toArray tA16)) w.heap.size (bys z16) tA16 := Blk.new w.drew (bys z16) tA16
      refine hKC.out _ _ (hS3) (fun hHeld => ?_)
      clear hKC KC
      try simp only [Act.put, List.setIfInBounds_toArray, List.set_cons_zero, List.set_cons_succ]
      have hS := hHeld (by kernel_rfl)
      refine tkW (rs := [8]) (by kernel_rfl) (by simp) (AllK.cons (o := _) rfl (fun KC hKC => ?_) AllK.nil)
      go_simp
      refine (keyv_enc (KeyV.below hk hS) nx hnx'.out).mono ?_
      rintro e w2 ⟨rfl, hB2⟩
      have hS2 := hS.trans (hB2.mono hS.size)
      have hG2 := hG.below hB2 hG.lt
      refine hKC.out _ _ (hS2) (fun hHeld => ?_)
      clear hKC KC
      try simp only [Act.put, List.setIfInBounds_toArray, List.set_cons_zero, List.set_cons_succ]
      have hS := hHeld (by kernel_rfl)
      refine tkW (rs := [10]) (by kernel_rfl) (by simp) (AllK.cons (o := _) rfl (fun KC hKC => ?_) AllK.nil)
      refine wantIt rfl (wp_storeD .none rfl 100 (.tmp 2) (.tmp 11) rfl w.heap.size 0 (bys (E nx)).toArray rfl rfl (hG2.there 0 _ (by rw [List.size_toArray, bys_length, bys_length, hel.out]; decide)) (by rw [size54, List.size_toArray, bys_length, hel.out]) (all_oneCell_toArray (bys_one _)) ?_)
      have hG4 := hG2.setCells (bys (E nx)) 0 (by rw [bys_length, bys_length, hel.out]; decide)
      rw [splice_whole _ _ (by rw [bys_length, bys_length, hel.out]; rfl)] at hG4
      have hC4 := (Chg.refl w2.heap.size [w.heap.size] w2).setCells (b := w.heap.size) (.inl (by simp)) (bys (E nx)) 0
      refine hKC.out _ _ (hS2.trans (hC4.below (M := w.heap.size) hS2.size (fun k hk => by simp at hk; omega))) (fun hHeld => ?_)
      clear hKC KC
      try simp only [Act.put]
      refine tkD (by kernel_rfl) ?_ _
      go_wp2_with fail
      go_meet
      exact ⟨_, rfl, Nat.le_refl _, hG4, hS2.trans (hC4.below (M := w.heap.size) hS2.size (fun k hk => by simp at hk; omega))⟩
  case rest =>
    obtain ⟨gb, rfl, hge, hG, hB⟩ := hcut
    have hb1 := (hb.below hB hlt).drew
    have hG1 := hG.drew
    have hB1 := hB.drew
    have hcn := cnt_len nx 1
    obtain ⟨q, hq⟩ : ∃ q, cnt nx 1 = q := ⟨_, rfl⟩
    rw [hq] at hcn
    have Hcn := hid hcn
    have Hq := hid hq
    have h1u : (1 : Nat) < 18446744073709551616 := by decide
    have HC := fun W => hid (count_any W nx 1 hnx'.out h1u)
    rw [hq] at HC
    clear hq hcn
    go_wp2_with fail
    try simp only [Act.put]
    refine tkR (fun w' => Below wc.drew.heap.size wc.drew w') [10] (by kernel_rfl) (fun c a d v w h => by cases d <;> exact h) (Below.refl _ _) (fun hPF hHeld => ?_)
    refine tkB 0 (.some 12) _ _ rfl rfl (by kernel_rfl) (by kernel_rfl) (by kernel_rfl) (by kernel_rfl) hPF rfl (fun w' => by (go_simp; try with_reducible rfl)) hHeld (fun hHeld => ?_)
    simp only [Act.put, List.setIfInBounds_toArray, List.set_cons_zero, List.set_cons_succ]
    refine tkB 1 (.some 13) _ _ rfl rfl (by kernel_rfl) (by kernel_rfl) (by kernel_rfl) (by kernel_rfl) hPF rfl (fun w' => by (go_simp; try with_reducible rfl)) hHeld (fun hHeld => ?_)
    simp only [Act.put, List.setIfInBounds_toArray, List.set_cons_zero, List.set_cons_succ]
    refine tkB 2 (.some 14) _ _ rfl rfl (by kernel_rfl) (by kernel_rfl) (by kernel_rfl) (by kernel_rfl) hPF rfl (fun w' => by (go_simp; try with_reducible rfl)) hHeld (fun hHeld => ?_)
    simp only [Act.put, List.setIfInBounds_toArray, List.set_cons_zero, List.set_cons_succ]
    refine tkB 3 (.some 15) _ _ rfl rfl (by kernel_rfl) (by kernel_rfl) (by kernel_rfl) (by kernel_rfl) hPF rfl (fun w' => by (go_simp; try with_reducible rfl)) hHeld (fun hHeld => ?_)
    simp only [Act.put, List.setIfInBounds_toArray, List.set_cons_zero, List.set_cons_succ]
    refine tkB 4 (.some 16) _ _ rfl rfl (by kernel_rfl) (by kernel_rfl) (by kernel_rfl) (by kernel_rfl) hPF rfl (fun w' => by (go_simp; try with_reducible rfl)) hHeld (fun hHeld => ?_)
    simp only [Act.put, List.setIfInBounds_toArray, List.set_cons_zero, List.set_cons_succ]
    refine tkL 5 (.some 17) _ rfl rfl 100 (.tmp 16) rfl sb 1 (bys nx) _ (by kernel_rfl) (by kernel_rfl) (by kernel_rfl) (by kernel_rfl) (by kernel_rfl) hPF rfl rfl (fun w' hw' => (hb1.below hw' hb1.lt).next) under54 rfl hsz hHeld (fun hHeld => ?_)
    simp only [Act.put, List.setIfInBounds_toArray, List.set_cons_zero, List.set_cons_succ]
    refine tkB 7 (.some 19) _ _ rfl rfl (by kernel_rfl) (by kernel_rfl) (by kernel_rfl) (by kernel_rfl) hPF rfl (fun w' => by (go_simp; try with_reducible rfl)) hHeld (fun hHeld => ?_)
    simp only [Act.put, List.setIfInBounds_toArray, List.set_cons_zero, List.set_cons_succ]
    have hS := hHeld (by kernel_rfl)
    refine tkW (rs := [6]) (by kernel_rfl) (by simp) (AllK.cons (o := _) rfl (fun KC hKC => ?_) AllK.nil)
    go_simp
    refine (HC _).out.mono ?_
    rintro e w2 ⟨rfl, hB2⟩
    have hS2 := hS.trans (hB2.mono hS.size)
    have hb2 := hb1.below hS2 hb1.lt
    have hG2 := hG1.below hS2 hG1.lt
    have hB2 := hB1.trans (hS2.mono hB1.size)
    refine hKC.out _ _ (hS2) (fun hHeld => ?_)
    clear hKC KC
    try simp only [Act.put, List.setIfInBounds_toArray, List.set_cons_zero, List.set_cons_succ]
    refine tkB 8 (.some 20) _ _ rfl rfl (by kernel_rfl) (by kernel_rfl) (by kernel_rfl) (by kernel_rfl) hPF rfl (fun w' => by (go_simp; try with_reducible rfl)) hHeld (fun hHeld => ?_)
    simp only [Act.put, List.setIfInBounds_toArray, List.set_cons_zero, List.set_cons_succ]
    refine tkB 9 (.some 21) _ _ rfl rfl (by kernel_rfl) (by kernel_rfl) (by kernel_rfl) (by kernel_rfl) hPF rfl (fun w' => by (go_simp; try with_reducible rfl)) hHeld (fun hHeld => ?_)
    simp only [Act.put, List.setIfInBounds_toArray, List.set_cons_zero, List.set_cons_succ]
    refine tkW (rs := [10]) (by kernel_rfl) (by simp) (AllK.close (o := _) rfl (by kernel_rfl) (fun KC hKC => ?_) AllK.nil)
    refine wantIt rfl (wp_storeD .none rfl 100 (.tmp 21) (.tmp 18) rfl sb 1 (bys q).toArray rfl rfl (hb2.there 1 _ (by rw [List.size_toArray, bys_length, scells_len _ _ _ _ hnx'.out, Hcn.out]; decide)) (by rw [size54, List.size_toArray, bys_length, Hcn.out]) (all_oneCell_toArray (bys_one _)) ?_)
    have hb4 := hb2.setCells (bys q) 1 (by rw [bys_length, scells_len _ _ _ _ hnx'.out, Hcn.out]; decide)
    rw [scells_next _ _ _ _ _ hnx'.out Hcn.out] at hb4
    have hC4 := (Chg.refl w2.heap.size [sb] w2).setCells (b := sb) (.inl (by simp)) (bys q) 1
    have hne : gb ≠ sb := by omega
    have hG4 := hG2.chg hC4 hG2.lt (by simp [hne])
    have hW4 := (Chg.ofBelow (F := [sb]) hB2).trans (hC4.mono (M := w.heap.size) hB2.size (fun _ _ h => h))
    have hf17 := hb4.frozen 17
    have hc17 := hb4.cell 17
    rw [scells_left _ _ _ _ Hcn.out] at hc17
    refine hKC.out _ _ (fun hHeld => ?_)
    clear hKC KC
    try simp only [Act.put]
    refine tkB 11 (.some 22) _ _ rfl rfl (by kernel_rfl) (by kernel_rfl) (by kernel_rfl) (by kernel_rfl) hPF rfl (fun w' => by (go_simp; try with_reducible rfl)) hHeld (fun hHeld => ?_)
    simp only [Act.put, List.setIfInBounds_toArray, List.set_cons_zero, List.set_cons_succ]
    refine tkB 12 (.some 23) _ _ rfl rfl (by kernel_rfl) (by kernel_rfl) (by kernel_rfl) (by kernel_rfl) hPF rfl (fun w' => by (go_simp; try with_reducible rfl)) hHeld (fun hHeld => ?_)
    simp only [Act.put, List.setIfInBounds_toArray, List.set_cons_zero, List.set_cons_succ]
    refine tkW (rs := [13]) (by kernel_rfl) (by simp) (AllK.close (o := _) rfl (by kernel_rfl) (fun KC hKC => ?_) AllK.nil)
    go_simp
    have hb5 := hb4.set 17 (.slice (some ⟨gb, 0, none⟩) 16 16)
    rw [scells_set17 _ _ _ _ _ Hcn.out] at hb5
    refine hKC.out _ _ (fun hHeld => ?_)
    clear hKC KC
    try simp only [Act.put]
    refine tkD (by kernel_rfl) ?_ _
    go_wp2_with fail
    go_end0
    rw [Hq.out]
    exact ⟨rfl, gb, hge, hG4.setNe (by simpa using hne) _, hb5, hW4.setCell (p := ⟨sb, 17, none⟩) (.inl (by simp)) _⟩

end Go.Proofs.YtnmmnlffobnbfaaGreatDoor
