/- Sc · Sw · Su (joined by merge4.py) -/
import Derived.Test.YtnmmnlffobnbfaaGreatDoorMW
import Derived.Test.YtnmmnlffobnbfaaGreatDoorMN
import Derived.Test.YtnmmnlffobnbfaaGreatDoorMQ
import Derived.Test.YtnmmnlffobnbfaaGreatDoorMS
import Derived.ScopeJumps
import Derived.WalkMore
/- sha: a state as bytes, what is put behind a message, the first state -/
namespace Go.Proofs.YtnmmnlffobnbfaaGreatDoor
open Go.RowKit

theorem size32s : (Tryz.prog.info? tA32).map (·.size) = some 32 := by kernel_rfl
/-- The first k words of a state as bytes. -/
def outN (h : List UInt32) (k : Nat) : List UInt8 := (List.range k).flatMap fun i => toBe 4 (h.getD i 0).toNat
theorem outN_succ (h : List UInt32) (k : Nat) : outN h (k + 1) = outN h k ++ toBe 4 (h.getD k 0).toNat := by
  unfold outN; rw [List.range_succ, List.flatMap_append]; simp
theorem outN_len (h : List UInt32) : ∀ k, (outN h k).length = 4 * k
  | 0 => rfl
  | k + 1 => by rw [outN_succ, List.length_append, outN_len h k, toBe_len]; omega
theorem outN_all (h : List UInt32) (hh : h.length = 8) : outN h 8 = outS h := by
  obtain ⟨v0, v1, v2, v3, v4, v5, v6, v7, rfl⟩ := len8 hh
  rfl
theorem splice_outN (h : List UInt32) (k : Nat) (hk : k < 8) : splice (bys (outN h k ++ List.replicate (32 - 4 * k) 0)) (4 * k) (bys (toBe 4 (h.getD k 0).toNat)) = bys (outN h (k + 1) ++ List.replicate (32 - 4 * (k + 1)) 0) := by
  have h1 := outN_len h k
  have h2 := toBe_len 4 (h.getD k 0).toNat
  unfold splice
  rw [outN_succ, bys_length, h2]
  unfold bys
  simp only [List.map_append, List.map_replicate]
  rw [List.take_left' (by simp [h1]), List.drop_append, List.drop_of_length_le (by simp [h1]), List.nil_append, List.drop_replicate, List.length_map, h1, List.append_assoc, show 32 - 4 * k - (4 * k + 4 - 4 * k) = 32 - 4 * (k + 1) by omega]
theorem slice32q (b q : Nat) (hq : q ≤ 28) (W : World) : (Instr.sliceAt tA32 (.pointer (some ⟨b, 0, none⟩)) (some (.int .i64 (q : Int))) none none).run Tryz.prog W = .ok (.slice (some ⟨b, q, none⟩) (32 - q) (32 - q)) W := by
  have h1 : (q : Int) ≤ 32 := by omega
  have h2 : 0 ≤ (q : Int) := by omega
  go_simp
  omega
def z32 : List UInt8 := List.replicate 32 0

set_option maxRecDepth 100000 in
set_option maxHeartbeats 8000000 in
theorem sout_any (w : World) (h : List UInt32) (hh : h.length = 8) :
    Calls Tryz.prog 43 #[.agg (ws h).toArray] w fun e w' => e = .returned (.agg (bys (outS h)).toArray) ∧ Below w.heap.size w w' := by
  obtain ⟨wb, hwb⟩ : ∃ wb, ((w.alloc (.cells (ws h).toArray tH8)).alloc (.cells (bys z32).toArray tA32)).alloc (.cells (bys z32).toArray tA32) = wb := ⟨_, rfl⟩
  have h0 : Blk wb w.heap.size (ws h) tH8 := by rw [← hwb]; exact ((Blk.new w (ws h) tH8).alloc _).alloc _
  have h1 : Blk wb (w.heap.size + 1) (bys z32) tA32 := by
    rw [← hwb]
    have := (Blk.new (w.alloc (.cells (ws h).toArray tH8)) (bys z32) tA32).alloc (.cells (bys z32).toArray tA32)
    simp only [World.size_alloc] at this; exact this
  have h2 : Blk wb (w.heap.size + 1 + 1) (bys z32) tA32 := by
    rw [← hwb]
    have := Blk.new ((w.alloc (.cells (ws h).toArray tH8)).alloc (.cells (bys z32).toArray tA32)) (bys z32) tA32
    simp only [World.size_alloc] at this; exact this
  have hB0 : Below w.heap.size w wb := by rw [← hwb]; exact (((Below.refl _ _).alloc (Nat.le_refl _) _).alloc (by simp) _).alloc (by simp; omega) _
  have hsz : wb.heap.size = w.heap.size + 3 := by rw [← hwb]; simp
  obtain ⟨b3, hb3⟩ : ∃ b, w.heap.size + 1 + 1 = b := ⟨_, rfl⟩
  rw [hb3] at h2
  have hsh : (Tryz.prog.info? tH8).map (·.size) = some (ws h).length := by rw [sizeH8, ws_length, hh]
  have hwh := hid h0.whole
  have Hwb := hid hwb
  have Hb3 := hid hb3
  have Hsz := hid hsz
  have h2 : Blk wb b3 (bys (outN h 0 ++ List.replicate (32 - 4 * 0) 0)) tA32 := h2
  clear hwb hb3 hsz h0
  go_enter Tryz.func43, Tryz.ntmps43
  go_upto_region 2 with fail
  rw [Hb3.out]
  change Code.wp _ _ _ _ (((w.alloc (.cells (ws h).toArray tH8)).alloc (.cells (bys z32).toArray tA32)).alloc (.cells (bys z32).toArray tA32))
  rw [Hwb.out]
  go_wp2_with (refine wpList_load_mid rfl tH8 (.tmp 1) rfl w.heap.size 0 rfl (ws h) _ hwh.out Tryz.underlying77 rfl hsh ?_)
  clear hwh hsh
  go_loopw [7] (fun i wr => ∃ k : Nat, k ≤ 8 ∧ i = .int .i64 k ∧ Blk wr b3 (bys (outN h k ++ List.replicate (32 - 4 * k) 0)) tA32 ∧ Chg wb.heap.size [b3] wb wr) (fun i _ => 8 - (intOf i).toNat)
  case atStart => exact ⟨0, by omega, rfl, h2, Chg.refl _ _ _⟩
  case round =>
    clear h2
    obtain ⟨k, hk, rfl, hb, hC⟩ := hrel
    by_cases hlt : k < 8
    · have q1 : (k : Int) < 8 := by omega
      have hol : (bys (outN h k ++ List.replicate (32 - 4 * k) 0)).length = 32 := by rw [bys_length, List.length_append, outN_len, List.length_replicate]; omega
      have hsp := splice_outN h k hlt
      obtain ⟨q, hq⟩ : ∃ q, 4 * k = q := ⟨_, rfl⟩
      have q3 : (4 : Int) * (k : Int) = (q : Int) := by omega
      have hq60 : q ≤ 28 := by omega
      have hsl := slice32q b3 q hq60
      have hqw : IntKind.i64.wrap (q : Int) = (q : Int) := by rw [IntKind.wrap_i64]; omega
      have hix := fun W => idx8 h hh k hlt W
      generalize h.getD k 0 = x at hsp hix
      have hzw : IntKind.u64.wrap (wv x) = wv x := by have := wv_lo x; have := wv_hi x; rw [IntKind.wrap_u64]; omega
      rw [hq] at hsp
      obtain ⟨OL, hOL⟩ : ∃ OL, bys (outN h k ++ List.replicate (32 - 4 * k) 0) = OL := ⟨_, rfl⟩
      rw [hq] at hOL hb hol
      rw [hOL] at hb hol hsp
      have Hsp := hid hsp
      have Hol := hid hol
      have Hq := hid hq
      have hx := x.toNat_lt
      clear hq hsp hol hOL
      go_upto_region 5 with fail
      have S0 : Below wr.heap.size wr wr.drew := (Below.refl _ _).drew
      try simp only [Act.put]
      refine tkR (fun w' => Below wr.heap.size wr w') [6] (by kernel_rfl) (fun c a d v w h => by cases d <;> exact h) (S0) (fun hPF hHeld => ?_)
      refine tkB 0 (.some 11) _ _ rfl rfl (by kernel_rfl) (by kernel_rfl) (by kernel_rfl) (by kernel_rfl) hPF rfl (fun w' => by (go_simp; try with_reducible rfl)) hHeld (fun hHeld => ?_)
      simp only [Act.put, List.setIfInBounds_toArray, List.set_cons_zero, List.set_cons_succ]
      refine tkA 1 (.some 12) _ _ rfl rfl (by kernel_rfl) (by kernel_rfl) (by kernel_rfl) (by kernel_rfl) (by kernel_rfl) hPF rfl (fun w' hw' => by (have h1 := hqw; go_simp; try with_reducible rfl)) hHeld (fun hHeld => ?_)
      simp only [Act.put, List.setIfInBounds_toArray, List.set_cons_zero, List.set_cons_succ]
      refine tkB 2 (.some 13) _ _ rfl rfl (by kernel_rfl) (by kernel_rfl) (by kernel_rfl) (by kernel_rfl) hPF rfl (fun w' => by (go_simp; try with_reducible rfl)) hHeld (fun hHeld => ?_)
      simp only [Act.put, List.setIfInBounds_toArray, List.set_cons_zero, List.set_cons_succ]
      refine tkB 3 (.some 14) _ _ rfl rfl (by kernel_rfl) (by kernel_rfl) (by kernel_rfl) (by kernel_rfl) hPF rfl (fun w' => by (go_simp; try with_reducible rfl)) hHeld (fun hHeld => ?_)
      simp only [Act.put, List.setIfInBounds_toArray, List.set_cons_zero, List.set_cons_succ]
      refine tkA 4 (.some 15) _ _ rfl rfl (by kernel_rfl) (by kernel_rfl) (by kernel_rfl) (by kernel_rfl) (by kernel_rfl) hPF rfl (fun w' hw' => by (have h1 := hzw; go_simp; try with_reducible rfl)) hHeld (fun hHeld => ?_)
      simp only [Act.put, List.setIfInBounds_toArray, List.set_cons_zero, List.set_cons_succ]
      have hS := hHeld (by kernel_rfl)
      refine tkW (rs := [5]) (by kernel_rfl) (by simp) (AllK.cons (o := _) rfl (fun KC hKC => ?_) AllK.nil)
      go_simp
      refine (putbig_any _ x.toNat 4 (by omega) (by omega)).mono ?_
      rintro e w11 ⟨rfl, hP, hB11⟩
      have h11 := hS.trans (hB11.mono hS.size)
      have hbo11 := hb.below h11 hb.lt
      have hC11 := hC.trans (Chg.ofBelow (h11.mono hC.size))
      clear hB11
      refine hKC.out _ _ (h11) (fun hHeld => ?_)
      clear hKC KC
      try simp only [Act.put, List.setIfInBounds_toArray, List.set_cons_zero, List.set_cons_succ]
      refine tkW (rs := [6]) (by kernel_rfl) (by simp) (AllK.close (o := _) rfl (by kernel_rfl) (fun KC hKC => ?_) AllK.nil)
      refine wantIt rfl (wp_copy_blk (.some 17) rfl (.tmp 13) (.tmp 16) 23 23 rfl 5 under33b (by kernel_rfl) b3 q (32 - q) (32 - q) (wr.drew.heap.size + 1) 0 4 4 rfl rfl OL (bys (toBe 4 x.toNat)) tA32 tU8 hbo11 hP 4 (Nat.min_eq_left (show 4 ≤ 32 - q by omega)).symm (by rw [Hol.out]; omega) (by rw [bys_length, toBe_len]; decide) (bys_one _) ?_)
      intro w12 hb12 hC12 hz12
      rw [List.drop_zero, List.take_of_length_le (by rw [bys_length, toBe_len]; decide), Hsp.out] at hb12
      have hC12' := hC11.trans (hC12.mono hC11.size (fun k _ h => h))
      clear hC12 hbo11 hC11
      refine hKC.out _ _ (fun hHeld => ?_)
      clear hKC KC
      try simp only [Act.put, List.setIfInBounds_toArray, List.set_cons_zero, List.set_cons_succ]
      refine tkD (by kernel_rfl) ?_ _
      clear hC hb
      go_wp2_with fail
      go_roundw
      case rel => exact ⟨k + 1, by omega, by go_num, hb12, hC12'⟩
      case measure => (simp [intOf]; try omega)
    · obtain rfl : k = 8 := by omega
      have q1 : ¬ (((8 : Nat) : Int) < 8) := by omega
      have hbo2 : Blk wr b3 (bys (outS h)) tA32 := by
        rw [← outN_all h hh]
        simpa using hb
      have h6 := h1.chg hC h1.lt (by simp; have := Hb3.out; omega)
      have hBl : (outS h).length = 32 := by rw [outS_len, hh]
      have hB9 : Below w.heap.size wb wr := hC.below (by have := Hsz.out; omega) (by intro k hk; simp at hk; have := Hb3.out; omega)
      obtain ⟨R, hR⟩ : ∃ R, outS h = R := ⟨_, rfl⟩
      rw [hR] at hbo2 hBl
      have HR := hid hR
      have Hil2 := hid hBl
      have hsr : (Tryz.prog.info? tA32).map (·.size) = some (bys R).length := by rw [size32s, bys_length, hBl]
      have hz : (bys z32).length = 32 := rfl
      clear hb hR hBl hC hk hlt
      go_wp2_with (first | (refine wpList_load_mid rfl tA32 (.tmp 3) rfl b3 0 rfl (bys R) _ hbo2.whole Tryz.underlying35 rfl hsr ?_) | (refine wpList_store_mid rfl tA32 (.tmp 2) (.tmp 19) rfl (w.heap.size + 1) 0 (bys R).toArray rfl rfl (h6.there 0 _ (by rw [List.size_toArray, hz, bys_length, Hil2.out]; decide)) (by rw [size32s, List.size_toArray, bys_length, Hil2.out]) (all_oneCell_toArray (bys_one _)) ?_))
      have g1 := h6.setCells (bys R) 0 (by rw [hz, bys_length, Hil2.out]; decide)
      rw [splice_whole _ _ (by rw [hz, bys_length, Hil2.out])] at g1
      refine bodyPost_ret (v := .agg (bys R).toArray) (results_cell_row (P := Tryz.prog) (p := 2) (ty := tA32) rfl _ _ (w.heap.size + 1) tA32 _ (0, 0) _ rfl g1 Tryz.underlying35 rfl hsr) rfl ⟨by rw [HR.out], ?_⟩
      exact hB0.trans (hB9.trans (((Chg.refl w.heap.size [] wr).setCells (b := w.heap.size + 1) (.inr (by omega)) (bys R) 0).below (Nat.le_refl _) (by simp)))

def startL : List Value := [.int .u32 1779033703, .int .u32 3144134277, .int .u32 1013904242, .int .u32 2773480762, .int .u32 1359893119, .int .u32 2600822924, .int .u32 528734635, .int .u32 1541459225]
theorem startL_eq : ws shaStart = startL := by kernel_rfl
theorem startL_one : ∀ v ∈ startL, v.oneCell' = true := by rw [← startL_eq]; exact ws_one _
set_option maxRecDepth 100000 in
set_option maxHeartbeats 4000000 in
theorem sstart0 (w : World) : Calls Tryz.prog 45 #[] w fun e w' => e = .returned (.agg startL.toArray) ∧ Below w.heap.size w w' := by
  have hb := Blk.new w (ws z8) tH8
  have hB : Below w.heap.size w (w.alloc (.cells (ws z8).toArray tH8)) := (Below.refl _ _).alloc (Nat.le_refl _) _
  have ht := hid (hb.there 0 8 (Nat.le_refl _))
  have hone := hid (all_oneCell_toArray startL_one)
  have g1 := hb.setCells startL 0 (by decide)
  rw [splice_whole _ _ (by rfl)] at g1
  have hB2 := hid (hB.trans (((Chg.refl w.heap.size [] _).setCells (b := w.heap.size) (.inr (by omega)) startL 0).below (Nat.le_refl _) (by simp)))
  obtain ⟨w2, hw2⟩ : ∃ w2, (w.alloc (.cells (ws z8).toArray tH8)).setCells w.heap.size 0 startL = w2 := ⟨_, rfl⟩
  rw [hw2] at g1 hB2
  have HW2 := hid hw2
  clear hb hB hw2
  go_enter Tryz.func45, Tryz.ntmps45
  go_wp2_with (refine wpList_store_mid rfl tH8 (.tmp 0) (.tmp 1) rfl w.heap.size 0 startL.toArray rfl rfl ht.out sizeH8 hone.out ?_; change wpList _ _ _ _ _ ((w.alloc (.cells (ws z8).toArray tH8)).setCells w.heap.size 0 startL); rw [HW2.out])
  have hRl : (Tryz.prog.info? tH8).map (·.size) = some startL.length := sizeH8
  generalize startL = R at *
  refine bodyPost_ret (v := .agg R.toArray) (results_cell_row (P := Tryz.prog) (p := 0) (ty := tH8) rfl _ _ w.heap.size tH8 _ (0, 0) _ rfl g1 Tryz.underlying77 rfl hRl) rfl ⟨rfl, hB2.out⟩
theorem sstart_any (w : World) : Calls Tryz.prog 45 #[] w fun e w' => e = .returned (.agg (ws shaStart).toArray) ∧ Below w.heap.size w w' :=
  (sstart0 w).mono (by rintro e w' ⟨rfl, hB⟩; exact ⟨by rw [startL_eq], hB⟩)

theorem padS_len (n : Nat) : (padS n).length = 9 + (119 - n % 64) % 64 := by unfold padS; simp [toBe_len]; omega
set_option maxRecDepth 100000 in
set_option maxHeartbeats 4000000 in
/-- What is put behind a message of so many bytes. -/
theorem spad_any (w : World) (n : Nat) (hn : n < 1000000000) :
    Calls Tryz.prog 36 #[.int .i64 n] w fun e w' => ∃ v, e = .returned v ∧ OwnR w.heap.size w' v (padS n) ∧ Below w.heap.size w w' := by
  obtain ⟨k, hk⟩ : ∃ k, (119 - n % 64) % 64 = k := ⟨_, rfl⟩
  obtain ⟨r, hr⟩ : ∃ r, n % 64 = r := ⟨_, rfl⟩
  have m1 : ((n : Int)).tmod 64 = (r : Int) := by rw [Int.tmod_eq_emod_of_nonneg (by omega)]; omega
  obtain ⟨d, hd⟩ : ∃ d, 119 - r = d := ⟨_, rfl⟩
  have m2 : (119 : Int) - (r : Int) = (d : Int) := by omega
  have m3 : ((d : Int)).tmod 64 = (k : Int) := by rw [Int.tmod_eq_emod_of_nonneg (by omega)]; omega
  have dl : d < 200 := by omega
  have rl : r < 64 := by omega
  have kl : k < 64 := by omega
  have hneg : ¬ ((n : Int) < 0) := by omega
  obtain ⟨x, hx⟩ : ∃ x, 8 * n = x := ⟨_, rfl⟩
  have m4 : (8 : Int) * (n : Int) = (x : Int) := by omega
  have xl : x < 8000000000 := by omega
  have m5 : IntKind.u64.wrap (n : Int) = (n : Int) := by rw [IntKind.wrap_u64]; omega
  have m6 : IntKind.u64.wrap (x : Int) = (x : Int) := by rw [IntKind.wrap_u64]; omega
  have hdef := hid (show padS n = [128] ++ List.replicate k 0 ++ toBe 8 x by unfold padS; rw [hk, hx, Nat.mod_eq_of_lt (by omega)])
  have Hk := hid hk
  clear hk hr hd hx
  go_enter Tryz.func36, Tryz.ntmps36
  go_upto_region 4 with fail
  have hb := OwnR.ofBlk (base := w.heap.size) (n := 1) (Blk.new w (bys [128]) tU8) (Nat.le_refl _) rfl (by omega)
  obtain ⟨v2, w2, hrun, hO2, hg2⟩ := run_append_zeros _ w.heap.size 23 _ [128] hb (by decide) k (by omega) (by decide) (by simp)
  have hrun : (Builtin.append_ #[23, 3] 23 #[.slice (some ⟨w.heap.size, 0, none⟩) 1 1, .int .i64 (k : Int)]).run Tryz.prog (w.alloc (.cells #[.int .u8 128] tU8)) = .ok v2 w2 := hrun
  have hB2 : Below w.heap.size w w2 := ((Below.refl _ _).alloc (Nat.le_refl _) (.cells (bys [128]).toArray tU8)).trans (below_grown hg2 (by simp) (fun j e => by cases e; exact Nat.le_refl _))
  have hl2 : ([128] ++ List.replicate k (0 : UInt8)).length = k + 1 := by simp
  generalize [128] ++ List.replicate k (0 : UInt8) = L at *
  clear hb hg2
  go_wp2_with (refine wpList_append_got rfl (.tmp 10) (.tmp 11) 23 3 rfl _ (.int .i64 (k : Int)) _ rfl rfl hrun ?_)
  refine (putbig_any w2 x 8 (by omega) (by omega)).mono ?_
  rintro e w3 ⟨rfl, hP, hB3⟩
  have hO3 := hO2.below hB3
  have hB4 := hB2.trans (hB3.mono hB2.size)
  have hs4 := hB4.size
  go_wp2_with (refine wpList_addO hO3 rfl (.tmp 12) (.tmp 16) rfl rfl (some ⟨w2.heap.size + 1, 0, none⟩) 8 8 (toBe 8 x) rfl hP.rowAt0 (toBe_len _ _) (by rw [hl2]; omega) hs4 ?_; intro v4 w4 hO4 hg4 _)
  go_ret
  refine ⟨v4, rfl, by rw [hdef.out]; exact hO4, hB4.trans (below_grown hg4 hs4 (fun j e => (hO3.lt j e).1))⟩
end Go.Proofs.YtnmmnlffobnbfaaGreatDoor

/- sha: Write, walked (printed by gen_sw.py) -/
namespace Go.Proofs.YtnmmnlffobnbfaaGreatDoor
open Go.RowKit

abbrev tSst : TypeId := 94
theorem sizeSst : (Tryz.prog.info? tSst).map (·.size) = some 10 := by kernel_rfl
def SC (h : List UInt32) (v : Value) (n : Nat) : List Value := ws h ++ [v, .int .i64 (n : Int)]
theorem SC_words (h : List UInt32) (v : Value) (n : Nat) (hh : h.length = 8) : ((SC h v n).drop 0).take 8 = ws h := by
  unfold SC; rw [List.drop_zero, List.take_append_of_le_length (by rw [ws_length, hh]; decide), List.take_of_length_le (by rw [ws_length, hh]; decide)]
theorem SC_at8 (h : List UInt32) (v : Value) (n : Nat) (hh : h.length = 8) : (SC h v n)[8]? = some v := by
  obtain ⟨v0, v1, v2, v3, v4, v5, v6, v7, rfl⟩ := len8 hh; rfl
theorem SC_at9 (h : List UInt32) (v : Value) (n : Nat) (hh : h.length = 8) : (SC h v n)[9]? = some (.int .i64 (n : Int)) := by
  obtain ⟨v0, v1, v2, v3, v4, v5, v6, v7, rfl⟩ := len8 hh; rfl
theorem SC_set8 (h : List UInt32) (v u : Value) (n : Nat) (hh : h.length = 8) : (SC h v n).set 8 u = SC h u n := by
  obtain ⟨v0, v1, v2, v3, v4, v5, v6, v7, rfl⟩ := len8 hh; rfl
theorem SC_set9 (h : List UInt32) (v : Value) (n m : Nat) (hh : h.length = 8) : (SC h v n).set 9 (.int .i64 (m : Int)) = SC h v m := by
  obtain ⟨v0, v1, v2, v3, v4, v5, v6, v7, rfl⟩ := len8 hh; rfl
theorem SC_len (h : List UInt32) (v : Value) (n : Nat) (hh : h.length = 8) : (SC h v n).length = 10 := by simp [SC, ws_length, hh]
theorem SC_splice (h g : List UInt32) (v : Value) (n : Nat) (hh : h.length = 8) (hg : g.length = 8) : splice (SC h v n) 0 (ws g) = SC g v n := by
  unfold splice SC
  rw [List.take_zero, List.nil_append, Nat.zero_add, ws_length, hg, List.drop_append_of_le_length (by rw [ws_length, hh]; decide), List.drop_of_length_le (by rw [ws_length, hh]; decide), List.nil_append]
theorem SC_one (h : List UInt32) (v : Value) (n : Nat) (hv : v.oneCell' = true) : ∀ u ∈ SC h v n, u.oneCell' = true := by
  intro u hu
  unfold SC at hu
  rcases List.mem_append.1 hu with hu | hu
  · exact ws_one _ _ hu
  · simp only [List.mem_cons, List.not_mem_nil, or_false] at hu
    rcases hu with rfl | rfl
    · exact hv
    · rfl
theorem arr64 (b o n c : Nat) (hn : 64 ≤ n) (W : World) : (Instr.arrayAt tB64 (.slice (some ⟨b, o, none⟩) n c)).run Tryz.prog W = .ok (.pointer (some ⟨b, o, none⟩)) W := run_arrayAt W tB64 5 64 (some ⟨b, o, none⟩) n c Tryz.underlying81 hn
/-- All blocks but one stay, if they are no rows of bytes. -/
def KeepX (q : Nat) (w w' : World) : Prop := ∀ k cs T, Blk w k cs T → k ≠ q → T ≠ tU8 → Blk w' k cs T
theorem KeepX.refl (q : Nat) (w : World) : KeepX q w w := fun _ _ _ h _ _ => h
theorem KeepX.trans {q : Nat} {a b c : World} (h1 : KeepX q a b) (h2 : KeepX q b c) : KeepX q a c := fun k cs T h hk hT => h2 k cs T (h1 k cs T h hk hT) hk hT
theorem KeepX.ofChg {q : Nat} {w w' : World} (h : Chg w.heap.size [q] w w') : KeepX q w w' := fun _ _ _ hb hk _ => hb.chg h hb.lt (by simpa using hk)
theorem KeepX.ofBelow {q : Nat} {w w' : World} (h : Below w.heap.size w w') : KeepX q w w' := fun _ _ _ hb _ _ => hb.below h hb.lt
theorem KeepX.grown {q base : Nat} {w w' : World} {v : Value} {l : List UInt8} (hT : TailR base w v l) (hg : w.grownBy w' v.ownBlock) : KeepX q w w' := fun k cs T hb _ hne => hb.kept hg (fun e => by
  obtain ⟨cs2, h2⟩ := hT.typ k e
  obtain ⟨_, _, e3⟩ : True ∧ True ∧ T = tU8 := ⟨trivial, trivial, by
    rcases Classical.em (T = tU8) with h | h
    · exact h
    · exact absurd rfl (hb.ne h2 h)⟩
  exact hne e3)
/-- The loop of Write. -/
structure SJ (base : Nat) (w wr : World) (p : Nat) (R : List UInt32 × List UInt8) (h : List UInt32) (v : Value) (l : List UInt8) (n : Nat) : Prop where
  blk : Blk wr p (SC h v n) tSst
  row : TailR base wr v l
  len : h.length = 8
  res : swrF h l = R
  below : Below base w wr
  size : base ≤ wr.heap.size
  keep : KeepX p w wr
theorem stail_ne {base : Nat} {w : World} {v : Value} {l : List UInt8} {p : Nat} {cs : List Value} (h : TailR base w v l) (hb : Blk w p cs tSst) : v.ownBlock ≠ some p := fun e => by
  obtain ⟨cs2, h2⟩ := h.typ p e
  exact absurd rfl (h2.ne hb (by decide))

set_option maxRecDepth 100000 in
set_option maxHeartbeats 8000000 in
theorem swrite_any (base : Nat) (w : World) (hW : TabW w) (hb0 : 0 < base) (p : Nat) (hp0 : base ≤ p) (h : List UInt32) (v : Value) (l : List UInt8) (q : Nat) (hB : Blk w p (SC h v q) tSst) (hT : TailR base w v l) (hh : h.length = 8) (hl : l.length < 64) (pb : Option Addr) (n cap : Nat) (b : List UInt8) (hb : RowAt w pb b) (hn : b.length = n) (h9 : n < 1000000000) (hq9 : q < 1000000000) (hbase : base ≤ w.heap.size) :
    Calls Tryz.prog 15 #[.pointer (some ⟨p, 0, none⟩), .slice pb n cap] w fun e w' => e = .returned (.tuple #[]) ∧ (∃ v', Blk w' p (SC (swrF h (l ++ b)).1 v' (q + n)) tSst ∧ TailR base w' v' (swrF h (l ++ b)).2) ∧ Below base w w' ∧ KeepX p w w' := by
  have hres := hid (show swrF h (l ++ b) = swrF h (l ++ b) from rfl)
  obtain ⟨Q, hQ⟩ : ∃ Q, q + n = Q := ⟨_, rfl⟩
  have hQi : (q : Int) + (n : Int) = (Q : Int) := by omega
  have hQw : IntKind.i64.wrap (Q : Int) = (Q : Int) := by rw [IntKind.wrap_i64]; omega
  have HQ := hid hQ
  rw [hQ]
  clear hQ
  go_enter Tryz.func15, Tryz.ntmps15
  refine wp_scope_loop 0 (fun a' w' => ∃ (h' : List UInt32) (v : Value) (l' : List UInt8) (u2 u3 u4 u5 u6 u7 u8 u9 u10 u11 u12 u13 u14 u15 u16 u17 u18 u19 u20 u21 u22 u23 u24 u25 u26 u27 u28 u29 u30 u31 u32 u33 u34 u35 u36 u37 u38 u39 u40 u41 u42 u43 u44 u45 u46 u47 u48 u49 u50 u51 : Value), a' = { tmps := #[.pointer (some ⟨p, 0, none⟩), .slice pb n cap, u2, u3, u4, u5, u6, u7, u8, u9, u10, u11, u12, u13, u14, u15, u16, u17, u18, u19, u20, u21, u22, u23, u24, u25, u26, u27, u28, u29, u30, u31, u32, u33, u34, u35, u36, u37, u38, u39, u40, u41, u42, u43, u44, u45, u46, u47, u48, u49, u50, u51], defers := [] } ∧ SJ base w w' p (swrF h (l ++ b)) h' v l' Q) (cellLen p 8) rfl ?_ ?_
  · rintro a' w' M ⟨h', v, l', u2, u3, u4, u5, u6, u7, u8, u9, u10, u11, u12, u13, u14, u15, u16, u17, u18, u19, u20, u21, u22, u23, u24, u25, u26, u27, u28, u29, u30, u31, u32, u33, u34, u35, u36, u37, u38, u39, u40, u41, u42, u43, u44, u45, u46, u47, u48, u49, u50, u51, rfl, hJ⟩ hM
    obtain ⟨hB, hT, hok, hres, hbel, hsz, hkp⟩ := hJ
    by_cases hlt : l'.length < 64
    · obtain ⟨pa, ca, rfl, hca, hra⟩ := hT.row
      have c8 : w'.cell? ⟨p, 8, none⟩ = some (.slice pa l'.length ca) := (hB.cell 8).trans (SC_at8 _ _ _ hok)
      have hfin := hid (show (∃ v', Blk w' p (SC (swrF h (l ++ b)).1 v' Q) tSst ∧ TailR base w' v' (swrF h (l ++ b)).2) from by
        refine ⟨.slice pa l'.length ca, ?_, ?_⟩
        · rw [← hres, swrF_short h' l' hlt]; exact hB
        · rw [← hres, swrF_short h' l' hlt]; exact hT)
      have hl16 : (l'.length : Int) < 64 := by omega
      clear hB hT hra hres
      go_wp2_with fail
      simp only [Exit.jump]
      refine bodyPost_ret (v := .tuple #[]) (results_none rfl _ _ _) rfl ⟨rfl, hfin.out, hbel, hkp⟩
    · have hTT := hT
      obtain ⟨v', he, hT', hob⟩ := hT.drop 64 (by omega) (by omega)
      have he : ∀ W, (Instr.sliceAt 23 v (some (.int .i64 64)) none none).run Tryz.prog W = .ok v' W := he
      rcases hT with ⟨_, h0⟩ | ⟨g, off, ca, cs, rfl, hg, hG, hca, hoc, htk⟩
      · exact absurd (by rw [h0]; simp) hlt
      have hgp : g ≠ p := hG.ne hB (by decide)
      have c8 : w'.cell? ⟨p, 8, none⟩ = some (.slice (some ⟨g, off, none⟩) l'.length ca) := (hB.cell 8).trans (SC_at8 _ _ _ hok)
      have hl16 : ¬ (l'.length : Int) < 64 := by omega
      have hM1 : M = l'.length := by rw [← hM]; unfold cellLen; rw [c8]
      have hst := hid (show swrF (shaBlk h' (l'.take 64)) (l'.drop 64) = swrF h (l ++ b) from by rw [← hres, swrF_long h' l' hlt])
      have ht64 : (l'.take 64).length = 64 := by rw [List.length_take]; omega
      have hrg : (cs.drop off).take 64 = bys (l'.take 64) := by
        have e : (cs.drop off).take 64 = ((cs.drop off).take l'.length).take 64 := by rw [List.take_take, Nat.min_eq_left (by omega)]
        rw [e, htk]; simp [bys]
      have Hrg := hid (fun (w2 : World) (hx : Blk w2 g cs tU8) => (show w2.rangeAt g off (bys (l'.take 64)) from by have := hx.range off 64; rw [hrg] at this; exact this))
      have Hwd := hid (fun (w2 : World) (hx : Blk w2 p (SC h' (.slice (some ⟨g, off, none⟩) l'.length ca) Q) tSst) => (show w2.rangeAt p 0 (ws h') from by have := hx.range 0 8; rw [SC_words _ _ _ hok] at this; exact this))
      have Hc8 := hid (fun (w2 : World) (hx : Blk w2 p (SC h' (.slice (some ⟨g, off, none⟩) l'.length ca) Q) tSst) => (hx.cell 8).trans (SC_at8 _ _ _ hok))
      have hsw : (Tryz.prog.info? tH8).map (·.size) = some (ws h').length := by rw [sizeH8, ws_length, hok]
      have hsb : (Tryz.prog.info? tB64).map (·.size) = some (bys (l'.take 64)).length := by rw [size64, bys_length, ht64]
      have har := arr64 g off l'.length ca (by omega)
      have hnl := shaBlk_len h' (l'.take 64)
      have hwT := hW.below hbel hb0
      have hlen := hB.lt
      have hglt := hG.lt
      clear hM hres htk hoc
      go_upto_region 4 with fail
      have S0 : Below w'.heap.size w' w'.drew := (Below.refl _ _).drew
      have Ht64 := hid ht64
      have HB := hid hB
      have HG := hid hG
      obtain ⟨L, hL⟩ : ∃ L, l'.take 64 = L := ⟨_, rfl⟩
      rw [hL] at Hrg hsb Ht64 hst hnl
      clear hL ht64 hB hG hrg
      try simp only [Act.put]
      refine tkR (fun w2 => Below w'.heap.size w' w2) [14] (by kernel_rfl) (fun c a d v w h => by cases d <;> exact h) (S0) (fun hPF hHeld => ?_)
      refine tkB 0 (.some 30) _ _ rfl rfl (by kernel_rfl) (by kernel_rfl) (by kernel_rfl) (by kernel_rfl) hPF rfl (fun w' => by (go_simp; try with_reducible rfl)) hHeld (fun hHeld => ?_)
      simp only [Act.put, List.setIfInBounds_toArray, List.set_cons_zero, List.set_cons_succ]
      refine tkB 1 (.some 31) _ _ rfl rfl (by kernel_rfl) (by kernel_rfl) (by kernel_rfl) (by kernel_rfl) hPF rfl (fun w' => by (go_simp; try with_reducible rfl)) hHeld (fun hHeld => ?_)
      simp only [Act.put, List.setIfInBounds_toArray, List.set_cons_zero, List.set_cons_succ]
      refine tkB 2 (.some 32) _ _ rfl rfl (by kernel_rfl) (by kernel_rfl) (by kernel_rfl) (by kernel_rfl) hPF rfl (fun w' => by (go_simp; try with_reducible rfl)) hHeld (fun hHeld => ?_)
      simp only [Act.put, List.setIfInBounds_toArray, List.set_cons_zero, List.set_cons_succ]
      refine tkB 3 (.some 33) _ _ rfl rfl (by kernel_rfl) (by kernel_rfl) (by kernel_rfl) (by kernel_rfl) hPF rfl (fun w' => by (go_simp; try with_reducible rfl)) hHeld (fun hHeld => ?_)
      simp only [Act.put, List.setIfInBounds_toArray, List.set_cons_zero, List.set_cons_succ]
      refine tkL 4 (.some 34) _ rfl rfl 77 (.tmp 33) rfl p 0 (ws h') _ (by kernel_rfl) (by kernel_rfl) (by kernel_rfl) (by kernel_rfl) (by kernel_rfl) hPF rfl rfl (fun w' hw' => (Hwd.out _ (HB.out.below hw' HB.out.lt))) Tryz.underlying77 rfl hsw hHeld (fun hHeld => ?_)
      simp only [Act.put, List.setIfInBounds_toArray, List.set_cons_zero, List.set_cons_succ]
      refine tkB 5 (.some 35) _ _ rfl rfl (by kernel_rfl) (by kernel_rfl) (by kernel_rfl) (by kernel_rfl) hPF rfl (fun w' => by (go_simp; try with_reducible rfl)) hHeld (fun hHeld => ?_)
      simp only [Act.put, List.setIfInBounds_toArray, List.set_cons_zero, List.set_cons_succ]
      refine tkB 6 (.some 36) _ _ rfl rfl (by kernel_rfl) (by kernel_rfl) (by kernel_rfl) (by kernel_rfl) hPF rfl (fun w' => by (go_simp; try with_reducible rfl)) hHeld (fun hHeld => ?_)
      simp only [Act.put, List.setIfInBounds_toArray, List.set_cons_zero, List.set_cons_succ]
      refine tkB 7 (.some 37) _ _ rfl rfl (by kernel_rfl) (by kernel_rfl) (by kernel_rfl) (by kernel_rfl) hPF rfl (fun w' => by (go_simp; try with_reducible rfl)) hHeld (fun hHeld => ?_)
      simp only [Act.put, List.setIfInBounds_toArray, List.set_cons_zero, List.set_cons_succ]
      refine tkA 8 (.some 38) _ _ rfl rfl (by kernel_rfl) (by kernel_rfl) (by kernel_rfl) (by kernel_rfl) (by kernel_rfl) hPF rfl (fun w' hw' => by (have h1 := Hc8.out _ (HB.out.below hw' HB.out.lt); go_simp; try with_reducible rfl)) hHeld (fun hHeld => ?_)
      simp only [Act.put, List.setIfInBounds_toArray, List.set_cons_zero, List.set_cons_succ]
      refine tkA 9 (.some 39) _ (.pointer (some ⟨g, off, none⟩)) rfl rfl (by kernel_rfl) (by kernel_rfl) (by kernel_rfl) (by kernel_rfl) (by kernel_rfl) hPF rfl (fun w' hw' => by (go_simp)) hHeld (fun hHeld => ?_)
      simp only [Act.put, List.setIfInBounds_toArray, List.set_cons_zero, List.set_cons_succ]
      refine tkL 10 (.some 40) _ rfl rfl 81 (.tmp 39) rfl g off (bys L) _ (by kernel_rfl) (by kernel_rfl) (by kernel_rfl) (by kernel_rfl) (by kernel_rfl) hPF rfl rfl (fun w' hw' => (Hrg.out _ (HG.out.below hw' HG.out.lt))) Tryz.underlying81 rfl hsb hHeld (fun hHeld => ?_)
      simp only [Act.put, List.setIfInBounds_toArray, List.set_cons_zero, List.set_cons_succ]
      have hS := hHeld (by kernel_rfl)
      refine tkW (rs := [11]) (by kernel_rfl) (by simp) (AllK.cons (o := _) rfl (fun KC hKC => ?_) AllK.nil)
      go_simp
      refine (hblock_any _ (hwT.below hS (Nat.lt_of_lt_of_le hb0 hsz)) h' L hok Ht64.out).mono ?_
      rintro e w11 ⟨rfl, hB11⟩
      have h11 := hS.trans (hB11.mono hS.size)
      have hb11 := HB.out.below h11 HB.out.lt
      refine hKC.out _ _ (h11) (fun hHeld => ?_)
      clear hKC KC
      try simp only [Act.put, List.setIfInBounds_toArray, List.set_cons_zero, List.set_cons_succ]
      refine tkB 12 (.some 42) _ _ rfl rfl (by kernel_rfl) (by kernel_rfl) (by kernel_rfl) (by kernel_rfl) hPF rfl (fun w' => by (go_simp; try with_reducible rfl)) hHeld (fun hHeld => ?_)
      simp only [Act.put, List.setIfInBounds_toArray, List.set_cons_zero, List.set_cons_succ]
      refine tkB 13 (.some 43) _ _ rfl rfl (by kernel_rfl) (by kernel_rfl) (by kernel_rfl) (by kernel_rfl) hPF rfl (fun w' => by (go_simp; try with_reducible rfl)) hHeld (fun hHeld => ?_)
      simp only [Act.put, List.setIfInBounds_toArray, List.set_cons_zero, List.set_cons_succ]
      refine tkW (rs := [14]) (by kernel_rfl) (by simp) (AllK.close (o := _) rfl (by kernel_rfl) (fun KC hKC => ?_) AllK.nil)
      refine wantIt rfl (wp_storeD .none rfl tH8 (.tmp 43) (.tmp 41) rfl p 0 (ws (shaBlk h' L)).toArray rfl rfl (hb11.there 0 _ (by rw [List.size_toArray, ws_length, hnl, SC_len _ _ _ hok]; decide)) (by rw [sizeH8, List.size_toArray, ws_length, hnl]) (all_oneCell_toArray (ws_one _)) ?_)
      refine hKC.out _ _ (fun hHeld => ?_)
      clear hKC KC
      try simp only [Act.put]
      refine tkD (by kernel_rfl) ?_ _
      change Exit.then _ _ _ _ (w11.setCells p 0 (ws (shaBlk h' L)))
      have hb3 := hb11.setCells (ws (shaBlk h' L)) 0 (by rw [ws_length, hnl, SC_len _ _ _ hok]; decide)
      rw [SC_splice _ _ _ _ hok hnl] at hb3
      have hC3 : Chg w11.heap.size [p] w11 (w11.setCells p 0 (ws (shaBlk h' L))) := (Chg.refl _ _ _).setCells (.inl (by simp)) _ _
      have hT1 := hT'.below h11
      have hT3' := hT1.chg hC3 (Nat.le_refl _) (fun q e => by rw [hob] at e; cases e; simpa using hgp)
      have hbel1 := hbel.trans (h11.mono hsz)
      have hs1 := h11.size
      have hbel3 := hbel1.trans (hC3.below (M := base) (by omega) (fun k hk => by simp at hk; omega))
      have hs3 := hC3.size
      have hkp3 := (hkp.trans (KeepX.ofBelow h11)).trans (KeepX.ofChg hC3)
      generalize w11.setCells p 0 (ws (shaBlk h' L)) = w3 at *
      obtain ⟨pv, cv, hv', hcv, hrv⟩ := hT3'.row
      obtain ⟨m, hm⟩ : ∃ m, (l'.drop 64).length = m := ⟨_, rfl⟩
      have hmm : m = l'.length - 64 := by rw [← hm, List.length_drop]
      rw [hm] at hv'
      clear hm
      subst hv'
      have HM := hid hmm
      have c8 : w3.cell? ⟨p, 8, none⟩ = some (.slice (some ⟨g, off, none⟩) l'.length ca) := (hb3.cell 8).trans (SC_at8 _ _ _ hnl)
      have f8 := hb3.frozen 8
      have hb4 := hid (show Blk (w3.setCell ⟨p, 8, none⟩ (.slice pv m cv)) p (SC (shaBlk h' L) (.slice pv m cv) Q) tSst from by
        have := hb3.set 8 (.slice pv m cv)
        rw [SC_set8 _ _ _ _ hnl] at this; exact this)
      have hC4 : Chg w3.heap.size [p] w3 (w3.setCell ⟨p, 8, none⟩ (.slice pv m cv)) := (Chg.refl _ _ _).setCell (p := ⟨p, 8, none⟩) (.inl (by simp)) _
      have hT4 := hid (hT3'.chg hC4 (Nat.le_refl _) (fun q e => by rw [hob] at e; cases e; simpa using hgp))
      have hbel4 := hid (hbel3.trans (hC4.below (M := base) (by omega) (fun k hk => by simp at hk; omega)))
      have hkp4 := hid (hkp3.trans (KeepX.ofChg hC4))
      have hmu := hid (show cellLen p 8 ⟨#[], []⟩ (w3.setCell ⟨p, 8, none⟩ (.slice pv m cv)) < M from by
        have := (hb4.out.cell 8).trans (SC_at8 _ _ _ hnl)
        unfold cellLen
        rw [this]
        show m < M
        rw [HM.out, hM1]; omega)
      have hs4 := hid (show base ≤ (w3.setCell ⟨p, 8, none⟩ (.slice pv m cv)).heap.size from Nat.le_trans (by omega) hC4.size)
      clear hkp3 hT1 hb11 hC3 hT3' hbel1 hbel3 hb3 hC4 hbel hT' hTT HB HG hrv hcv hM1 hmm Hrg Hwd Hc8 hwT h11 hS hHeld hPF
      go_wp2_with fail
      go_step3
      exact ⟨rfl, ⟨_, _, _, _, _, _, _, _, _, _, _, _, _, _, _, _, _, _, _, _, _, _, _, _, _, _, _, _, _, _, _, _, _, _, _, _, _, _, _, _, _, _, _, _, _, _, _, _, _, _, _, _, _, rfl, ⟨hb4.out, hT4.out, hnl, hst.out, hbel4.out, hs4.out, hkp4.out⟩⟩, hmu.out⟩
  · intro pass
    obtain ⟨pa, ca, rfl, hca, hra⟩ := hT.row
    have c8 : w.cell? ⟨p, 8, none⟩ = some (.slice pa l.length ca) := (hB.cell 8).trans (SC_at8 _ _ _ hh)
    have c9 : w.cell? ⟨p, 9, none⟩ = some (.int .i64 (q : Int)) := (hB.cell 9).trans (SC_at9 _ _ _ hh)
    have f9 := hB.frozen 9
    have hB1 := hB.set 9 (.int .i64 (Q : Int))
    rw [SC_set9 _ _ _ _ hh] at hB1
    have hC1 : Chg w.heap.size [p] w (w.setCell ⟨p, 9, none⟩ (.int .i64 (Q : Int))) := (Chg.refl _ _ _).setCell (p := ⟨p, 9, none⟩) (.inl (by simp)) _
    have hT1 := hT.chg hC1 (Nat.le_refl _) (fun q e => by have := stail_ne hT hB; simp; intro e2; exact this (by rw [e, e2]))
    have hbt : 0 < b.length → Off [p] pb := fun hpos a e => by
      obtain ⟨b0, o0, e0, _, hc⟩ := hb 0 hpos
      rw [e] at e0; cases e0
      intro hm
      simp only [List.mem_cons, List.not_mem_nil, or_false] at hm
      subst hm
      rw [hB.cell] at hc
      have hm := List.mem_of_getElem? hc
      unfold SC ws at hm
      simp at hm
    have hb1 := hb.chg2 hC1 (Nat.le_refl _) hbt
    have hbase1 : base ≤ (w.setCell ⟨p, 9, none⟩ (.int .i64 (Q : Int))).heap.size := Nat.le_trans hbase hC1.size
    have hbelA : Below base w (w.setCell ⟨p, 9, none⟩ (.int .i64 (Q : Int))) := hC1.below (M := base) (by omega) (fun k hk => by simp at hk; omega)
    have hfin := hid (And.intro hB1 (And.intro hT1 (And.intro hb1 (And.intro hbase1 (And.intro hbelA (KeepX.ofChg hC1))))))
    clear hB1 hT1 hb1 hbase1 hbelA hC1 hbt hra
    go_upto_region 2 with fail
    change Code.wp _ _ _ _ (w.setCell ⟨p, 9, none⟩ (.int .i64 (Q : Int)))
    obtain ⟨hB1, hT1, hb1, hbase1, hbelA, hkA⟩ := hfin.out
    generalize w.setCell ⟨p, 9, none⟩ (.int .i64 (Q : Int)) = wq at *
    clear c8 c9 f9 hB hT hfin
    have c8 : wq.cell? ⟨p, 8, none⟩ = some (.slice pa l.length ca) := (hB1.cell 8).trans (SC_at8 _ _ _ hh)
    have hne := stail_ne hT1 hB1
    go_wp2_with (refine wpList_append_tail rfl (.tmp 19) (.tmp 20) rfl base (.slice pa l.length ca) l rfl hT1 pb n cap b rfl hb1 hn (by omega) hbase1 ?_; intro v1 w1 hT2 hg1 _; have hb2 := hB1.kept hg1 hne; obtain ⟨pv, cv, hv1, _, _⟩ := hT2.row; rw [List.length_append, hn] at hv1; subst hv1; have c8b : w1.cell? ⟨p, 8, none⟩ = some (.slice pa l.length ca) := (hb2.cell 8).trans (SC_at8 _ _ _ hh); have f8b := hb2.frozen 8)
    have hC2 : Chg w1.heap.size [p] w1 (w1.setCell ⟨p, 8, none⟩ (.slice pv (l.length + n) cv)) := (Chg.refl _ _ _).setCell (p := ⟨p, 8, none⟩) (.inl (by simp)) _
    have hb3 := hb2.set 8 (.slice pv (l.length + n) cv)
    rw [SC_set8 _ _ _ _ hh] at hb3
    have hT3 := hT2.chg hC2 (Nat.le_refl _) (fun q e => by
      obtain ⟨cs2, h2⟩ := hT2.typ q e
      have := h2.ne hb2 (by decide)
      simpa using this)
    have hbel1 : Below base wq w1 := ⟨hg1.os, hg1.tape, hg1.output, hg1.size, fun k hk => hg1.block k (by omega) (fun e => by have := (hT1.lt k e.symm).1; omega)⟩
    have hs1 := hg1.size
    have hbel2 := (hbelA.trans hbel1).trans (hC2.below (M := base) (by omega) (fun k hk => by simp at hk; omega))
    have hs2 := hC2.size
    have hkB := (hkA.trans (KeepX.grown hT1 hg1)).trans (KeepX.ofChg hC2)
    go_step3
    have Hpass := hid pass
    clear pass
    refine (by assumption : ∀ (a : Act) (w : World), Code.wp _ _ _ a w → _) _ _ ?_
    exact Hpass.out _ _ ⟨_, _, _, _, _, _, _, _, _, _, _, _, _, _, _, _, _, _, _, _, _, _, _, _, _, _, _, _, _, _, _, _, _, _, _, _, _, _, _, _, _, _, _, _, _, _, _, _, _, _, _, _, _, rfl, ⟨hb3, hT3, hh, rfl, hbel2, by omega, hkB⟩⟩
end Go.Proofs.YtnmmnlffobnbfaaGreatDoor

/- sha: New, Sum, walked -/
namespace Go.Proofs.YtnmmnlffobnbfaaGreatDoor
open Go.RowKit

theorem len8v {h : List UInt32} (hh : h.length = 8) : ∃ a0 a1 a2 a3 a4 a5 a6 a7 : Value, ws h = [a0, a1, a2, a3, a4, a5, a6, a7] := by
  obtain ⟨v0, v1, v2, v3, v4, v5, v6, v7, rfl⟩ := len8 hh
  exact ⟨_, _, _, _, _, _, _, _, rfl⟩
set_option maxRecDepth 100000 in
set_option maxHeartbeats 4000000 in
theorem snew_any (w : World) : Calls Tryz.prog 14 #[] w fun e w' => ∃ p, w.heap.size ≤ p ∧ e = .returned (.pointer (some ⟨p, 0, none⟩)) ∧ Blk w' p (SC shaStart (.slice none 0 0) 0) tSst ∧ Below w.heap.size w w' := by
  obtain ⟨a0, a1, a2, a3, a4, a5, a6, a7, ha⟩ := len8v (h := shaStart) rfl
  have Ha := hid ha
  have HS := hid (sstart_any w)
  rw [ha] at HS
  go_enter Tryz.func14, Tryz.ntmps14
  go_wp2_with fail
  refine HS.out.mono ?_
  rintro e w1 ⟨rfl, hB1⟩
  have hN := Blk.new w1 [a0, a1, a2, a3, a4, a5, a6, a7, .slice none 0 0, .int .i64 0] tSst
  have hB2 := hid (hB1.alloc hB1.size (.cells [a0, a1, a2, a3, a4, a5, a6, a7, .slice none 0 0, .int .i64 0].toArray tSst))
  have hs := hid hB1.size
  have hN2 := hid (show Blk (w1.alloc (.cells [a0, a1, a2, a3, a4, a5, a6, a7, .slice none 0 0, .int .i64 0].toArray tSst)) w1.heap.size (SC shaStart (.slice none 0 0) 0) tSst by unfold SC; rw [ha]; exact hN)
  clear HS ha hN hB1
  go_wp2_with fail
  go_ret
  exact ⟨_, hs.out, rfl, hN2.out, hB2.out⟩

set_option maxRecDepth 100000 in
set_option maxHeartbeats 8000000 in
/-- The sum of a state; the state stays. -/
theorem ssumS_any (w : World) (hW : TabW w) (base p : Nat) (h : List UInt32) (v : Value) (l : List UInt8) (n : Nat) (hp : Blk w p (SC h v n) tSst) (hT : TailR base w v l) (hh : h.length = 8) (hl : l.length < 64) (hn : n < 1000000000) :
    Calls Tryz.prog 17 #[.pointer (some ⟨p, 0, none⟩)] w fun e w' => e = .returned (.agg (bys (outS (swrF h (l ++ padS n)).1)).toArray) ∧ Below w.heap.size w w' := by
  have hpos := hW.1
  obtain ⟨a0, a1, a2, a3, a4, a5, a6, a7, ha⟩ := len8v hh
  have hO := Blk.new w (bys z32) tA32
  have hB1 : Below w.heap.size w (w.alloc (.cells (bys z32).toArray tA32)) := (Below.refl _ _).alloc (Nat.le_refl _) _
  have hs1 : (w.alloc (.cells (bys z32).toArray tA32)).heap.size = w.heap.size + 1 := by simp
  obtain ⟨w1, hw1⟩ : ∃ w1, w.alloc (.cells (bys z32).toArray tA32) = w1 := ⟨_, rfl⟩
  rw [hw1] at hO hB1 hs1
  have hp1 := hp.below hB1 hp.lt
  obtain ⟨pv, cv, rfl, hcv, hr⟩ := hT.row
  have hr1 := hr.below hB1
  have HW1 := hid hw1
  have Hwd := hid (fun (w2 : World) (hx : Blk w2 p (SC h (.slice pv l.length cv) n) tSst) => (show w2.rangeAt p 0 [a0, a1, a2, a3, a4, a5, a6, a7] from by have := hx.range 0 8; rw [SC_words _ _ _ hh, ha] at this; exact this))
  have Hc8 := hid (fun (w2 : World) (hx : Blk w2 p (SC h (.slice pv l.length cv) n) tSst) => (hx.cell 8).trans (SC_at8 _ _ _ hh))
  have Hc9 := hid (fun (w2 : World) (hx : Blk w2 p (SC h (.slice pv l.length cv) n) tSst) => (hx.cell 9).trans (SC_at9 _ _ _ hh))
  have HB1 := hid hB1
  have hTW := hid (hW.below hB1 hpos)
  have hmade := hid (OwnR.made w1)
  rw [hs1] at hmade
  clear hp hr hw1 hB1 hW hT
  go_enter Tryz.func17, Tryz.ntmps17
  go_upto_region 1 with fail
  change Code.wp _ _ _ _ (w.alloc (.cells (bys z32).toArray tA32))
  rw [HW1.out]
  go_upto_region 3 with fail
  have S0 : Below w1.heap.size w1 w1.drew := (Below.refl _ _).drew
  try simp only [Act.put]
  refine tkR (fun w2 => Below w1.heap.size w1 w2) [11] (by kernel_rfl) (fun c a d v w h => by cases d <;> exact h) (S0) (fun hPF hHeld => ?_)
  refine tkB 0 (.some 7) _ _ rfl rfl (by kernel_rfl) (by kernel_rfl) (by kernel_rfl) (by kernel_rfl) hPF rfl (fun w' => by (go_simp; try with_reducible rfl)) hHeld (fun hHeld => ?_)
  simp only [Act.put, List.setIfInBounds_toArray, List.set_cons_zero, List.set_cons_succ]
  refine tkB 1 (.some 8) _ _ rfl rfl (by kernel_rfl) (by kernel_rfl) (by kernel_rfl) (by kernel_rfl) hPF rfl (fun w' => by (go_simp; try with_reducible rfl)) hHeld (fun hHeld => ?_)
  simp only [Act.put, List.setIfInBounds_toArray, List.set_cons_zero, List.set_cons_succ]
  refine tkB 2 (.some 9) _ _ rfl rfl (by kernel_rfl) (by kernel_rfl) (by kernel_rfl) (by kernel_rfl) hPF rfl (fun w' => by (go_simp; try with_reducible rfl)) hHeld (fun hHeld => ?_)
  simp only [Act.put, List.setIfInBounds_toArray, List.set_cons_zero, List.set_cons_succ]
  refine tkL 3 (.some 10) _ rfl rfl 77 (.tmp 9) rfl p 0 [a0, a1, a2, a3, a4, a5, a6, a7] _ (by kernel_rfl) (by kernel_rfl) (by kernel_rfl) (by kernel_rfl) (by kernel_rfl) hPF rfl rfl (fun w' hw' => (Hwd.out _ (hp1.below hw' hp1.lt))) Tryz.underlying77 rfl sizeH8 hHeld (fun hHeld => ?_)
  simp only [Act.put, List.setIfInBounds_toArray, List.set_cons_zero, List.set_cons_succ]
  refine tkB 5 (.some 12) _ _ rfl rfl (by kernel_rfl) (by kernel_rfl) (by kernel_rfl) (by kernel_rfl) hPF rfl (fun w' => by (go_simp; try with_reducible rfl)) hHeld (fun hHeld => ?_)
  simp only [Act.put, List.setIfInBounds_toArray, List.set_cons_zero, List.set_cons_succ]
  refine tkB 6 (.some 13) _ _ rfl rfl (by kernel_rfl) (by kernel_rfl) (by kernel_rfl) (by kernel_rfl) hPF rfl (fun w' => by (go_simp; try with_reducible rfl)) hHeld (fun hHeld => ?_)
  simp only [Act.put, List.setIfInBounds_toArray, List.set_cons_zero, List.set_cons_succ]
  refine tkB 7 (.some 14) _ _ rfl rfl (by kernel_rfl) (by kernel_rfl) (by kernel_rfl) (by kernel_rfl) hPF rfl (fun w' => by (go_simp; try with_reducible rfl)) hHeld (fun hHeld => ?_)
  simp only [Act.put, List.setIfInBounds_toArray, List.set_cons_zero, List.set_cons_succ]
  refine tkA 8 (.some 15) _ _ rfl rfl (by kernel_rfl) (by kernel_rfl) (by kernel_rfl) (by kernel_rfl) (by kernel_rfl) hPF rfl (fun w' hw' => by (have h1 := Hc8.out _ (hp1.below hw' hp1.lt); go_simp; try with_reducible rfl)) hHeld (fun hHeld => ?_)
  simp only [Act.put, List.setIfInBounds_toArray, List.set_cons_zero, List.set_cons_succ]
  have hS := hHeld (by kernel_rfl)
  refine tkW (rs := [4]) (by kernel_rfl) (by simp) (AllK.cons (o := _) rfl (fun KC hKC => ?_) AllK.nil)
  go_simp
  have h4 := hS.alloc hS.size (.cells #[] 5)
  refine hKC.out _ _ (h4) (fun hHeld => ?_)
  clear hKC KC
  try simp only [Act.put, List.setIfInBounds_toArray, List.set_cons_zero, List.set_cons_succ]
  have hS := hHeld (by kernel_rfl)
  refine tkW (rs := [9]) (by kernel_rfl) (by simp) (AllK.cons (o := _) rfl (fun KC hKC => ?_) AllK.nil)
  refine wantIt rfl (wp_add (.some 16) rfl (.tmp 11) (.tmp 15) rfl (w.heap.size + 1) _ [] rfl hmade.out.drew pv l.length cv l rfl (hr1.below hS) rfl (by simp; omega) (by have := hS.size; omega) ?_)
  intro v9 w9 hO9 hg9 _
  have h9 := hS.trans (below_grown hg9 hS.size (fun j e => by cases e; exact Nat.le_of_eq hs1))
  rw [List.nil_append] at hO9
  obtain ⟨pv9, cv9, rfl, _, hr9⟩ := hO9.row
  refine hKC.out _ _ (h9) (fun hHeld => ?_)
  clear hKC KC
  try simp only [Act.put, List.setIfInBounds_toArray, List.set_cons_zero, List.set_cons_succ]
  refine tkB 10 (.some 17) _ _ rfl rfl (by kernel_rfl) (by kernel_rfl) (by kernel_rfl) (by kernel_rfl) hPF rfl (fun w' => by (go_simp; try with_reducible rfl)) hHeld (fun hHeld => ?_)
  simp only [Act.put, List.setIfInBounds_toArray, List.set_cons_zero, List.set_cons_succ]
  refine tkW (rs := [11]) (by kernel_rfl) (by simp) (AllK.close (o := _) rfl (by kernel_rfl) (fun KC hKC => ?_) AllK.nil)
  go_simp
  refine hKC.out _ _ (fun hHeld => ?_)
  clear hKC KC
  try simp only [Act.put, List.setIfInBounds_toArray, List.set_cons_zero, List.set_cons_succ]
  refine tkB 12 (.some 3) _ _ rfl rfl (by kernel_rfl) (by kernel_rfl) (by kernel_rfl) (by kernel_rfl) hPF rfl (fun w' => by (go_simp; try with_reducible rfl)) hHeld (fun hHeld => ?_)
  simp only [Act.put, List.setIfInBounds_toArray, List.set_cons_zero, List.set_cons_succ]
  refine tkD (by kernel_rfl) ?_ _
  have hN := Blk.new w9 [a0, a1, a2, a3, a4, a5, a6, a7, .slice pv9 l.length cv9, .int .i64 0] tSst
  have hBa : Below w9.heap.size w9 (w9.alloc (.cells [a0, a1, a2, a3, a4, a5, a6, a7, .slice pv9 l.length cv9, .int .i64 0].toArray tSst)) := (Below.refl _ _).alloc (Nat.le_refl _) _
  have hT10 := hO9.tail.below hBa
  have h10 := h9.trans (hBa.mono h9.size)
  have hp10 := hp1.below h10 hp1.lt
  have hO10 := hO.below h10 hO.lt
  have hq : w.heap.size + 1 ≤ w9.heap.size := by have := h9.size; omega
  have hsz10 : w.heap.size + 1 ≤ (w9.alloc (.cells [a0, a1, a2, a3, a4, a5, a6, a7, .slice pv9 l.length cv9, .int .i64 0].toArray tSst)).heap.size := by simp; omega
  have hTW10 := hTW.out.below h10 (by omega)
  change Exit.then _ _ _ _ (w9.alloc (.cells [a0, a1, a2, a3, a4, a5, a6, a7, .slice pv9 l.length cv9, .int .i64 0].toArray tSst))
  have hN2 : Blk (w9.alloc (.cells [a0, a1, a2, a3, a4, a5, a6, a7, .slice pv9 l.length cv9, .int .i64 0].toArray tSst)) w9.heap.size (SC h (.slice pv9 l.length cv9) 0) tSst := by unfold SC; rw [ha]; exact hN
  clear hN hBa h9 hg9 hHeld hS h4 hPF S0 hr9 hO9
  generalize w9.alloc (.cells [a0, a1, a2, a3, a4, a5, a6, a7, .slice pv9 l.length cv9, .int .i64 0].toArray tSst) = w10 at *
  generalize w9.heap.size = q at *
  have c9 := Hc9.out _ hp10
  go_wp2_with fail
  refine (spad_any w10 n hn).mono ?_
  rintro e w11 ⟨v, rfl, hPad, hB11⟩
  obtain ⟨pp, cp, rfl, _, hrp⟩ := hPad.row
  have hpl : (padS n).length < 1000000000 := by rw [padS_len]; omega
  have hs11 := hB11.size
  clear c9
  go_wp2_with fail
  refine (swrite_any (w.heap.size + 1) w11 (hTW10.below hB11 (by omega)) (by omega) q hq h _ l 0 (hN2.below hB11 hN2.lt) (hT10.below hB11) hh hl pp (padS n).length cp (padS n) hrp rfl hpl (by omega) (by omega)).mono ?_
  rintro e w12 ⟨rfl, ⟨v2, hq12, _⟩, hB12, _⟩
  have hlen := swrF_len h (l ++ padS n) hh
  have hB1w : Below w.heap.size w w10 := HB1.out.trans (h10.mono (by omega))
  have hB11' : Below w.heap.size w10 w11 := hB11.mono hB1w.size
  have hB12' : Below w.heap.size w11 w12 := hB12.mono (by omega)
  have hB12w : Below w.heap.size w w12 := hB1w.trans (hB11'.trans hB12')
  have hO12 : Blk w12 w.heap.size (bys z32) tA32 := (hO10.below hB11 hO10.lt).below hB12 (by omega)
  obtain ⟨H, hH⟩ : ∃ H, (swrF h (l ++ padS n)).1 = H := ⟨_, rfl⟩
  rw [hH] at hq12 hlen
  have HH := hid hH
  clear hH
  have hTW12 := (hTW10.below hB11 (by omega)).below hB12 (by omega)
  have hwd : w12.rangeAt q 0 (ws H) := by have := hq12.range 0 8; rw [SC_words _ _ _ hlen] at this; exact this
  have hsw : (Tryz.prog.info? tH8).map (·.size) = some (ws H).length := by rw [sizeH8, ws_length, hlen]
  clear hq12 hB12 hB11 hPad hrp hN2 hT10 hO10 hp10
  go_wp2_with (refine wpList_load_mid rfl tH8 (.tmp 28) rfl q 0 rfl (ws H) _ hwd Tryz.underlying77 rfl hsw ?_)
  refine (sout_any w12 H hlen).mono ?_
  rintro e w13 ⟨rfl, hB13⟩
  have hO13 := hO12.below hB13 hO12.lt
  have hBl : (outS H).length = 32 := by rw [outS_len, hlen]
  obtain ⟨R, hR⟩ : ∃ R, outS H = R := ⟨_, rfl⟩
  rw [hR] at hBl
  have HR := hid hR
  have hz : (bys z32).length = 32 := rfl
  have Hil2 := hid hBl
  have hsr : (Tryz.prog.info? tA32).map (·.size) = some (bys R).length := by rw [size32s, bys_length, hBl]
  have hBf := hid (hB12w.trans (hB13.mono hB12w.size))
  rw [hR]
  clear hR hBl hwd hsw hB13 hB12w hlen
  go_wp2_with (refine wpList_store_mid rfl tA32 (.tmp 2) (.tmp 30) rfl w.heap.size 0 (bys R).toArray rfl rfl (hO13.there 0 _ (by rw [List.size_toArray, hz, bys_length, Hil2.out]; decide)) (by rw [size32s, List.size_toArray, bys_length, Hil2.out]) (all_oneCell_toArray (bys_one _)) ?_)
  have g1 := hO13.setCells (bys R) 0 (by rw [hz, bys_length, Hil2.out]; decide)
  rw [splice_whole _ _ (by rw [hz, bys_length, Hil2.out])] at g1
  refine bodyPost_ret (v := .agg (bys R).toArray) (results_cell_row (P := Tryz.prog) (p := 2) (ty := tA32) rfl _ _ w.heap.size tA32 _ (0, 0) _ rfl g1 Tryz.underlying35 rfl hsr) rfl ⟨by rw [HH.out, HR.out], ?_⟩
  exact hBf.out.trans (((Chg.refl w.heap.size [] w13).setCells (b := w.heap.size) (.inr (by omega)) (bys R) 0).below (Nat.le_refl _) (by simp))

set_option maxRecDepth 100000 in
set_option maxHeartbeats 8000000 in
theorem ssum_any (w : World) (hW : TabW w) (pb : Option Addr) (n cap : Nat) (b : List UInt8) (hb : RowAt w pb b) (hn : b.length = n) (h9 : n < 1000000000) :
    Calls Tryz.prog 16 #[.slice pb n cap] w fun e w' => e = .returned (.agg (bys (sumS b)).toArray) ∧ Below w.heap.size w w' := by
  have hpos := hW.1
  have hO := Blk.new w (bys z32) tA32
  have hB1 : Below w.heap.size w (w.alloc (.cells (bys z32).toArray tA32)) := (Below.refl _ _).alloc (Nat.le_refl _) _
  have hs1 : (w.alloc (.cells (bys z32).toArray tA32)).heap.size = w.heap.size + 1 := by simp
  obtain ⟨w1, hw1⟩ : ∃ w1, w.alloc (.cells (bys z32).toArray tA32) = w1 := ⟨_, rfl⟩
  rw [hw1] at hO hB1 hs1
  have hb1 := hb.below hB1
  have HW1 := hid hw1
  have hW1 := hW.below hB1 hpos
  clear hw1 hb hW
  go_enter Tryz.func16, Tryz.ntmps16
  go_upto_region 1 with fail
  change Code.wp _ _ _ _ (w.alloc (.cells (bys z32).toArray tA32))
  rw [HW1.out]
  go_wp2_with fail
  refine (snew_any w1).mono ?_
  rintro e w2 ⟨p, hp, rfl, hp2, hB2⟩
  have hs2 := hB2.size
  go_wp2_with fail
  refine (swrite_any w1.heap.size w2 (hW1.below hB2 (by omega)) (by omega) p hp shaStart _ [] 0 hp2 (TailR.nil _ _) rfl (by decide) pb n cap b (hb1.below hB2) hn h9 (by omega) hB2.size).mono ?_
  rintro e w3 ⟨rfl, ⟨v3, hp3, hT3⟩, hB3, _⟩
  rw [List.nil_append, Nat.zero_add] at hp3
  rw [List.nil_append] at hT3
  have hW3 := (hW1.below hB2 (by omega)).below hB3 (by omega)
  have hO3 := (hO.below hB2 hO.lt).below hB3 (by omega)
  have hB3w := hB1.trans ((hB2.trans hB3).mono (by omega))
  have hlen := swrF_len shaStart b rfl
  have hleft := swrF_left shaStart b
  clear hp2 hB2 hB3 hO hb1
  go_wp2_with fail
  refine (ssumS_any w3 hW3 w1.heap.size p _ _ _ n hp3 hT3 hlen hleft h9).mono ?_
  rintro e w4 ⟨rfl, hB4⟩
  have hO4 := hO3.below hB4 hO3.lt
  have hB4w := hid (hB3w.trans (hB4.mono hB3w.size))
  have hBl : (sumS b).length = 32 := sumS_len b
  have hz : (bys z32).length = 32 := rfl
  obtain ⟨R, hR⟩ : ∃ R, outS (swrF (swrF shaStart b).1 ((swrF shaStart b).2 ++ padS n)).1 = R := ⟨_, rfl⟩
  have hSR : sumS b = R := by rw [← hR]; unfold sumS; rw [hn]
  rw [hSR] at hBl
  rw [hR]
  have HSR := hid hSR
  have Hil2 := hid hBl
  have hsr : (Tryz.prog.info? tA32).map (·.size) = some (bys R).length := by rw [size32s, bys_length, hBl]
  clear hR hSR hBl hp3 hT3 hB4 hB3w hlen hleft
  go_wp2_with (refine wpList_store_mid rfl tA32 (.tmp 2) (.tmp 9) rfl w.heap.size 0 (bys R).toArray rfl rfl (hO4.there 0 _ (by rw [List.size_toArray, hz, bys_length, Hil2.out]; decide)) (by rw [size32s, List.size_toArray, bys_length, Hil2.out]) (all_oneCell_toArray (bys_one _)) ?_)
  have g1 := hO4.setCells (bys R) 0 (by rw [hz, bys_length, Hil2.out]; decide)
  rw [splice_whole _ _ (by rw [hz, bys_length, Hil2.out])] at g1
  refine bodyPost_ret (v := .agg (bys R).toArray) (results_cell_row (P := Tryz.prog) (p := 2) (ty := tA32) rfl _ _ w.heap.size tA32 _ (0, 0) _ rfl g1 Tryz.underlying35 rfl hsr) rfl ⟨by rw [HSR.out], ?_⟩
  exact hB4w.out.trans (((Chg.refl w.heap.size [] w4).setCells (b := w.heap.size) (.inr (by omega)) (bys R) 0).below (Nat.le_refl _) (by simp))
end Go.Proofs.YtnmmnlffobnbfaaGreatDoor
