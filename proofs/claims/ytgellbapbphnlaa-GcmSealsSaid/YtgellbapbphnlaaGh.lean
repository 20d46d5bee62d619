/- ghash: of, block, Lengths, Pad, Sum -/
import Derived.Test.YtgellbapbphnlaaEl
import Derived.Test.YtgellbapbphnlaaGp
import Derived.Test.YtgellbapbphnlaaKv
namespace Go.Proofs.Ytgellbapbphnlaa
open Go.RowKit

theorem hiN_be (x : List UInt8) (h : x.length = 16) : hiN (be x) = be (x.take 8) := by
  have h1 := be_append (x.take 8) (x.drop 8)
  rw [List.take_append_drop, List.length_drop, h] at h1
  have h2 := be_lt (x.drop 8)
  rw [List.length_drop, h] at h2
  rw [h1]
  exact hiN_of h2
theorem loN_be (x : List UInt8) (h : x.length = 16) : loN (be x) = be (x.drop 8) := by
  have h1 := be_append (x.take 8) (x.drop 8)
  rw [List.take_append_drop, List.length_drop, h] at h1
  have h2 := be_lt (x.drop 8)
  rw [List.length_drop, h] at h2
  rw [h1]
  exact loN_of h2
theorem toBe16_hilo (n : Nat) : toBe 16 n = toBe 8 (hiN n) ++ toBe 8 (loN n) := by
  rw [show (16 : Nat) = 8 + 8 from rfl, toBe_add]
  congr 1
  exact (toBe_mod 8 n).symm

set_option maxRecDepth 100000 in
set_option maxHeartbeats 1000000 in
theorem of_any (w : World) (x : List UInt8) (hx : x.length = 16) :
    Calls Try.prog 108 #[.agg (bys x).toArray] w fun e w' => e = .returned (.agg (elc (be x)).toArray) ∧ Below w.heap.size w w' := by
  have h0 : Blk ((w.alloc (.cells (bys x).toArray tA16)).alloc (.cells #[U64 0, U64 0] tEl)) w.heap.size (bys x) tA16 := (Blk.new w (bys x) tA16).alloc _
  have h1 : Blk ((w.alloc (.cells (bys x).toArray tA16)).alloc (.cells #[U64 0, U64 0] tEl)) (w.heap.size + 1) [U64 0, U64 0] tEl := by
    have := Blk.new (w.alloc (.cells (bys x).toArray tA16)) [U64 0, U64 0] tEl
    simp only [World.size_alloc] at this; exact this
  have hB : Below w.heap.size w ((w.alloc (.cells (bys x).toArray tA16)).alloc (.cells #[U64 0, U64 0] tEl)) := ((Below.refl _ _).alloc (Nat.le_refl _) _).alloc (by simp) _
  have ha := hiN_be x hx
  have hb := loN_be x hx
  have hra := ((h0.rowAt 0 8).congr (show (x.drop 0).take 8 = x.take 8 by simp)).drew
  have hrb := ((h0.rowAt 8 8).congr (show (x.drop 8).take 8 = x.drop 8 by rw [List.take_of_length_le]; simp [hx])).drew
  have hla : (x.take 8).length = 8 := by rw [List.length_take, hx]; rfl
  have hlb : (x.drop 8).length = 8 := by rw [List.length_drop, hx]
  have HA := hid ha
  have HB := hid hb
  have Hla := hid hla
  have Hlb := hid hlb
  clear ha hb hx hla hlb
  go_enter Try.func108, Try.ntmps108
  go_wp2_with fail
  change Code.wp _ _ _ _ ((w.alloc (.cells (bys x).toArray tA16)).alloc (.cells #[U64 0, U64 0] tEl))
  generalize ((w.alloc (.cells (bys x).toArray tA16)).alloc (.cells #[U64 0, U64 0] tEl)) = W at *
  have f0 := h1.frozen 0
  have f1 := h1.frozen 1
  have r0 := h1.cell 0
  have r1 := h1.cell 1
  simp only [List.getElem?_cons_zero, List.getElem?_cons_succ] at r0 r1
  have h2 := (h1.drew.set 0 (U64 (be (x.take 8)))).set 1 (U64 (be (x.drop 8)))
  have hB2 := hB.drew.trans ((((Chg.refl w.heap.size [] W.drew).setCell (p := ⟨w.heap.size + 1, 0, none⟩) (.inr (by simp)) (U64 (be (x.take 8)))).setCell (p := ⟨w.heap.size + 1, 1, none⟩) (.inr (by simp)) (U64 (be (x.drop 8)))).below (Nat.le_refl _) (by simp))
  have H2 := hid h2
  have HB2 := hid hB2
  clear h0 h1 hB h2 hB2
  try simp only [Act.put]
  refine tkR (fun w' => True) [] (by kernel_rfl) (fun c a d v w h => by cases d <;> exact h) (trivial) (fun hPF hHeld => ?_)
  refine tkB 0 (.some 3) _ _ rfl rfl (by kernel_rfl) (by kernel_rfl) (by kernel_rfl) (by kernel_rfl) hPF rfl (fun w' => by (go_simp; try with_reducible rfl)) hHeld (fun hHeld => ?_)
  simp only [Act.put, List.setIfInBounds_toArray, List.set_cons_zero, List.set_cons_succ]
  refine tkB 2 (.some 5) _ _ rfl rfl (by kernel_rfl) (by kernel_rfl) (by kernel_rfl) (by kernel_rfl) hPF rfl (fun w' => by (go_simp; try with_reducible rfl)) hHeld (fun hHeld => ?_)
  simp only [Act.put, List.setIfInBounds_toArray, List.set_cons_zero, List.set_cons_succ]
  have hS := hHeld (by kernel_rfl)
  refine tkW (rs := [1]) (by kernel_rfl) (by simp) (AllK.cons (o := _) rfl (fun KC hKC => ?_) AllK.nil)
  go_simp
  refine (big_any _ _ 8 16 (x.take 8) hra Hla.out (by omega)).mono ?_
  rintro e w1 ⟨rfl, rfl⟩
  refine hKC.out _ _ (trivial) (fun hHeld => ?_)
  clear hKC KC
  try simp only [Act.put, List.setIfInBounds_toArray, List.set_cons_zero, List.set_cons_succ]
  have hS := hHeld (by kernel_rfl)
  refine tkW (rs := [3]) (by kernel_rfl) (by simp) (AllK.cons (o := _) rfl (fun KC hKC => ?_) AllK.nil)
  go_simp
  refine (big_any _ _ 8 8 (x.drop 8) hrb Hlb.out (by omega)).mono ?_
  rintro e w1 ⟨rfl, rfl⟩
  refine hKC.out _ _ (trivial) (fun hHeld => ?_)
  clear hKC KC
  try simp only [Act.put, List.setIfInBounds_toArray, List.set_cons_zero, List.set_cons_succ]
  refine tkB 4 (.some 7) _ _ rfl rfl (by kernel_rfl) (by kernel_rfl) (by kernel_rfl) (by kernel_rfl) hPF rfl (fun w' => by (go_simp; try with_reducible rfl)) hHeld (fun hHeld => ?_)
  simp only [Act.put, List.setIfInBounds_toArray, List.set_cons_zero, List.set_cons_succ]
  have hS := hHeld (by kernel_rfl)
  refine tkW (rs := [5]) (by kernel_rfl) (by simp) (AllK.cons (o := _) rfl (fun KC hKC => ?_) AllK.nil)
  go_simp
  refine hKC.out _ _ (trivial) (fun hHeld => ?_)
  clear hKC KC
  try simp only [Act.put]
  refine tkD (by kernel_rfl) ?_ _
  go_wp2_with fail
  refine bodyPost_ret (v := .agg (elc (be x)).toArray) (results_cell_row (P := Try.prog) (p := 2) (ty := 151) rfl _ _ (w.heap.size + 1) tEl _ (0, 0) _ rfl (by simp only [elc, HA.out, HB.out]; exact H2.out) Try.underlying151 rfl sizeEl) rfl ⟨rfl, HB2.out⟩

set_option maxRecDepth 100000 in
set_option maxHeartbeats 2000000 in
theorem block_any (w : World) (n : Nat) (hn : n < 2 ^ 128) :
    Calls Try.prog 107 #[.agg (elc n).toArray] w fun e w' => e = .returned (.agg (bys (toBe 16 n)).toArray) ∧ Below w.heap.size w w' := by
  have h0 : Blk (((w.alloc (.cells (elc n).toArray tEl)).alloc (.cells (bys z16).toArray tA16)).alloc (.cells (bys z16).toArray tA16)) w.heap.size (elc n) tEl := ((Blk.new w (elc n) tEl).alloc _).alloc _
  have h1 : Blk (((w.alloc (.cells (elc n).toArray tEl)).alloc (.cells (bys z16).toArray tA16)).alloc (.cells (bys z16).toArray tA16)) (w.heap.size + 1) (bys z16) tA16 := by
    have := (Blk.new (w.alloc (.cells (elc n).toArray tEl)) (bys z16) tA16).alloc (.cells (bys z16).toArray tA16)
    simp only [World.size_alloc] at this; exact this
  have h2 : Blk (((w.alloc (.cells (elc n).toArray tEl)).alloc (.cells (bys z16).toArray tA16)).alloc (.cells (bys z16).toArray tA16)) (w.heap.size + 1 + 1) (bys z16) tA16 := by
    have := Blk.new ((w.alloc (.cells (elc n).toArray tEl)).alloc (.cells (bys z16).toArray tA16)) (bys z16) tA16
    simp only [World.size_alloc] at this; exact this
  have hB : Below w.heap.size w (((w.alloc (.cells (elc n).toArray tEl)).alloc (.cells (bys z16).toArray tA16)).alloc (.cells (bys z16).toArray tA16)) := (((Below.refl _ _).alloc (Nat.le_refl _) _).alloc (by simp) _).alloc (by simp; omega) _
  have hz : (((w.alloc (.cells (elc n).toArray tEl)).alloc (.cells (bys z16).toArray tA16)).alloc (.cells (bys z16).toArray tA16)).heap.size = w.heap.size + 3 := by simp
  have hd := hid (toBe16_hilo n)
  have la := hiN_lt hn
  have lb := loN_lt n
  unfold elc at *
  obtain ⟨a, ha⟩ : ∃ a, hiN n = a := ⟨_, rfl⟩
  obtain ⟨b, hb⟩ : ∃ b, loN n = b := ⟨_, rfl⟩
  rw [ha, hb] at hd h0 h1 h2 hB hz
  rw [ha] at la
  rw [hb] at lb
  rw [ha, hb]
  clear ha hb hn
  go_enter Try.func107, Try.ntmps107
  go_wp2_with fail
  change Code.wp _ _ _ _ (((w.alloc (.cells [U64 a, U64 b].toArray tEl)).alloc (.cells (bys z16).toArray tA16)).alloc (.cells (bys z16).toArray tA16))
  generalize (((w.alloc (.cells [U64 a, U64 b].toArray tEl)).alloc (.cells (bys z16).toArray tA16)).alloc (.cells (bys z16).toArray tA16)) = w1 at *
  try simp only [Act.put]
  refine tkR (fun w' => Blk w' w.heap.size [U64 a, U64 b] tEl) [] (by kernel_rfl) (fun c a d v w h => by cases d <;> exact h) (h0.drew) (fun hPF hHeld => ?_)
  refine tkB 0 (.some 4) _ _ rfl rfl (by kernel_rfl) (by kernel_rfl) (by kernel_rfl) (by kernel_rfl) hPF rfl (fun w' => by (go_simp; try with_reducible rfl)) hHeld (fun hHeld => ?_)
  simp only [Act.put, List.setIfInBounds_toArray, List.set_cons_zero, List.set_cons_succ]
  refine tkB 1 (.some 5) _ _ rfl rfl (by kernel_rfl) (by kernel_rfl) (by kernel_rfl) (by kernel_rfl) hPF rfl (fun w' => by (go_simp; try with_reducible rfl)) hHeld (fun hHeld => ?_)
  simp only [Act.put, List.setIfInBounds_toArray, List.set_cons_zero, List.set_cons_succ]
  refine tkA 2 (.some 6) _ _ rfl rfl (by kernel_rfl) (by kernel_rfl) (by kernel_rfl) (by kernel_rfl) (by kernel_rfl) hPF rfl (fun w' hw' => by (have h1 := hw'.cell 0; simp only [List.getElem?_cons_zero] at h1; go_simp; try with_reducible rfl)) hHeld (fun hHeld => ?_)
  simp only [Act.put, List.setIfInBounds_toArray, List.set_cons_zero, List.set_cons_succ]
  have hS := hHeld (by kernel_rfl)
  refine tkW (rs := [3]) (by kernel_rfl) (by simp) (AllK.cons (o := _) rfl (fun KC hKC => ?_) AllK.nil)
  go_simp
  refine (putbig_any _ a 8 la (by omega)).mono ?_
  rintro e w3 ⟨rfl, hp3, hB3⟩
  have h2b := (h2.drew).below hB3 (by have := h2.lt; simpa using this)
  have h1b := (h1.drew).below hB3 (by have := h1.lt; simpa using this)
  have h0b := (h0.drew).below hB3 (by have := h0.lt; simpa using this)
  have hBb := (hB.drew).trans (hB3.mono hB.size)
  clear hB3 hB h1 h2 h0
  refine hKC.out _ _ (h0b) (fun hHeld => ?_)
  clear hKC KC
  try simp only [Act.put, List.setIfInBounds_toArray, List.set_cons_zero, List.set_cons_succ]
  have hS := hHeld (by kernel_rfl)
  refine tkW (rs := [4]) (by kernel_rfl) (by simp) (AllK.cons (o := _) rfl (fun KC hKC => ?_) AllK.nil)
  refine wantIt rfl (wp_copy_blk (.some 8) rfl (.tmp 4) (.tmp 7) 33 33 rfl 5 under33b (by kernel_rfl) (w.heap.size + 1 + 1) 0 16 16 (w1.drew.heap.size + 1) 0 8 8 rfl rfl (bys z16) (bys (toBe 8 a)) tA16 tU8 h2b hp3 8 rfl (by decide) (by rw [bys_length, toBe_len]; decide) (bys_one _) ?_)
  intro w4 h2c hC4 hs4
  have h1c := h1b.chg hC4 h1b.lt (by simp)
  have h0c := h0b.chg hC4 h0b.lt (by simp; omega)
  refine hKC.out _ _ (h0c) (fun hHeld => ?_)
  clear hKC KC
  try simp only [Act.put, List.setIfInBounds_toArray, List.set_cons_zero, List.set_cons_succ]
  refine tkD (by kernel_rfl) ?_ _
  have h2d : Blk w4 (w.heap.size + 1 + 1) (bys (toBe 8 a ++ List.replicate 8 0)) tA16 := by
    have e : splice (bys z16) 0 ((List.drop 0 (bys (toBe 8 a))).take 8) = bys (toBe 8 a ++ List.replicate 8 0) := by
      have hl := toBe_len 8 a
      simp only [splice, List.drop_zero]
      rw [show (bys (toBe 8 a)).take 8 = bys (toBe 8 a) from List.take_of_length_le (by rw [bys_length, hl]; exact Nat.le_refl _), bys_length, hl]
      simp [bys, z16]
    rw [← e]; exact h2c
  have hBc := hBb.trans (hC4.below (M := w.heap.size) hBb.size (fun k hk => by simp at hk; omega))
  clear h2c hC4 hs4 h1b hBb h2b hp3 h0b hHeld hPF
  go_wp2_with fail
  try simp only [Act.put]
  refine tkR (fun w' => Blk w' w.heap.size [U64 a, U64 b] tEl) [] (by kernel_rfl) (fun c a d v w h => by cases d <;> exact h) (h0c.drew) (fun hPF hHeld => ?_)
  refine tkB 0 (.some 9) _ _ rfl rfl (by kernel_rfl) (by kernel_rfl) (by kernel_rfl) (by kernel_rfl) hPF rfl (fun w' => by (go_simp; try with_reducible rfl)) hHeld (fun hHeld => ?_)
  simp only [Act.put, List.setIfInBounds_toArray, List.set_cons_zero, List.set_cons_succ]
  refine tkB 1 (.some 10) _ _ rfl rfl (by kernel_rfl) (by kernel_rfl) (by kernel_rfl) (by kernel_rfl) hPF rfl (fun w' => by (go_simp; try with_reducible rfl)) hHeld (fun hHeld => ?_)
  simp only [Act.put, List.setIfInBounds_toArray, List.set_cons_zero, List.set_cons_succ]
  refine tkA 2 (.some 11) _ _ rfl rfl (by kernel_rfl) (by kernel_rfl) (by kernel_rfl) (by kernel_rfl) (by kernel_rfl) hPF rfl (fun w' hw' => by (have h1 := hw'.cell 1; simp only [List.getElem?_cons_zero, List.getElem?_cons_succ] at h1; go_simp; try with_reducible rfl)) hHeld (fun hHeld => ?_)
  simp only [Act.put, List.setIfInBounds_toArray, List.set_cons_zero, List.set_cons_succ]
  have hS := hHeld (by kernel_rfl)
  refine tkW (rs := [3]) (by kernel_rfl) (by simp) (AllK.cons (o := _) rfl (fun KC hKC => ?_) AllK.nil)
  go_simp
  refine (putbig_any _ b 8 lb (by omega)).mono ?_
  rintro e w5 ⟨rfl, hp3, hB3⟩
  have h2b := (h2d.drew).below hB3 (by have := h2d.lt; simpa using this)
  have h1b := (h1c.drew).below hB3 (by have := h1c.lt; simpa using this)
  have h0b := (h0c.drew).below hB3 (by have := h0c.lt; simpa using this)
  have hBb := (hBc.drew).trans (hB3.mono hBc.size)
  clear hB3 h2d h1c hBc
  refine hKC.out _ _ (h0b) (fun hHeld => ?_)
  clear hKC KC
  try simp only [Act.put, List.setIfInBounds_toArray, List.set_cons_zero, List.set_cons_succ]
  have hS := hHeld (by kernel_rfl)
  refine tkW (rs := [4]) (by kernel_rfl) (by simp) (AllK.cons (o := _) rfl (fun KC hKC => ?_) AllK.nil)
  refine wantIt rfl (wp_copy_blk (.some 13) rfl (.tmp 9) (.tmp 12) 33 33 rfl 5 under33b (by kernel_rfl) (w.heap.size + 1 + 1) 8 8 8 (w4.drew.heap.size + 1) 0 8 8 rfl rfl (bys (toBe 8 a ++ List.replicate 8 0)) (bys (toBe 8 b)) tA16 tU8 h2b hp3 8 rfl (by rw [bys_length, List.length_append, toBe_len]; decide) (by rw [bys_length, toBe_len]; decide) (bys_one _) ?_)
  intro w6 h2c hC4 hs4
  have h1c := h1b.chg hC4 h1b.lt (by simp)
  have h0d := h0b.chg hC4 h0b.lt (by simp; omega)
  refine hKC.out _ _ (h0d) (fun hHeld => ?_)
  clear hKC KC
  try simp only [Act.put, List.setIfInBounds_toArray, List.set_cons_zero, List.set_cons_succ]
  refine tkD (by kernel_rfl) ?_ _
  have h2d : Blk w6 (w.heap.size + 1 + 1) (bys (toBe 16 n)) tA16 := by
    have e : splice (bys (toBe 8 a ++ List.replicate 8 0)) 8 ((List.drop 0 (bys (toBe 8 b))).take 8) = bys (toBe 16 n) := by
      have hl := toBe_len 8 b
      have hh := toBe_len 8 a
      rw [hd.out]
      simp only [splice, List.drop_zero]
      rw [show (bys (toBe 8 b)).take 8 = bys (toBe 8 b) from List.take_of_length_le (by rw [bys_length, hl]; exact Nat.le_refl _), bys_length, hl]
      simp [bys, hh]
    rw [← e]; exact h2c
  have hBd := hBb.trans (hC4.below (M := w.heap.size) hBb.size (fun k hk => by simp at hk; omega))
  clear h2c hC4 hs4 h1b hBb h2b hp3 h0b h0d hHeld hPF
  have hcl := toBe_len 16 n
  obtain ⟨q, hq⟩ : ∃ q, toBe 16 n = q := ⟨_, rfl⟩
  rw [hq] at hcl h2d
  have Hq := hid hq
  clear hd hq
  have hsz : (Try.prog.info? 36).map (·.size) = some (bys q).length := by rw [size54, bys_length, hcl]
  go_wp2_with (first | (refine wpList_load_mid rfl 36 (.tmp 3) rfl (w.heap.size + 1 + 1) 0 rfl (bys q) _ h2d.whole under54 rfl hsz ?_) | (refine wpList_store_mid rfl 36 (.tmp 2) (.tmp 14) rfl (w.heap.size + 1) 0 (bys q).toArray rfl rfl (h1c.there 0 _ (by rw [List.size_toArray, bys_length, bys_length, hcl]; decide)) (by rw [size54, List.size_toArray, bys_length, hcl]) (all_oneCell_toArray (bys_one _)) ?_))
  have h1d := h1c.setCells (bys q) 0 (by rw [bys_length, bys_length, hcl]; decide)
  rw [splice_whole _ _ (by rw [bys_length, bys_length, hcl]; rfl)] at h1d
  refine bodyPost_ret (v := .agg (bys q).toArray) (results_cell_row (P := Try.prog) (p := 2) (ty := 36) rfl _ _ (w.heap.size + 1) tA16 _ (0, 0) _ rfl h1d under54 rfl (by rw [size54, List.size_toArray, bys_length, hcl])) rfl ⟨by rw [Hq.out], ?_⟩
  exact hBd.trans (((Chg.refl (w.heap.size) [] w6).setCells (.inr (by omega)) _ _).below (Nat.le_refl _) (by simp))
end Go.Proofs.Ytgellbapbphnlaa
