/- gcm: stream, tag -/
import Derived.Test.YtgellbapbphnlaaGn
namespace Go.Proofs.Ytgellbapbphnlaa
open Go.RowKit

/-- A counter, k on, in its last four bytes. -/
def gcnt (c : List UInt8) (k : Nat) : List UInt8 := c.take 12 ++ toBe 4 (be (c.drop 12) + k)
theorem gcnt_len {c : List UInt8} (h : c.length = 16) (k : Nat) : (gcnt c k).length = 16 := by unfold gcnt; rw [List.length_append, List.length_take, toBe_len, h]; rfl
/-- k blocks of the stream. -/
def gblk (E : List UInt8 → List UInt8) (c : List UInt8) : Nat → List UInt8
  | 0 => []
  | k + 1 => gblk E c k ++ E (gcnt c (k + 1))
theorem gblk_len (E : List UInt8 → List UInt8) (c : List UInt8) (hE : ∀ s : List UInt8, s.length = 16 → (E s).length = 16) (hc : c.length = 16) : ∀ k, (gblk E c k).length = 16 * k
  | 0 => rfl
  | k + 1 => by rw [gblk, List.length_append, gblk_len E c hE hc k, hE _ (gcnt_len hc _)]; omega
def streamF (E : List UInt8 → List UInt8) (c : List UInt8) (m : Nat) : List UInt8 := (gblk E c (nblk m)).take m
theorem streamF_len (E : List UInt8 → List UInt8) (c : List UInt8) (m : Nat) (hE : ∀ s : List UInt8, s.length = 16 → (E s).length = 16) (hc : c.length = 16) : (streamF E c m).length = m := by
  unfold streamF
  rw [List.length_take, gblk_len E c hE hc]; unfold nblk; omega

set_option maxRecDepth 100000 in
set_option maxHeartbeats 4000000 in
theorem stream_any (w : World) (kv : Option Addr) (E : List UInt8 → List UInt8) (hk : KeyV w kv E) (c : List UInt8) (hc : c.length = 16) (m : Nat) (hm : m < 1000000) :
    Calls Try.prog 55 #[.pointer kv, .agg (bys c).toArray, .int .i64 m] w fun e w' => ∃ pa cap, e = .returned (.slice pa m cap) ∧ RowAt w' pa (streamF E c m) ∧ m ≤ cap ∧ Below w.heap.size w w' := by
  have h0 := Blk.new w (bys c) tA16
  have hB0 : Below w.heap.size w (w.alloc (.cells (bys c).toArray tA16)) := (Below.refl _ _).alloc (Nat.le_refl _) _
  have hrw := ((h0.rowAt 12 4).congr (show (c.drop 12).take 4 = c.drop 12 by rw [List.take_of_length_le]; simp [hc]))
  have hdl : (c.drop 12).length = 4 := by rw [List.length_drop, hc]
  have hbl := be_lt (c.drop 12)
  rw [hdl] at hbl
  obtain ⟨x, hx⟩ : ∃ x, be (c.drop 12) = x := ⟨_, rfl⟩
  have hg : ∀ k, gcnt c k = c.take 12 ++ toBe 4 (x + k) := fun k => by unfold gcnt; rw [hx]
  have hgl := fun k => gcnt_len hc k
  have hbe : gblk E c 0 = [] := rfl
  obtain ⟨K, hK⟩ : ∃ K, nblk m = K := ⟨_, rfl⟩
  have hK9 : K ≤ 1000000 := by rw [← hK]; unfold nblk; omega
  have q1 : ((m : Int) + 16 - 1).tdiv 16 = (K : Int) := by rw [Int.tdiv_eq_ediv_of_nonneg (by omega), ← hK]; unfold nblk; omega
  have q2 : ((m : Int) + 16 - 1) / 16 = (K : Int) := by rw [← hK]; unfold nblk; omega
  have hEl : ∀ s : List UInt8, s.length = 16 → (E s).length = 16 := fun s hs => hk.len s hs
  have hgb := gblk_len E c hEl hc
  have Hc := hid hc
  have Hk := hid hk
  have HK := hid hK
  have Hg := hid hg
  have Hgl := hid hgl
  have Hgb := hid hgb
  have HEl := hid hEl
  have hxl : x < 4294967296 := by rw [← hx]; exact hbl
  clear hc hk hK hg hgl hgb hEl
  go_enter Try.func55, Try.ntmps55
  go_wp2_with fail
  change Calls _ _ _ (w.alloc (.cells (bys c).toArray tA16)) _
  generalize w.alloc (.cells (bys c).toArray tA16) = W at *
  refine (big_any W _ 4 4 (c.drop 12) hrw hdl (by omega)).mono ?_
  rintro e w' ⟨rfl, rfl⟩
  rw [hx]
  have q3 : IntKind.u32.wrap (x : Int) = (x : Int) := by rw [IntKind.wrap_u32]; omega
  have q4 : (x : Int) % 4294967296 = (x : Int) := by omega
  have lW := h0.lt
  go_wp2_with fail
  go_loopw [8, 18] (fun v i wx => ∃ k : Nat, k ≤ K ∧ i = .int .i64 k ∧ OwnR W.heap.size wx v (gblk E c k) ∧ (∃ t4 : List UInt8, t4.length = 4 ∧ Blk wx w.heap.size (bys (c.take 12 ++ t4)) tA16) ∧ Chg W.heap.size [w.heap.size] W wx) (fun _ i _ => K - (intOf i).toNat)
  case atStart => exact ⟨0, by omega, rfl, OwnR.nil _ _, ⟨c.drop 12, hdl, by rw [List.take_append_drop]; exact h0⟩, Chg.refl _ _ _⟩
  case round =>
    obtain ⟨k, hk, rfl, hown, ⟨t4, ht4, hb4⟩, hC⟩ := hrel
    have Hown := hid hown
    have hsz := hC.size
    clear hown h0
    by_cases hlt : k < K
    · obtain ⟨y1, hy1⟩ : ∃ y1, (x + k) % 4294967296 = y1 := ⟨_, rfl⟩
      obtain ⟨y2, hy2⟩ : ∃ y2, (y1 + 1) % 4294967296 = y2 := ⟨_, rfl⟩
      have r0 : IntKind.u32.wrap (k : Int) = (k : Int) := by rw [IntKind.wrap_u32]; omega
      have r1 : IntKind.u32.wrap ((x : Int) + (k : Int)) = (y1 : Int) := by rw [IntKind.wrap_u32]; omega
      have r2 : IntKind.u32.wrap ((y1 : Int) + 1) = (y2 : Int) := by rw [IntKind.wrap_u32]; omega
      have r3 : IntKind.u64.wrap (y2 : Int) = (y2 : Int) := by rw [IntKind.wrap_u64]; omega
      have hy64 : y2 < 18446744073709551616 := by omega
      have ht : toBe 4 y2 = toBe 4 (x + (k + 1)) := toBe_congr 4 (by show y2 % 4294967296 = (x + (k + 1)) % 4294967296; omega)
      have hg1 := Hg.out (k + 1)
      have hgl := Hgl.out (k + 1)
      rw [← ht] at hg1
      have hgs : gblk E c (k + 1) = gblk E c k ++ E (gcnt c (k + 1)) := rfl
      obtain ⟨G, hG⟩ : ∃ G, gcnt c (k + 1) = G := ⟨_, rfl⟩
      rw [hG] at hg1 hgl hgs
      have hspl : splice (bys (c.take 12 ++ t4)) 12 ((List.drop 0 (bys (toBe 4 y2))).take 4) = bys G := by
        have hl := toBe_len 4 y2
        have h12 : (c.take 12).length = 12 := by rw [List.length_take, Hc.out]; rfl
        have e1 : bys (c.take 12 ++ t4) = bys (c.take 12) ++ bys t4 := by simp [bys]
        have e2 : bys G = bys (c.take 12) ++ bys (toBe 4 y2) := by rw [hg1]; simp [bys]
        rw [e1, e2]
        unfold splice
        rw [List.drop_zero, List.take_of_length_le (l := bys (toBe 4 y2)) (by rw [bys_length, hl]; exact Nat.le_refl _), List.take_append_of_le_length (by rw [bys_length, h12]; exact Nat.le_refl _), List.take_of_length_le (by rw [bys_length, h12]; exact Nat.le_refl _),
          List.drop_of_length_le (by rw [List.length_append, bys_length, bys_length, bys_length, h12, ht4, hl]; decide), List.append_nil]
      have hl12 : (bys (c.take 12 ++ t4)).length = 16 := by rw [bys_length, List.length_append, List.length_take, Hc.out, ht4]; rfl
      have Hspl := hid hspl
      have Hgs := hid hgs
      have q5 : (k : Int) < (K : Int) := by omega
      have hCd := hC.drew
      have hEG := HEl.out G hgl
      have Hg1 := hid hg1
      clear hspl hgs hg1 hG ht hy1 hy2 hC
      obtain ⟨Z, hZ⟩ : ∃ Z, bys (c.take 12 ++ t4) = Z := ⟨_, rfl⟩
      rw [hZ] at hb4 hl12 Hspl
      clear hZ
      go_upto_region 6 with fail
      try simp only [Act.put]
      refine tkR (fun _ => True) [] (by kernel_rfl) (fun c a d v w h => by cases d <;> exact h) (trivial) (fun hPF hHeld => ?_)
      refine tkB 0 (.some 21) _ _ rfl rfl (by kernel_rfl) (by kernel_rfl) (by kernel_rfl) (by kernel_rfl) hPF rfl (fun w' => by (go_simp; try with_reducible rfl)) hHeld (fun hHeld => ?_)
      simp only [Act.put, List.setIfInBounds_toArray, List.set_cons_zero, List.set_cons_succ]
      refine tkB 1 (.some 22) _ _ rfl rfl (by kernel_rfl) (by kernel_rfl) (by kernel_rfl) (by kernel_rfl) hPF rfl (fun w' => by (go_simp; try with_reducible rfl)) hHeld (fun hHeld => ?_)
      simp only [Act.put, List.setIfInBounds_toArray, List.set_cons_zero, List.set_cons_succ]
      refine tkB 2 (.some 23) _ _ rfl rfl (by kernel_rfl) (by kernel_rfl) (by kernel_rfl) (by kernel_rfl) hPF rfl (fun w' => by (go_simp; try with_reducible rfl)) hHeld (fun hHeld => ?_)
      simp only [Act.put, List.setIfInBounds_toArray, List.set_cons_zero, List.set_cons_succ]
      refine tkB 3 (.some 24) _ _ rfl rfl (by kernel_rfl) (by kernel_rfl) (by kernel_rfl) (by kernel_rfl) hPF rfl (fun w' => by (go_simp; try with_reducible rfl)) hHeld (fun hHeld => ?_)
      simp only [Act.put, List.setIfInBounds_toArray, List.set_cons_zero, List.set_cons_succ]
      refine tkB 4 (.some 25) _ _ rfl rfl (by kernel_rfl) (by kernel_rfl) (by kernel_rfl) (by kernel_rfl) hPF rfl (fun w' => by (go_simp; try with_reducible rfl)) hHeld (fun hHeld => ?_)
      simp only [Act.put, List.setIfInBounds_toArray, List.set_cons_zero, List.set_cons_succ]
      refine tkB 5 (.some 26) _ _ rfl rfl (by kernel_rfl) (by kernel_rfl) (by kernel_rfl) (by kernel_rfl) hPF rfl (fun w' => by (go_simp; try with_reducible rfl)) hHeld (fun hHeld => ?_)
      simp only [Act.put, List.setIfInBounds_toArray, List.set_cons_zero, List.set_cons_succ]
      refine tkB 6 (.some 27) _ _ rfl rfl (by kernel_rfl) (by kernel_rfl) (by kernel_rfl) (by kernel_rfl) hPF rfl (fun w' => by (go_simp; try with_reducible rfl)) hHeld (fun hHeld => ?_)
      simp only [Act.put, List.setIfInBounds_toArray, List.set_cons_zero, List.set_cons_succ]
      have hS := hHeld (by kernel_rfl)
      refine tkW (rs := [7]) (by kernel_rfl) (by simp) (AllK.cons (o := _) rfl (fun KC hKC => ?_) AllK.nil)
      go_simp
      refine (putbig_any _ y2 4 hy64 (by omega)).mono ?_
      rintro e w3 ⟨rfl, hp3, hB3⟩
      have hb5 := hb4.drew.below hB3 hb4.lt
      have hown5 := Hown.out.drew.below hB3
      have hC5 := hCd.trans ((Chg.ofBelow hB3).mono (M := W.heap.size) (G := [w.heap.size]) hsz (fun _ _ h => h))
      have hs5 := hB3.size
      refine hKC.out _ _ (trivial) (fun hHeld => ?_)
      clear hKC KC
      try simp only [Act.put, List.setIfInBounds_toArray, List.set_cons_zero, List.set_cons_succ]
      have hS := hHeld (by kernel_rfl)
      refine tkW (rs := [8]) (by kernel_rfl) (by simp) (AllK.cons (o := _) rfl (fun KC hKC => ?_) AllK.nil)
      refine wantIt rfl (wp_copy_blk (.some 29) rfl (.tmp 21) (.tmp 28) 33 33 rfl 5 under33b (by kernel_rfl) w.heap.size 12 4 4 (wr.drew.heap.size + 1) 0 4 4 rfl rfl Z (bys (toBe 4 y2)) tA16 tU8 hb5 hp3 4 rfl (by rw [hl12]; decide) (by rw [bys_length, toBe_len]; decide) (bys_one _) ?_)
      intro w6 hb6 hC6 hs6
      rw [Hspl.out] at hb6
      have hown6 := hown5.chg hC6 (Nat.le_refl _) (fun j e => by have := (Hown.out.lt j e).1; simp; omega)
      have hs56 : W.heap.size ≤ w3.heap.size := Nat.le_trans hsz hs5
      have hC7 := hC5.trans (hC6.mono (M := W.heap.size) (G := [w.heap.size]) hs56 (fun _ _ h => h))
      refine hKC.out _ _ (trivial) (fun hHeld => ?_)
      clear hKC KC
      try simp only [Act.put, List.setIfInBounds_toArray, List.set_cons_zero, List.set_cons_succ]
      refine tkD (by kernel_rfl) ?_ _
      have hsx : (Try.prog.info? 36).map (·.size) = some (bys G).length := by rw [size54, bys_length, hgl]
      have hBw := hB0.trans (hC7.below (M := w.heap.size) hB0.size (fun k hk => by simp at hk; omega))
      have hkv := Hk.out.below hBw
      clear hb5 hp3 hC5 hs5 hC6 hs6 hown5 hCd
      go_wp2_with (refine wpList_load_mid rfl 36 (.tmp 4) rfl w.heap.size 0 rfl (bys G) _ hb6.whole under54 rfl hsx ?_)
      refine (keyv_enc hkv G hgl).mono ?_
      rintro e w8 ⟨rfl, hB8⟩
      have hb8 := hb6.below hB8 hb6.lt
      have hown8 := hown6.below hB8
      have hC8 := hC7.trans ((Chg.ofBelow hB8).mono (M := W.heap.size) (G := [w.heap.size]) hC7.size (fun _ _ h => h))
      have hs8 := hC8.size
      obtain ⟨Y, hY⟩ : ∃ Y, E G = Y := ⟨_, rfl⟩
      have hgs := Hgs.out
      rw [hY] at hEG hgs ⊢
      have hl0 : Blk (w8.alloc (.cells (bys z16).toArray tA16)) w8.heap.size (bys z16) tA16 := Blk.new _ _ _
      have hl1 := hl0.setCells (bys Y) 0 (by rw [bys_length, bys_length, hEG]; decide)
      rw [splice_whole _ _ (by rw [bys_length, bys_length, hEG]; rfl)] at hl1
      have hBa : Below w8.heap.size w8 ((w8.alloc (.cells (bys z16).toArray tA16)).setCells w8.heap.size 0 (bys Y)) := ((Below.refl _ _).alloc (Nat.le_refl _) _).trans (((Chg.refl (w8.alloc (.cells (bys z16).toArray tA16)).heap.size [w8.heap.size] (w8.alloc (.cells (bys z16).toArray tA16))).setCells (b := w8.heap.size) (.inl (by simp)) (bys Y) 0).below (M := w8.heap.size) (by simp) (fun k hk => by simp at hk; omega))
      have hb9 := hb8.below hBa hb8.lt
      have hown9 := hown8.below hBa
      have hC9 := hC8.trans ((Chg.ofBelow hBa).mono (M := W.heap.size) (G := [w.heap.size]) hs8 (fun _ _ h => h))
      have hs9 := hC9.size
      have Hgs2 := hid hgs
      clear hb8 hown8 hC8 hb6 hown6 hC7 hB8 hBa hY hgs Hgs hkv
      go_upto_region 8 with (refine wpList_store_mid rfl 36 (.tmp 10) (.tmp 32) rfl w8.heap.size 0 (bys Y).toArray rfl rfl (hl0.there 0 _ (by rw [List.size_toArray, bys_length, bys_length, hEG]; decide)) (by rw [size54, List.size_toArray, bys_length, hEG]) (all_oneCell_toArray (bys_one _)) ?_)
      change Code.wp _ _ _ _ ((w8.alloc (.cells (bys z16).toArray tA16)).setCells w8.heap.size 0 (bys Y))
      generalize (w8.alloc (.cells (bys z16).toArray tA16)).setCells w8.heap.size 0 (bys Y) = w9 at *
      have hgbl := Hgb.out k
      go_upto_region 9 with (refine wpList_addO hown9 rfl (.tmp 33) (.tmp 34) rfl rfl (some ⟨w8.heap.size, 0, none⟩) 16 16 Y rfl hl1.rowAt0 hEG (by rw [hgbl]; omega) hs9 ?_; intro v10 w10 hown10 hgrow10 _)
      rw [← Hgs2.out] at hown10
      have hC10 := hC9.grown hgrow10 hs9 (fun j e => .inr (hown9.lt j e).1)
      have hb10 := hb9.kept hgrow10 (fun e => by have := (hown9.lt _ e).1; omega)
      have hGsp : ∃ t4 : List UInt8, t4.length = 4 ∧ Blk w10 w.heap.size (bys (c.take 12 ++ t4)) tA16 := ⟨toBe 4 y2, toBe_len _ _, by rw [← Hg1.out]; exact hb10⟩
      have Hown10 := hid hown10
      clear hown10 hgrow10 hb9 hown9 hl0 hl1
      go_wp2_with fail
      go_roundw
      case rel => exact ⟨k + 1, by omega, by go_num, Hown10.out, hGsp, hC10⟩
      case measure => (simp [intOf]; try omega)
    · have hkK : k = K := by omega
      have ho := Hown.out
      have hl := Hgb.out k
      obtain ⟨pa, cp, rfl, hcp, hrow⟩ := ho.row
      have q5 : ¬ ((k : Int) < (K : Int)) := by omega
      have hmK : m ≤ 16 * k := by rw [hkK, ← HK.out]; unfold nblk; omega
      rw [hl] at hcp ⊢
      have hrm := hrow.take m
      have hst : (gblk E c k).take m = streamF E c m := by unfold streamF; rw [HK.out, hkK]
      rw [hst] at hrm
      have Hrm := hid hrm
      have hmc : m ≤ cp := by omega
      have q6 : (m : Int) ≤ (cp : Int) := by omega
      have hBw := hB0.trans (hC.below (M := w.heap.size) hB0.size (fun k hk => by simp at hk; omega))
      clear hkK hst hrm hrow hC hb4 Hown ho hl hlt
      go_wp2_with fail
      go_ret
      exact ⟨pa, cp, rfl, Hrm.out, hmc, hBw⟩

def tagF (E : List UInt8 → List UInt8) (c aad sealed : List UInt8) : List UInt8 := List.zipWith (· ^^^ ·) (ghF (E z16) (padZ aad ++ padZ sealed ++ lenF aad.length sealed.length)) (E c)
theorem tagF_len (E : List UInt8 → List UInt8) (c aad sealed : List UInt8) (h : (E c).length = 16) : (tagF E c aad sealed).length = 16 := by
  unfold tagF; rw [List.length_zipWith, ghF_len, h]; rfl

set_option maxRecDepth 100000 in
set_option maxHeartbeats 4000000 in
theorem tag_any (w : World) (kv : Option Addr) (E : List UInt8 → List UInt8) (hk : KeyV w kv E) (c : List UInt8) (hc : c.length = 16) (pa : Option Addr) (n ca : Nat) (a : List UInt8) (ha : RowAt w pa a) (hn : a.length = n) (hn9 : n < 1000000)
    (pb : Option Addr) (m cb : Nat) (b : List UInt8) (hb : RowAt w pb b) (hm : b.length = m) (hm9 : m < 1000000) :
    Calls Try.prog 56 #[.pointer kv, .agg (bys c).toArray, .slice pa n ca, .slice pb m cb] w fun e w' => ∃ g, e = .returned (.slice (some ⟨g, 0, none⟩) 16 16) ∧ w.heap.size ≤ g ∧ Blk w' g (bys (tagF E c a b)) tU8 ∧ Below w.heap.size w w' := by
  have h0 := Blk.new w (bys c) tA16
  have hB0 : Below w.heap.size w (w.alloc (.cells (bys c).toArray tA16)) := (Below.refl _ _).alloc (Nat.le_refl _) _
  have hsc : (Try.prog.info? 36).map (·.size) = some (bys c).length := by rw [size54, bys_length, hc]
  have htl := tagF_len E c a b (hk.len c hc)
  have htf : tagF E c a b = List.zipWith (· ^^^ ·) (hashF E n m [⟨pa, n, ca, a⟩, ⟨pb, m, cb, b⟩]) (E c) := by
    unfold tagF hashF padAll; rw [hn, hm]; simp
  have hhl : (hashF E n m [⟨pa, n, ca, a⟩, ⟨pb, m, cb, b⟩]).length = 16 := ghF_len _ _
  have hel := hk.len c hc
  have Ha := hid ha
  have Hb := hid hb
  have Hn := hid hn
  have Hm := hid hm
  have Hk := hid hk
  have Hc := hid hc
  obtain ⟨H, hH⟩ : ∃ H, hashF E n m [⟨pa, n, ca, a⟩, ⟨pb, m, cb, b⟩] = H := ⟨_, rfl⟩
  rw [hH] at htf hhl
  have HH := hid hH
  have Htf := hid htf
  clear ha hb hn hm hk hc hH htf
  go_enter Try.func56, Try.ntmps56
  go_wp2_with fail
  have hw1 : Blk ((w.alloc (.cells (bys c).toArray tA16)).alloc (.cells #[.slice pa n ca, .slice pb m cb] tBytes)) (w.heap.size + 1) [.slice pa n ca, .slice pb m cb] tBytes := by
    have := Blk.new (w.alloc (.cells (bys c).toArray tA16)) [.slice pa n ca, .slice pb m cb] tBytes
    simp only [World.size_alloc] at this; exact this
  have h01 := h0.alloc (.cells #[.slice pa n ca, .slice pb m cb] tBytes)
  have hB1 : Below w.heap.size w ((w.alloc (.cells (bys c).toArray tA16)).alloc (.cells #[.slice pa n ca, .slice pb m cb] tBytes)) := hB0.alloc (by simp) _
  change Calls _ _ _ ((w.alloc (.cells (bys c).toArray tA16)).alloc (.cells #[.slice pa n ca, .slice pb m cb] tBytes)) _
  generalize (w.alloc (.cells (bys c).toArray tA16)).alloc (.cells #[.slice pa n ca, .slice pb m cb] tBytes) = w1 at *
  refine (hash_any w1 kv E (Hk.out.below hB1) n m (by omega) (by omega) (w.heap.size + 1) [⟨pa, n, ca, a⟩, ⟨pb, m, cb, b⟩] 2 rfl (by omega) hw1 (by
    intro r hr
    simp only [List.mem_cons, List.not_mem_nil, or_false] at hr
    rcases hr with rfl | rfl
    · exact ⟨Ha.out.below hB1, Hn.out, hn9⟩
    · exact ⟨Hb.out.below hB1, Hm.out, hm9⟩)).mono ?_
  rintro e w2 ⟨rfl, hB2⟩
  rw [HH.out]
  have h02 := h01.below hB2 h01.lt
  have hBB := hB1.trans (hB2.mono hB1.size)
  have hs0 : Blk (w2.alloc (.cells (bys z16).toArray tA16)) w2.heap.size (bys z16) tA16 := Blk.new _ _ _
  have hs1 := hs0.setCells (bys H) 0 (by rw [bys_length, bys_length, hhl]; decide)
  rw [splice_whole _ _ (by rw [bys_length, bys_length, hhl]; rfl)] at hs1
  have hBa : Below w2.heap.size w2 ((w2.alloc (.cells (bys z16).toArray tA16)).setCells w2.heap.size 0 (bys H)) := ((Below.refl _ _).alloc (Nat.le_refl _) _).trans (((Chg.refl (w2.alloc (.cells (bys z16).toArray tA16)).heap.size [w2.heap.size] (w2.alloc (.cells (bys z16).toArray tA16))).setCells (b := w2.heap.size) (.inl (by simp)) (bys H) 0).below (M := w2.heap.size) (by simp) (fun k hk => by simp at hk; omega))
  have h03 := h02.below hBa h02.lt
  have hB3 := hBB.trans (hBa.mono hBB.size)
  clear h0 h01 hB0 hB1 hB2 h02 hBB hw1
  go_upto_region 2 with (refine wpList_store_mid rfl 36 (.tmp 9) (.tmp 19) rfl w2.heap.size 0 (bys H).toArray rfl rfl (hs0.there 0 _ (by rw [List.size_toArray, bys_length, bys_length, hhl]; decide)) (by rw [size54, List.size_toArray, bys_length, hhl]) (all_oneCell_toArray (bys_one _)) ?_)
  change Code.wp _ _ _ _ ((w2.alloc (.cells (bys z16).toArray tA16)).setCells w2.heap.size 0 (bys H))
  generalize (w2.alloc (.cells (bys z16).toArray tA16)).setCells w2.heap.size 0 (bys H) = w3 at *
  generalize w2.heap.size = sb at *
  go_wp2_with (refine wpList_load_mid rfl 36 (.tmp 5) rfl w.heap.size 0 rfl (bys c) _ h03.whole under54 rfl hsc ?_)
  refine (keyv_enc (Hk.out.below hB3) c Hc.out).mono ?_
  rintro e w4 ⟨rfl, hB4⟩
  have hs4 := hs1.below hB4 hs1.lt
  have hB5 := hB3.trans (hB4.mono hB3.size)
  obtain ⟨Y, hY⟩ : ∃ Y, E c = Y := ⟨_, rfl⟩
  have htf := Htf.out
  rw [hY] at hel htf ⊢
  have he0 : Blk (w4.alloc (.cells (bys z16).toArray tA16)) w4.heap.size (bys z16) tA16 := Blk.new _ _ _
  have he1 := he0.setCells (bys Y) 0 (by rw [bys_length, bys_length, hel]; decide)
  rw [splice_whole _ _ (by rw [bys_length, bys_length, hel]; rfl)] at he1
  have hBa : Below w4.heap.size w4 ((w4.alloc (.cells (bys z16).toArray tA16)).setCells w4.heap.size 0 (bys Y)) := ((Below.refl _ _).alloc (Nat.le_refl _) _).trans (((Chg.refl (w4.alloc (.cells (bys z16).toArray tA16)).heap.size [w4.heap.size] (w4.alloc (.cells (bys z16).toArray tA16))).setCells (b := w4.heap.size) (.inl (by simp)) (bys Y) 0).below (M := w4.heap.size) (by simp) (fun k hk => by simp at hk; omega))
  have hs5 := hs4.below hBa hs4.lt
  have hB6 := hB5.trans (hBa.mono hB5.size)
  have Htf2 := hid htf
  clear hs0 hs1 h03 hB3 hB4 hs4 hB5 hY htf Htf
  go_upto_region 3 with (refine wpList_store_mid rfl 36 (.tmp 10) (.tmp 22) rfl w4.heap.size 0 (bys Y).toArray rfl rfl (he0.there 0 _ (by rw [List.size_toArray, bys_length, bys_length, hel]; decide)) (by rw [size54, List.size_toArray, bys_length, hel]) (all_oneCell_toArray (bys_one _)) ?_)
  change Code.wp _ _ _ _ ((w4.alloc (.cells (bys z16).toArray tA16)).setCells w4.heap.size 0 (bys Y))
  generalize (w4.alloc (.cells (bys z16).toArray tA16)).setCells w4.heap.size 0 (bys Y) = w5 at *
  generalize w4.heap.size = eb at *
  have hfin := hB6.size
  try simp only [Act.put]
  refine tkR (fun _ => True) [] (by kernel_rfl) (fun c a d v w h => by cases d <;> exact h) (trivial) (fun hPF hHeld => ?_)
  refine tkB 0 (.some 23) _ _ rfl rfl (by kernel_rfl) (by kernel_rfl) (by kernel_rfl) (by kernel_rfl) hPF rfl (fun w' => by (go_simp; try with_reducible rfl)) hHeld (fun hHeld => ?_)
  simp only [Act.put, List.setIfInBounds_toArray, List.set_cons_zero, List.set_cons_succ]
  refine tkB 1 (.some 24) _ _ rfl rfl (by kernel_rfl) (by kernel_rfl) (by kernel_rfl) (by kernel_rfl) hPF rfl (fun w' => by (go_simp; try with_reducible rfl)) hHeld (fun hHeld => ?_)
  simp only [Act.put, List.setIfInBounds_toArray, List.set_cons_zero, List.set_cons_succ]
  have hS := hHeld (by kernel_rfl)
  refine tkW (rs := [2]) (by kernel_rfl) (by simp) (AllK.cons (o := _) rfl (fun KC hKC => ?_) AllK.nil)
  go_simp
  refine (xor_any _ (some ⟨sb, 0, none⟩) (some ⟨eb, 0, none⟩) 16 16 16 16 16 H Y hs5.drew.rowAt0 he1.drew.rowAt0 hhl hel (by omega) rfl).mono ?_
  rintro e w7 ⟨rfl, hX, hB7⟩
  rw [← Htf2.out] at hX
  have hB8 := hB6.drew.trans (hB7.mono hB6.size)
  refine hKC.out _ _ (trivial) (fun hHeld => ?_)
  clear hKC KC
  try simp only [Act.put, List.setIfInBounds_toArray, List.set_cons_zero, List.set_cons_succ]
  refine tkB 3 (.some 8) _ _ rfl rfl (by kernel_rfl) (by kernel_rfl) (by kernel_rfl) (by kernel_rfl) hPF rfl (fun w' => by (go_simp; try with_reducible rfl)) hHeld (fun hHeld => ?_)
  simp only [Act.put, List.setIfInBounds_toArray, List.set_cons_zero, List.set_cons_succ]
  refine tkD (by kernel_rfl) ?_ _
  go_wp2_with fail
  go_ret
  exact ⟨_, rfl, by (show _ ≤ w5.heap.size + 2; omega), hX, hB8⟩
end Go.Proofs.Ytgellbapbphnlaa
