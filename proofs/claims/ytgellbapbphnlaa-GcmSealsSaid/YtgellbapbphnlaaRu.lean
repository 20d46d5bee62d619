import Derived.Test.YtgellbapbphnlaaRq
import Derived.Test.YtgellbapbphnlaaGn
import Derived.Deep.DeepCutAuto
/- the reference's Crypt, Tag, First of GCM -/
namespace Go.Proofs.Ytgellbapbphnlaa
open Go.RowKit

theorem more_any (w : World) (c : List UInt8) (hc : c.length = 16) :
    Calls Try.prog 98 #[.agg (bys c).toArray] w fun r w' => r = .returned (.agg (bys (gcnt c 1)).toArray) ∧ Below w.heap.size w w' := by
  obtain ⟨x0, x1, x2, x3, x4, x5, x6, x7, x8, x9, x10, x11, x12, x13, x14, x15, rfl⟩ := len16 hc
  exact more16 w [x0, x1, x2, x3, x4, x5, x6, x7, x8, x9, x10, x11] rfl x12 x13 x14 x15
/-- The stream's byte number i. -/
def gsb (E : List UInt8 → List UInt8) (c : List UInt8) (i : Nat) : UInt8 := (E (gcnt c (i / 16 + 1))).getD (i % 16) 0
def gx (E : List UInt8 → List UInt8) (c : List UInt8) (b : List UInt8) : List UInt8 := (List.range b.length).map fun i => b.getD i 0 ^^^ gsb E c i
theorem gx_len (E : List UInt8 → List UInt8) (c b : List UInt8) : (gx E c b).length = b.length := by simp [gx]
theorem gx_snoc (E : List UInt8 → List UInt8) (c b : List UInt8) (x : UInt8) : gx E c (b ++ [x]) = gx E c b ++ [x ^^^ gsb E c b.length] := by
  unfold gx
  rw [List.length_append, List.length_singleton, List.range_succ, List.map_append]
  congr 1
  · apply List.map_congr_left
    intro i hi
    have hi : i < b.length := by simpa using hi
    simp [List.getD, List.getElem?_append_left hi]
  · simp [List.getD]
theorem gblk_at (E : List UInt8 → List UInt8) (c : List UInt8) (hE : ∀ s : List UInt8, s.length = 16 → (E s).length = 16) (hc : c.length = 16) : ∀ k i, i < 16 * k → (gblk E c k).getD i 0 = gsb E c i
  | 0, _, h => absurd h (by omega)
  | k + 1, i, h => by
    have hl := gblk_len E c hE hc k
    rw [gblk]
    by_cases hi : i < 16 * k
    · have : (gblk E c k ++ E (gcnt c (k + 1))).getD i 0 = (gblk E c k).getD i 0 := by simp [List.getD, List.getElem?_append_left (show i < (gblk E c k).length by omega)]
      rw [this, gblk_at E c hE hc k i hi]
    · have : (gblk E c k ++ E (gcnt c (k + 1))).getD i 0 = (E (gcnt c (k + 1))).getD (i - 16 * k) 0 := by simp [List.getD, List.getElem?_append_right (show (gblk E c k).length ≤ i by omega), hl]
      unfold gsb
      rw [this, show i / 16 + 1 = k + 1 by omega, show i % 16 = i - 16 * k by omega]
theorem gx_stream (E : List UInt8 → List UInt8) (c b : List UInt8) (hE : ∀ s : List UInt8, s.length = 16 → (E s).length = 16) (hc : c.length = 16) : gx E c b = List.zipWith (· ^^^ ·) b (streamF E c b.length) := by
  have hl := streamF_len E c b.length hE hc
  apply ext_getD
  · rw [gx_len, List.length_zipWith, hl, Nat.min_self]
  · intro j hj
    rw [gx_len] at hj
    have e1 : (gx E c b).getD j 0 = b.getD j 0 ^^^ gsb E c j := by simp [gx, hj]
    have e2 : (List.zipWith (· ^^^ ·) b (streamF E c b.length)).getD j 0 = b.getD j 0 ^^^ (streamF E c b.length).getD j 0 := by
      simp [List.getD, List.getElem?_zipWith, List.getElem?_eq_getElem hj, List.getElem?_eq_getElem (show j < (streamF E c b.length).length by omega)]
    have e3 : (streamF E c b.length).getD j 0 = (gblk E c (nblk b.length)).getD j 0 := by
      unfold streamF
      simp only [List.getD, List.getElem?_take, if_pos hj]
    rw [e1, e2, e3, gblk_at E c hE hc _ _ (by unfold nblk; omega)]

/-- Round keys as the reference holds them. -/
structure RK (w : World) (g nr : Nat) (rk : List UInt8) : Prop where
  b : ∃ ex, Blk w g (bys rk ++ ex) tA16
  l : rk.length = 16 * nr
  n2 : 2 ≤ nr
  n15 : nr ≤ 15
  E : ∀ s : List UInt8, s.length = 16 → (enc rk s).length = 16
theorem RK.below {w w' : World} {g nr : Nat} {rk : List UInt8} (h : RK w g nr rk) (hb : Below w.heap.size w w') : RK w' g nr rk := by
  obtain ⟨⟨ex, hx⟩, a, b, c, d⟩ := h
  exact ⟨⟨ex, hx.below hb hx.lt⟩, a, b, c, d⟩
theorem RK.chg {w w' : World} {g nr : Nat} {rk : List UInt8} {N : Nat} {F : List Nat} (h : RK w g nr rk) (hc : Chg N F w w') (hN : g < N) (hF : g ∉ F) : RK w' g nr rk := by
  obtain ⟨⟨ex, hx⟩, a, b, c, d⟩ := h
  exact ⟨⟨ex, hx.chg hc hN hF⟩, a, b, c, d⟩
theorem RK.lt {w : World} {g nr : Nat} {rk : List UInt8} (h : RK w g nr rk) : g < w.heap.size := by obtain ⟨ex, hx⟩ := h.b; exact hx.lt
theorem refenc_K {T : List UInt8} (hT : tbl 256 = T) (w : World) (g nr cap : Nat) (rk s : List UInt8) (h : RK w g nr rk) (hs : s.length = 16) :
    Calls Try.prog 45 #[.agg (bys T).toArray, .slice (some ⟨g, 0, none⟩) nr cap, .agg (bys s).toArray] w fun e w' => e = .returned (.agg (bys (enc rk s)).toArray) ∧ Below w.heap.size w w' := by
  obtain ⟨⟨ex, hx⟩, a, b, c, _⟩ := h
  exact refenc_T hT w g nr cap rk s ex hx a b c hs

set_option maxRecDepth 100000 in
set_option maxHeartbeats 4000000 in
theorem refcrypt10_any {T : List UInt8} (hT : tbl 256 = T) (w : World) (g nr kc : Nat) (rk : List UInt8) (hk : RK w g nr rk) (c : List UInt8) (hc : c.length = 16) (pb : Option Addr) (n cap : Nat) (b : List UInt8) (hb : RowAt w pb b) (hn : b.length = n) (hp : n < 1000000) :
    Calls Try.prog 66 #[.agg (bys T).toArray, .slice (some ⟨g, 0, none⟩) nr kc, .agg (bys c).toArray, .slice pb n cap] w fun e w' => ∃ v, e = .returned v ∧ OwnR w.heap.size w' v (gx (enc rk) c b) ∧ Below w.heap.size w w' := by
  have hTl : T.length = 256 := by rw [← hT]; exact tbl_len 256 (by omega)
  have hsT : (Try.prog.info? 62).map (·.size) = some (bys T).length := by rw [size60, bys_length, hTl]
  have t0 : Blk (((w.alloc (.cells (bys T).toArray tA256)).alloc (.cells (bys c).toArray tA16)).alloc (.cells (bys z16).toArray tA16)) w.heap.size (bys T) tA256 := ((Blk.new w (bys T) tA256).alloc _).alloc _
  have t1 : Blk (((w.alloc (.cells (bys T).toArray tA256)).alloc (.cells (bys c).toArray tA16)).alloc (.cells (bys z16).toArray tA16)) (w.heap.size + 1) (bys c) tA16 := by
    have := (Blk.new (w.alloc (.cells (bys T).toArray tA256)) (bys c) tA16).alloc (.cells (bys z16).toArray tA16)
    simp only [World.size_alloc] at this; exact this
  have t2 : Blk (((w.alloc (.cells (bys T).toArray tA256)).alloc (.cells (bys c).toArray tA16)).alloc (.cells (bys z16).toArray tA16)) (w.heap.size + 1 + 1) (bys z16) tA16 := by
    have := Blk.new ((w.alloc (.cells (bys T).toArray tA256)).alloc (.cells (bys c).toArray tA16)) (bys z16) tA16
    simp only [World.size_alloc] at this; exact this
  have hB0 : Below w.heap.size w (((w.alloc (.cells (bys T).toArray tA256)).alloc (.cells (bys c).toArray tA16)).alloc (.cells (bys z16).toArray tA16)) := (((Below.refl _ _).alloc (Nat.le_refl _) _).alloc (by simp) _).alloc (by simp; omega) _
  have hWs : (((w.alloc (.cells (bys T).toArray tA256)).alloc (.cells (bys c).toArray tA16)).alloc (.cells (bys z16).toArray tA16)).heap.size = w.heap.size + 3 := by simp
  have lg := hk.lt
  have hk1 := hk.below hB0
  have hb1 := hb.below hB0
  have hpos := fun h => hb.pos (X := b) h
  have t1 : Blk (((w.alloc (.cells (bys T).toArray tA256)).alloc (.cells (bys c).toArray tA16)).alloc (.cells (bys z16).toArray tA16)) (w.heap.size + 1) (bys (gcnt c 0)) tA16 := by rw [gcnt_zero hc]; exact t1
  have Hn := hid hn
  have HT := hid hT
  have Hc := hid hc
  clear hk hb hn hT hc hTl
  go_enter Try.func66, Try.ntmps66
  go_wp2_with fail
  change Code.wp _ _ _ _ (((w.alloc (.cells (bys T).toArray tA256)).alloc (.cells (bys c).toArray tA16)).alloc (.cells (bys z16).toArray tA16))
  generalize ((w.alloc (.cells (bys T).toArray tA256)).alloc (.cells (bys c).toArray tA16)).alloc (.cells (bys z16).toArray tA16) = W at *
  go_loopw [9, 11] (fun v i wr => ∃ (k : Nat) (blk : List UInt8), k ≤ n ∧ i = .int .i64 k ∧ blk.length = 16 ∧ (k % 16 = 0 ∨ blk = enc rk (gcnt c (k / 16 + 1))) ∧ Blk wr (w.heap.size + 1 + 1) (bys blk) tA16 ∧ Blk wr (w.heap.size + 1) (bys (gcnt c ((k + 15) / 16))) tA16 ∧
    OwnR (w.heap.size + 3) wr v (gx (enc rk) c (b.take k)) ∧ Chg (w.heap.size + 3) [w.heap.size + 1, w.heap.size + 1 + 1] W wr) (fun _ i _ => n - (intOf i).toNat)
  case atStart => exact ⟨0, z16, by omega, rfl, rfl, .inl rfl, t2, t1, OwnR.nil _ _, Chg.refl _ _ _⟩
  case round =>
    clear t1 t2
    obtain ⟨k, blk, hk, rfl, hbl, hcase, hX, hCb, hO, hC⟩ := hrel
    have hcs := hC.size
    by_cases hlt : k < n
    · obtain ⟨q, hq⟩ : ∃ q, k / 16 = q := ⟨_, rfl⟩
      obtain ⟨r, hr⟩ : ∃ r, k % 16 = r := ⟨_, rfl⟩
      have hri : (k : Int) % 16 = (r : Int) := by omega
      have hri2 : (k : Int).tmod 16 = (r : Int) := by rw [Int.tmod_eq_emod_of_nonneg (by omega)]; exact hri
      have hr16 : r < 16 := by omega
      have q1 : (k : Int) < (n : Int) := by omega
      rw [hq, hr] at hcase
      have Hq := hid hq
      have Hr := hid hr
      have HO := hid hO
      have Hbl := hid hbl
      clear hq hr hO hbl
      go_upto_if 20 with fail
      have hG0 : (k + 15) / 16 = if r = 0 then q else q + 1 := by
        have h1 := Hq.out
        have h2 := Hr.out
        split <;> omega
      rw [hG0] at hCb
      have HG := hid (gcnt_len Hc.out (q + 1))
      clear hG0
      go_cut [9] from 12 to 38 (fun s9 wx => s9 = u9 ∧ Blk wx (w.heap.size + 1 + 1) (bys (enc rk (gcnt c (q + 1)))) tA16 ∧ Blk wx (w.heap.size + 1) (bys (gcnt c (q + 1))) tA16 ∧ OwnR (w.heap.size + 3) wx u9 (gx (enc rk) c (b.take k)) ∧ Chg (w.heap.size + 3) [w.heap.size + 1, w.heap.size + 1 + 1] W wx)
      case first =>
        by_cases hr0 : r = 0
        · obtain rfl : r = 0 := hr0
          rw [if_pos rfl] at hCb
          have hgl := gcnt_len Hc.out q
          have hg1 : gcnt (gcnt c q) 1 = gcnt c (q + 1) := gcnt_gcnt Hc.out q 1
          have hT1 := t0.chg hC (by omega) (by simp; omega)
          have hK1 := hk1.chg hC (by omega) (by simp; omega)
          obtain ⟨D, hD⟩ : ∃ D, gcnt c q = D := ⟨_, rfl⟩
          obtain ⟨D2, hD2⟩ : ∃ D2, gcnt c (q + 1) = D2 := ⟨_, rfl⟩
          have hgl2 := HG.out
          rw [hD] at hCb hgl hg1
          rw [hD2] at hg1 hgl2
          have Hg1 := hid hg1
          have HD2 := hid hD2
          have hszD : (Try.prog.info? 36).map (·.size) = some (bys D).length := by rw [size54, bys_length, hgl]
          have hszD2 : (Try.prog.info? 36).map (·.size) = some (bys D2).length := by rw [size54, bys_length, hgl2]
          clear hD hg1 hD2 hcase
          go_wp2_with (refine wpList_load_mid rfl 36 (.tmp 6) rfl (w.heap.size + 1) 0 rfl (bys D) _ hCb.whole under54 rfl hszD ?_)
          refine (more_any wr D hgl).mono ?_
          rintro e wa ⟨rfl, hBa⟩
          rw [Hg1.out]
          have hCb2 := hCb.below hBa hCb.lt
          have hX2 := hX.below hBa hX.lt
          have hT2 := hT1.below hBa hT1.lt
          have hK2 := hK1.below hBa
          have hO2 := HO.out.below hBa
          have hC2 := hC.trans ((Chg.ofBelow hBa).mono (M := w.heap.size + 3) (G := [w.heap.size + 1, w.heap.size + 1 + 1]) (by omega) (fun _ _ h => h))
          have hC3 := (Chg.refl wa.heap.size [w.heap.size + 1] wa).setCells (b := w.heap.size + 1) (.inl (by simp)) (bys D2) 0
          have hCb3 := hCb2.setCells (bys D2) 0 (by rw [bys_length, bys_length, hgl, hgl2]; decide)
          rw [splice_whole _ _ (by rw [bys_length, bys_length, hgl, hgl2])] at hCb3
          have hsa := hC2.size
          have lT := t0.lt
          have lK := hk1.lt
          have hX3 := hX2.chg hC3 hX2.lt (by simp)
          have hT3 := hT2.chg hC3 hT2.lt (by simp)
          have hK3 := hK2.chg hC3 hK2.lt (by simp; omega)
          have hO3 := hO2.chg hC3 (Nat.le_refl _) (fun j e => by have := (hO2.lt j e).1; simp; omega)
          have hC4 := hC2.trans (hC3.mono (M := w.heap.size + 3) (G := [w.heap.size + 1, w.heap.size + 1 + 1]) (by omega) (fun a _ h => by simp at h ⊢; exact .inl h))
          clear hCb hX hT1 hK1 hX2 hT2 hK2 hO2 hC2 hC3 hBa hC
          go_upto_region 8 with (refine wpList_store_mid rfl 36 (.tmp 6) (.tmp 22) rfl (w.heap.size + 1) 0 (bys D2).toArray rfl rfl (hCb2.there 0 _ (by rw [List.size_toArray, bys_length, bys_length, hgl, hgl2]; decide)) (by rw [size54, List.size_toArray, bys_length, hgl2]) (all_oneCell_toArray (bys_one _)) ?_)
          change Code.wp _ _ _ _ (wa.setCells (w.heap.size + 1) 0 (bys D2))
          generalize wa.setCells (w.heap.size + 1) 0 (bys D2) = wb at *
          clear hCb2
          have hel := hK3.E D2 hgl2
          go_wp2_with (first | (refine wpList_load_mid rfl 62 (.tmp 4) rfl w.heap.size 0 rfl (bys T) _ hT3.whole under60 rfl hsT ?_) | (refine wpList_load_mid rfl 36 (.tmp 6) rfl (w.heap.size + 1) 0 rfl (bys D2) _ hCb3.whole under54 rfl hszD2 ?_))
          refine (refenc_K HT.out wb g nr kc rk D2 hK3 hgl2).mono ?_
          rintro e wd ⟨rfl, hBd⟩
          obtain ⟨V, hV⟩ : ∃ V, enc rk D2 = V := ⟨_, rfl⟩
          rw [hV] at hel ⊢
          have hCb5 := hCb3.below hBd hCb3.lt
          have hX5 := hX3.below hBd hX3.lt
          have hO5 := hO3.below hBd
          have hC5 := hC4.trans ((Chg.ofBelow hBd).mono (M := w.heap.size + 3) (G := [w.heap.size + 1, w.heap.size + 1 + 1]) (by have := hC4.size; omega) (fun _ _ h => h))
          have hC6 := (Chg.refl wd.heap.size [w.heap.size + 1 + 1] wd).setCells (b := w.heap.size + 1 + 1) (.inl (by simp)) (bys V) 0
          have hX6 := hX5.setCells (bys V) 0 (by rw [bys_length, bys_length, hel, Hbl.out]; decide)
          rw [splice_whole _ _ (by rw [bys_length, bys_length, hel, Hbl.out])] at hX6
          have hCb6 := hCb5.chg hC6 hCb5.lt (by simp)
          have hO6 := hO5.chg hC6 (Nat.le_refl _) (fun j e => by have := (hO5.lt j e).1; simp; omega)
          have hC7 := hC5.trans (hC6.mono (M := w.heap.size + 3) (G := [w.heap.size + 1, w.heap.size + 1 + 1]) (by have := hC5.size; omega) (fun a _ h => by simp at h ⊢; exact .inr h))
          have hXf : Blk (wd.setCells (w.heap.size + 1 + 1) 0 (bys V)) (w.heap.size + 1 + 1) (bys (enc rk (gcnt c (q + 1)))) tA16 := by rw [HD2.out, hV]; exact hX6
          have hCf : Blk (wd.setCells (w.heap.size + 1 + 1) 0 (bys V)) (w.heap.size + 1) (bys (gcnt c (q + 1))) tA16 := by rw [HD2.out]; exact hCb6
          have HXf := hid hXf
          have HCf := hid hCf
          have HO6 := hid hO6
          have HC7 := hid hC7
          clear hXf hCf hX6 hCb6 hO6 hC7 hC6 hC5 hO5 hCb5 hX3 hO3 hCb3 hV hT3 hK3
          go_wp2_with (refine wpList_store_mid rfl 36 (.tmp 10) (.tmp 26) rfl (w.heap.size + 1 + 1) 0 (bys V).toArray rfl rfl (hX5.there 0 _ (by rw [List.size_toArray, bys_length, bys_length, hel, Hbl.out]; decide)) (by rw [size54, List.size_toArray, bys_length, hel]) (all_oneCell_toArray (bys_one _)) ?_)
          go_meet
          exact ⟨rfl, HXf.out, HCf.out, HO6.out, HC7.out⟩
        · have hbr : ((r : Int) == 0) = false := by rw [beq_eq_false_iff_ne]; omega
          rw [if_neg hr0] at hCb
          have hblk := hcase.resolve_left hr0
          rw [hblk] at hX
          clear hblk hcase
          go_wp2_with fail
          go_meet
          exact ⟨rfl, hX, hCb, HO.out, hC⟩
      case rest =>
        clear hX hCb hC hcs hcase HO
        obtain ⟨rfl, hX, hCb, hO, hC⟩ := hcut
        have hcs := hC.size
        have hpw : RowAt wc pb b := hb1.chgL hC (fun a e => by have := hpos (by rw [Hn.out]; omega) a e; omega) (fun a e => by have := hpos (by rw [Hn.out]; omega) a e; simp; omega)
        have htk := take_succ_getD 0 b k (by rw [Hn.out]; exact hlt)
        have hlk : (b.take k).length = k := by rw [List.length_take, Hn.out]; omega
        have hxs : gx (enc rk) c (b.take k) ++ [b.getD k 0 ^^^ (enc rk (gcnt c (q + 1))).getD r 0] = gx (enc rk) c (b.take (k + 1)) := by
          rw [htk, gx_snoc, hlk]
          unfold gsb
          rw [Hq.out, Hr.out]
        have hxl : (gx (enc rk) c (b.take k)).length < 140737488355328 := by rw [gx_len, hlk]; omega
        obtain ⟨bp, bo, rfl, _, cb⟩ := hpw k (by rw [Hn.out]; exact hlt)
        have hel := hk1.E _ HG.out
        have cy := hX.cellAt (bys_get _ r (by omega))
        generalize hx : b.getD k 0 = x at *
        generalize hy : (enc rk (gcnt c (q + 1))).getD r 0 = y at *
        have Hxs := hid hxs
        have Hxl := hid hxl
        have Hel2 := hid hel
        have hO1 := hO.drew
        have hC1 := hC.drew
        have hX1 := hX.drew
        have hCb1 := hCb.drew
        have q2 : 0 ≤ (k : Int) := by omega
        have q3 : 0 ≤ (r : Int) := by omega
        have q4 : (r : Int) < 16 := by omega
        have hwc : w.heap.size + 3 ≤ wc.drew.heap.size := by show w.heap.size + 3 ≤ wc.heap.size; omega
        have hnx : (k + 1) % 16 = 0 ∨ enc rk (gcnt c (q + 1)) = enc rk (gcnt c ((k + 1) / 16 + 1)) := by
          have := Hq.out
          have := Hr.out
          by_cases h : (k + 1) % 16 = 0
          · exact .inl h
          · exact .inr (by rw [show (k + 1) / 16 = q by omega])
        have hnc : (k + 1 + 15) / 16 = q + 1 := by have := Hq.out; omega
        have Hnx := hid hnx
        have Hnc := hid hnc
        clear hx hy hxs hxl hel hcs hnx hnc htk hlk hO hC hX hCb
        go_wp2_with fail
        try simp only [Act.put]
        refine tkR (fun w' => w'.cell? ⟨bp, bo + k, none⟩ = some (.int .u8 (bv x)) ∧ w'.cell? ⟨w.heap.size + 1 + 1, r, none⟩ = some (.int .u8 (bv y))) [10] (by kernel_rfl) (fun c a d v w h => by cases d <;> exact h) (⟨cb, cy⟩) (fun hPF hHeld => ?_)
        refine tkB 0 (.some 27) _ _ rfl rfl (by kernel_rfl) (by kernel_rfl) (by kernel_rfl) (by kernel_rfl) hPF rfl (fun w' => by (go_simp; try with_reducible rfl)) hHeld (fun hHeld => ?_)
        simp only [Act.put, List.setIfInBounds_toArray, List.set_cons_zero, List.set_cons_succ]
        refine tkB 1 (.some 28) _ _ rfl rfl (by kernel_rfl) (by kernel_rfl) (by kernel_rfl) (by kernel_rfl) hPF rfl (fun w' => by (go_simp; try with_reducible rfl)) hHeld (fun hHeld => ?_)
        simp only [Act.put, List.setIfInBounds_toArray, List.set_cons_zero, List.set_cons_succ]
        refine tkB 2 (.some 29) _ _ rfl rfl (by kernel_rfl) (by kernel_rfl) (by kernel_rfl) (by kernel_rfl) hPF rfl (fun w' => by (go_simp; try with_reducible rfl)) hHeld (fun hHeld => ?_)
        simp only [Act.put, List.setIfInBounds_toArray, List.set_cons_zero, List.set_cons_succ]
        refine tkB 3 (.some 30) _ _ rfl rfl (by kernel_rfl) (by kernel_rfl) (by kernel_rfl) (by kernel_rfl) hPF rfl (fun w' => by (go_simp; try with_reducible rfl)) hHeld (fun hHeld => ?_)
        simp only [Act.put, List.setIfInBounds_toArray, List.set_cons_zero, List.set_cons_succ]
        refine tkA 4 (.some 31) _ _ rfl rfl (by kernel_rfl) (by kernel_rfl) (by kernel_rfl) (by kernel_rfl) (by kernel_rfl) hPF rfl (fun w' hw' => by (have h1 := hw'.1; go_simp; try with_reducible rfl)) hHeld (fun hHeld => ?_)
        simp only [Act.put, List.setIfInBounds_toArray, List.set_cons_zero, List.set_cons_succ]
        refine tkB 5 (.some 32) _ _ rfl rfl (by kernel_rfl) (by kernel_rfl) (by kernel_rfl) (by kernel_rfl) hPF rfl (fun w' => by (go_simp; try with_reducible rfl)) hHeld (fun hHeld => ?_)
        simp only [Act.put, List.setIfInBounds_toArray, List.set_cons_zero, List.set_cons_succ]
        refine tkB 6 (.some 33) _ _ rfl rfl (by kernel_rfl) (by kernel_rfl) (by kernel_rfl) (by kernel_rfl) hPF rfl (fun w' => by (go_simp; try with_reducible rfl)) hHeld (fun hHeld => ?_)
        simp only [Act.put, List.setIfInBounds_toArray, List.set_cons_zero, List.set_cons_succ]
        refine tkB 7 (.some 34) _ _ rfl rfl (by kernel_rfl) (by kernel_rfl) (by kernel_rfl) (by kernel_rfl) hPF rfl (fun w' => by (go_simp; try with_reducible rfl)) hHeld (fun hHeld => ?_)
        simp only [Act.put, List.setIfInBounds_toArray, List.set_cons_zero, List.set_cons_succ]
        refine tkA 8 (.some 35) _ _ rfl rfl (by kernel_rfl) (by kernel_rfl) (by kernel_rfl) (by kernel_rfl) (by kernel_rfl) hPF rfl (fun w' hw' => by (have h1 := hw'.2; go_simp; try with_reducible rfl)) hHeld (fun hHeld => ?_)
        simp only [Act.put, List.setIfInBounds_toArray, List.set_cons_zero, List.set_cons_succ]
        refine tkB 9 (.some 36) _ _ rfl rfl (by kernel_rfl) (by kernel_rfl) (by kernel_rfl) (by kernel_rfl) hPF rfl (fun w' => by (go_simp; try with_reducible rfl)) hHeld (fun hHeld => ?_)
        simp only [Act.put, List.setIfInBounds_toArray, List.set_cons_zero, List.set_cons_succ]
        refine tkW (rs := [10]) (by kernel_rfl) (by simp) (AllK.close (o := _) rfl (by kernel_rfl) (fun KC hKC => ?_) AllK.nil)
        go_simp
        refine hKC.out _ _ (fun hHeld => ?_)
        clear hKC KC
        try simp only [Act.put, List.setIfInBounds_toArray, List.set_cons_zero, List.set_cons_succ]
        refine tkW (rs := [11]) (by kernel_rfl) (by simp) (AllK.close (o := _) rfl (by kernel_rfl) (fun KC hKC => ?_) AllK.nil)
        refine wantIt rfl (wp_push (.some 38) rfl (.tmp 27) (.tmp 37) rfl (w.heap.size + 3) u9 _ rfl hO1 (x ^^^ y) rfl Hxl.out hwc ?_)
        intro v' w7 hO7 hg7 _
        rw [Hxs.out] at hO7
        have hC7 := hC1.grown hg7 hwc (fun j e => .inr (hO1.lt j e).1)
        have hX7 := hX1.kept hg7 (fun e => by have := (hO1.lt _ e).1; omega)
        have hCb7 := hCb1.kept hg7 (fun e => by have := (hO1.lt _ e).1; omega)
        refine hKC.out _ _ (fun hHeld => ?_)
        clear hKC KC
        try simp only [Act.put, List.setIfInBounds_toArray, List.set_cons_zero, List.set_cons_succ]
        refine tkB 12 (.some 9) _ _ rfl rfl (by kernel_rfl) (by kernel_rfl) (by kernel_rfl) (by kernel_rfl) hPF rfl (fun w' => by (go_simp; try with_reducible rfl)) hHeld (fun hHeld => ?_)
        simp only [Act.put, List.setIfInBounds_toArray, List.set_cons_zero, List.set_cons_succ]
        refine tkD (by kernel_rfl) ?_ _
        go_wp2_with fail
        go_roundw
        case rel => exact ⟨k + 1, enc rk (gcnt c (q + 1)), by omega, by go_num, Hel2.out, Hnx.out, hX7, by rw [Hnc.out]; exact hCb7, hO7, hC7⟩
        case measure => (simp [intOf]; try omega)
    · have hke : k = n := by omega
      have q1 : ¬ ((k : Int) < (n : Int)) := by omega
      rw [hke, List.take_of_length_le (by rw [Hn.out]; exact Nat.le_refl _)] at hO
      have hBf := hB0.trans (hC.below (M := w.heap.size) (by omega) (fun j hj => by simp at hj; omega))
      clear hke hcase hX hCb hC hlt
      go_wp2_with fail
      go_ret
      exact ⟨_, rfl, hO.mono (by omega), hBf⟩
end Go.Proofs.Ytgellbapbphnlaa

/- the reference's Tag of GCM -/
namespace Go.Proofs.Ytgellbapbphnlaa
open Go.RowKit

theorem lenF_len (a m : Nat) : (lenF a m).length = 16 := toBe_len _ _
theorem zip_snoc (X Y : List UInt8) (k : Nat) (h1 : k < X.length) (h2 : k < Y.length) : (List.zipWith (· ^^^ ·) X Y).take (k + 1) = (List.zipWith (· ^^^ ·) X Y).take k ++ [X.getD k 0 ^^^ Y.getD k 0] := by
  rw [take_succ_getD 0 _ _ (by simp; omega)]
  congr 2
  simp [List.getD, List.getElem?_zipWith, List.getElem?_eq_getElem h1, List.getElem?_eq_getElem h2]
set_option maxRecDepth 100000 in
set_option maxHeartbeats 8000000 in
theorem reftag_any {T : List UInt8} (hT : tbl 256 = T) (w : World) (g nr kc : Nat) (rk : List UInt8) (hk : RK w g nr rk) (c : List UInt8) (hc : c.length = 16) (pa : Option Addr) (n ca : Nat) (a : List UInt8) (ha : RowAt w pa a) (hn : a.length = n) (hn9 : n < 10000)
    (pb : Option Addr) (m cb : Nat) (b : List UInt8) (hb : RowAt w pb b) (hm : b.length = m) (hm9 : m < 10000) :
    Calls Try.prog 67 #[.agg (bys T).toArray, .slice (some ⟨g, 0, none⟩) nr kc, .agg (bys c).toArray, .slice pa n ca, .slice pb m cb] w fun e w' => ∃ v, e = .returned v ∧ OwnR w.heap.size w' v (tagF (enc rk) c a b) ∧ Below w.heap.size w w' := by
  have hTl : T.length = 256 := by rw [← hT]; exact tbl_len 256 (by omega)
  have hsT : (Try.prog.info? 62).map (·.size) = some (bys T).length := by rw [size60, bys_length, hTl]
  have hsc : (Try.prog.info? 36).map (·.size) = some (bys c).length := by rw [size54, bys_length, hc]
  have t0 : Blk ((w.alloc (.cells (bys T).toArray tA256)).alloc (.cells (bys c).toArray tA16)) w.heap.size (bys T) tA256 := (Blk.new w (bys T) tA256).alloc _
  have t1 : Blk ((w.alloc (.cells (bys T).toArray tA256)).alloc (.cells (bys c).toArray tA16)) (w.heap.size + 1) (bys c) tA16 := by
    have := Blk.new (w.alloc (.cells (bys T).toArray tA256)) (bys c) tA16
    simp only [World.size_alloc] at this; exact this
  have hB0 : Below w.heap.size w ((w.alloc (.cells (bys T).toArray tA256)).alloc (.cells (bys c).toArray tA16)) := ((Below.refl _ _).alloc (Nat.le_refl _) _).alloc (by simp) _
  have hk1 := hk.below hB0
  have ha1 := ha.below hB0
  have hb1 := hb.below hB0
  have hEl := hk.E z16 rfl
  have hcl := hk.E c hc
  obtain ⟨HH, hHH⟩ : ∃ HH, enc rk z16 = HH := ⟨_, rfl⟩
  rw [hHH] at hEl
  have htf : tagF (enc rk) c a b = List.zipWith (· ^^^ ·) (ghF HH (padZ a ++ padZ b ++ lenF n m)) (enc rk c) := by unfold tagF; rw [hHH, hn, hm]
  have hQl : (padZ a ++ padZ b).length ≤ n + m + 30 := by
    have h1 := padZ_le a
    have h2 := padZ_le b
    rw [List.length_append]; omega
  have hQ16 : (padZ a ++ padZ b).length % 16 = 0 := by rw [List.length_append, padZ_len, padZ_len]; omega
  obtain ⟨Q, hQ⟩ : ∃ Q, padZ a ++ padZ b = Q := ⟨_, rfl⟩
  rw [hQ] at htf hQl hQ16
  have Hn := hid hn
  have Hm := hid hm
  have HT := hid hT
  have Hc := hid hc
  have HHH := hid hHH
  have HHl := hid hEl
  have Hcl := hid hcl
  have Htf := hid htf
  have HQl := hid hQl
  have HQ16 := hid hQ16
  have HQ := hid hQ
  clear hk ha hb hn hm hT hc hTl hEl hcl hHH htf hQl hQ16 hQ
  go_enter Try.func67, Try.ntmps67
  go_wp2_with (refine wpList_load_mid rfl 62 (.tmp 5) rfl w.heap.size 0 rfl (bys T) _ t0.whole under60 rfl hsT ?_)
  change Calls _ _ #[_, _, .agg (bys z16).toArray] ((w.alloc (.cells (bys T).toArray tA256)).alloc (.cells (bys c).toArray tA16)) _
  generalize (w.alloc (.cells (bys T).toArray tA256)).alloc (.cells (bys c).toArray tA16) = w1 at *
  refine (refenc_K HT.out w1 g nr kc rk z16 hk1 rfl).mono ?_
  rintro e w1' ⟨rfl, hB1⟩
  rw [HHH.out]
  have hl0 : Blk (w1'.alloc (.cells (bys z16).toArray tA16)) w1'.heap.size (bys z16) tA16 := Blk.new _ _ _
  have hl1 := hl0.setCells (bys HH) 0 (by rw [bys_length, bys_length, HHl.out]; decide)
  rw [splice_whole _ _ (by rw [bys_length, bys_length, HHl.out]; rfl)] at hl1
  have hBa : Below w1'.heap.size w1' ((w1'.alloc (.cells (bys z16).toArray tA16)).setCells w1'.heap.size 0 (bys HH)) := ((Below.refl _ _).alloc (Nat.le_refl _) _).trans (((Chg.refl (w1'.alloc (.cells (bys z16).toArray tA16)).heap.size [w1'.heap.size] (w1'.alloc (.cells (bys z16).toArray tA16))).setCells (b := w1'.heap.size) (.inl (by simp)) (bys HH) 0).below (M := w1'.heap.size) (by simp) (fun k hk => by simp at hk; omega))
  have hBb := hB1.trans (hBa.mono hB1.size)
  have t0 := t0.below hBb t0.lt
  have t1 := t1.below hBb t1.lt
  have hk1 := hk1.below hBb
  have ha1 := ha1.below hBb
  have hb1 := hb1.below hBb
  have hB := hB0.trans (hBb.mono hB0.size)
  clear hB0 hB1 hBa hBb
  go_upto_region 2 with (refine wpList_store_mid rfl 36 (.tmp 11) (.tmp 20) rfl w1'.heap.size 0 (bys HH).toArray rfl rfl (hl0.there 0 _ (by rw [List.size_toArray, bys_length, bys_length, HHl.out]; decide)) (by rw [size54, List.size_toArray, bys_length, HHl.out]) (all_oneCell_toArray (bys_one _)) ?_)
  change Code.wp _ _ _ _ ((w1'.alloc (.cells (bys z16).toArray tA16)).setCells w1'.heap.size 0 (bys HH))
  generalize (w1'.alloc (.cells (bys z16).toArray tA16)).setCells w1'.heap.size 0 (bys HH) = w2 at *
  generalize w1'.heap.size = hb at *
  clear hl0
  go_wp2_with fail
  refine (refpadded_any w2 pa n ca a ha1 Hn.out (by omega)).mono ?_
  rintro e w3 ⟨v3, rfl, hown3, hB3⟩
  go_wp2_with fail
  refine (refpadded_any w3 pb m cb b (hb1.below hB3) Hm.out (by omega)).mono ?_
  rintro e w3' ⟨vb, rfl, hownb, hB4⟩
  have hown3 := hown3.below hB4
  have hS3 := hB3.trans (hB4.mono hB3.size)
  obtain ⟨pq, cq, rfl, _, hrq⟩ := hownb.row
  have hple := padZ_le b
  have hpla := padZ_le a
  clear hownb hB3 hB4
  go_upto_region 3 with (refine wpList_addO hown3 rfl (.tmp 22) (.tmp 24) rfl rfl pq _ cq (padZ b) rfl hrq rfl (by have := Hn.out; have := Hm.out; omega) hS3.size ?_; intro v4 w4 hown4 hgrow4 _)
  have hS4 := hS3.grown hgrow4 hS3.size (fun j e => (hown3.lt j e).1)
  rw [HQ.out] at hown4
  have hown := hown4.drew
  have hS := hS4.drew
  clear hgrow4 hown3 hS3 hrq hple hpla hown4 ha1 hb1
  have hsH : (Try.prog.info? 36).map (·.size) = some (bys HH).length := by rw [size54, bys_length, HHl.out]
  try simp only [Act.put]
  refine tkR (fun w' => Below w2.heap.size w2 w') [] (by kernel_rfl) (fun c a d v w h => by cases d <;> exact h) (hS) (fun hPF hHeld => ?_)
  refine tkL 0 (.some 26) _ rfl rfl 36 (.tmp 11) rfl hb 0 (bys HH) _ (by kernel_rfl) (by kernel_rfl) (by kernel_rfl) (by kernel_rfl) (by kernel_rfl) hPF rfl rfl (fun w' hw' => (hl1.below hw' hl1.lt).whole) under54 rfl hsH hHeld (fun hHeld => ?_)
  simp only [Act.put, List.setIfInBounds_toArray, List.set_cons_zero, List.set_cons_succ]
  refine tkB 1 (.some 27) _ _ rfl rfl (by kernel_rfl) (by kernel_rfl) (by kernel_rfl) (by kernel_rfl) hPF rfl (fun w' => by (go_simp; try with_reducible rfl)) hHeld (fun hHeld => ?_)
  simp only [Act.put, List.setIfInBounds_toArray, List.set_cons_zero, List.set_cons_succ]
  refine tkB 2 (.some 28) _ _ rfl rfl (by kernel_rfl) (by kernel_rfl) (by kernel_rfl) (by kernel_rfl) hPF rfl (fun w' => by (go_simp; try with_reducible rfl)) hHeld (fun hHeld => ?_)
  simp only [Act.put, List.setIfInBounds_toArray, List.set_cons_zero, List.set_cons_succ]
  refine tkB 3 (.some 29) _ _ rfl rfl (by kernel_rfl) (by kernel_rfl) (by kernel_rfl) (by kernel_rfl) hPF rfl (fun w' => by (go_simp; try with_reducible rfl)) hHeld (fun hHeld => ?_)
  simp only [Act.put, List.setIfInBounds_toArray, List.set_cons_zero, List.set_cons_succ]
  refine tkB 4 (.some 30) _ _ rfl rfl (by kernel_rfl) (by kernel_rfl) (by kernel_rfl) (by kernel_rfl) hPF rfl (fun w' => by (go_simp; try with_reducible rfl)) hHeld (fun hHeld => ?_)
  simp only [Act.put, List.setIfInBounds_toArray, List.set_cons_zero, List.set_cons_succ]
  refine tkB 5 (.some 31) _ _ rfl rfl (by kernel_rfl) (by kernel_rfl) (by kernel_rfl) (by kernel_rfl) hPF rfl (fun w' => by (go_simp; try with_reducible rfl)) hHeld (fun hHeld => ?_)
  simp only [Act.put, List.setIfInBounds_toArray, List.set_cons_zero, List.set_cons_succ]
  have hS := hHeld (by kernel_rfl)
  refine tkW (rs := [6, 9]) (by kernel_rfl) (by simp) (AllK.cons (o := _) rfl (fun KC hKC => ?_) (AllK.cons (o := _) rfl (fun KC hKC => ?_) AllK.nil))
  ·
    go_simp
    (with_reducible refine (reflengths_any _ n m (by omega) (by omega)).mono ?_)
    rintro e w6 ⟨vL, rfl, hownL, hB6⟩
    have hS := hS.trans (hB6.mono hS.size)
    have hown := hown.below hB6
    obtain ⟨pL, cL, rfl, _, hrL⟩ := hownL.row
    rw [lenF_len]
    clear hownL hB6
    refine hKC.out _ _ (hS) (fun hHeld => ?_)
    clear hKC KC
    try simp only [Act.put, List.setIfInBounds_toArray, List.set_cons_zero, List.set_cons_succ]
    have hS := hHeld (by kernel_rfl)
    refine tkW (rs := [7, 9]) (by kernel_rfl) (by simp) (AllK.cons (o := _) rfl (fun KC hKC => ?_) (AllK.cons (o := _) rfl (fun KC hKC => ?_) AllK.nil))
    ·
      refine wantIt rfl (wp_add (.some 33) rfl (.tmp 27) (.tmp 32) rfl w2.heap.size _ Q rfl hown pL 16 cL (lenF n m) rfl hrL (lenF_len _ _) (by have := HQl.out; omega) hS.size ?_)
      intro v7 w7 hown7 hg7 _
      have hS7 := hS.grown hg7 hS.size (fun j e => (hown.lt j e).1)
      have hS := hS7
      clear hg7 hrL hS7 hown
      obtain ⟨p7, c7, rfl, hc7, hr7⟩ := hown7.row
      clear hown7
      refine hKC.out _ _ (hS) (fun hHeld => ?_)
      clear hKC KC
      try simp only [Act.put, List.setIfInBounds_toArray, List.set_cons_zero, List.set_cons_succ]
      have hS := hHeld (by kernel_rfl)
      refine tkW (rs := [8, 9]) (by kernel_rfl) (by simp) (AllK.cons (o := _) rfl (fun KC hKC => ?_) (AllK.cons (o := _) rfl (fun KC hKC => ?_) AllK.nil))
      ·
        go_simp
        refine (refsum_any _ HH HHl.out p7 (Q.length + 16) c7 (Q ++ lenF n m) hr7 (by rw [List.length_append, lenF_len]) (by have := HQ16.out; omega) (by have := HQl.out; omega)).mono ?_
        rintro e w8 ⟨rfl, hB8⟩
        have hS := hS.trans (hB8.mono hS.size)
        have hr7 := hr7.below hB8
        obtain ⟨U, hU⟩ : ∃ U, ghF HH (Q ++ lenF n m) = U := ⟨_, rfl⟩
        have hUl := ghF_len HH (Q ++ lenF n m)
        rw [hU] at hUl
        try rw [hU]
        have HU := hid hU
        clear hB8 hU
        refine hKC.out _ _ (hS) (fun hHeld => ?_)
        clear hKC KC
        try simp only [Act.put, List.setIfInBounds_toArray, List.set_cons_zero, List.set_cons_succ]
        have hS := hHeld (by kernel_rfl)
        refine tkW (rs := [9]) (by kernel_rfl) (by simp) (AllK.cons (o := _) rfl (fun KC hKC => ?_) AllK.nil)
        go_simp
        have hA : Blk (World.alloc w8 (.cells (bys z16).toArray tA16)) w8.heap.size (bys z16) tA16 := Blk.new w8 _ _
        have hS9 := hS.alloc hS.size (.cells (bys z16).toArray tA16)
        have hBn : Below w8.heap.size w8 (World.alloc w8 (.cells (bys z16).toArray tA16)) := (Below.refl _ _).alloc (Nat.le_refl _) _
        have hsb : w2.heap.size ≤ w8.heap.size := hS.size
        have hr7 := hr7.below hBn
        change KC _ (World.alloc w8 (.cells (bys z16).toArray tA16))
        generalize World.alloc w8 (.cells (bys z16).toArray tA16) = w9 at *
        generalize w8.heap.size = sb at *
        have hS := hS9
        clear hBn hS9
        refine hKC.out _ _ (hS) (fun hHeld => ?_)
        clear hKC KC
        try simp only [Act.put, List.setIfInBounds_toArray, List.set_cons_zero, List.set_cons_succ]
        have hS := hHeld (by kernel_rfl)
        refine tkW (rs := [10]) (by kernel_rfl) (by simp) (AllK.cons (o := _) rfl (fun KC hKC => ?_) AllK.nil)
        refine wantIt rfl (wp_storeD none rfl 36 (.tmp 13) (.tmp 34) rfl sb 0 (bys U).toArray rfl rfl (hA.there 0 _ (by rw [List.size_toArray, bys_length, bys_length, hUl]; decide)) (by rw [size54, List.size_toArray, bys_length, hUl]) (all_oneCell_toArray (bys_one _)) ?_)
        have hA10 := hA.setCells (bys U) 0 (by rw [bys_length, bys_length, hUl]; decide)
        rw [splice_whole _ _ (by rw [bys_length, bys_length, hUl]; rfl)] at hA10
        have hS10 := hS.trans (((Chg.refl w2.heap.size [] w9).setCells (b := sb) (.inr hsb) (bys U) 0).below (Nat.le_refl _) (by simp))
        refine hKC.out _ _ (hS10) (fun hHeld => ?_)
        clear hKC KC
        try simp only [Act.put]
        refine tkD (by kernel_rfl) ?_ _
        change Exit.then _ _ _ _ (w9.setCells sb 0 (bys U))
        generalize w9.setCells sb 0 (bys U) = W at *
        have t0 := t0.below hS10 t0.lt
        have t1 := t1.below hS10 t1.lt
        have hk1 := hk1.below hS10
        have hB := hB.trans (hS10.mono hB.size)
        clear hS10 hS hA hl1 hr7 hc7
        go_wp2_with (first | (refine wpList_load_mid rfl 62 (.tmp 5) rfl w.heap.size 0 rfl (bys T) _ t0.whole under60 rfl hsT ?_) | (refine wpList_load_mid rfl 36 (.tmp 7) rfl (w.heap.size + 1) 0 rfl (bys c) _ t1.whole under54 rfl hsc ?_))
        refine (refenc_K HT.out W g nr kc rk c hk1 Hc.out).mono ?_
        rintro e w11 ⟨rfl, hB11⟩
        have hecl := Hcl.out
        obtain ⟨EC, hEC⟩ : ∃ EC, enc rk c = EC := ⟨_, rfl⟩
        have htf := Htf.out
        rw [HU.out] at htf
        rw [hEC] at hecl htf ⊢
        have hA11 := hA10.below hB11 hA10.lt
        have hBw := hB.trans (hB11.mono hB.size)
        have he0 : Blk (w11.alloc (.cells (bys z16).toArray tA16)) w11.heap.size (bys z16) tA16 := Blk.new _ _ _
        have he1 := he0.setCells (bys EC) 0 (by rw [bys_length, bys_length, hecl]; decide)
        rw [splice_whole _ _ (by rw [bys_length, bys_length, hecl]; rfl)] at he1
        have hBa : Below w11.heap.size w11 ((w11.alloc (.cells (bys z16).toArray tA16)).setCells w11.heap.size 0 (bys EC)) := ((Below.refl _ _).alloc (Nat.le_refl _) _).trans (((Chg.refl (w11.alloc (.cells (bys z16).toArray tA16)).heap.size [w11.heap.size] (w11.alloc (.cells (bys z16).toArray tA16))).setCells (b := w11.heap.size) (.inl (by simp)) (bys EC) 0).below (M := w11.heap.size) (by simp) (fun k hk => by simp at hk; omega))
        have hA12 := hA11.below hBa hA11.lt
        have hBw2 := hBw.trans (hBa.mono hBw.size)
        have Htf2 := hid htf
        clear htf hEC hB11 hBa hBw hA11 hA10 t0 t1 hk1 hB
        go_upto_region 5 with (refine wpList_store_mid rfl 36 (.tmp 14) (.tmp 38) rfl w11.heap.size 0 (bys EC).toArray rfl rfl (he0.there 0 _ (by rw [List.size_toArray, bys_length, bys_length, hecl]; decide)) (by rw [size54, List.size_toArray, bys_length, hecl]) (all_oneCell_toArray (bys_one _)) ?_)
        change Code.wp _ _ _ _ ((w11.alloc (.cells (bys z16).toArray tA16)).setCells w11.heap.size 0 (bys EC))
        generalize (w11.alloc (.cells (bys z16).toArray tA16)).setCells w11.heap.size 0 (bys EC) = W2 at *
        generalize w11.heap.size = eb at *
        clear he0
        go_wp2_with fail
        go_loopw [15, 16] (fun v i wx => ∃ k : Nat, k ≤ 16 ∧ i = .int .i64 k ∧ OwnR W2.heap.size wx v ((List.zipWith (· ^^^ ·) U EC).take k) ∧ Below W2.heap.size W2 wx) (fun _ i _ => 16 - (intOf i).toNat)
        case atStart => exact ⟨0, by omega, rfl, by rw [List.take_zero]; exact OwnR.nil _ _, Below.refl _ _⟩
        case round =>
          obtain ⟨k, hk, rfl, hO, hBr⟩ := hrel
          by_cases hkl : k < 16
          · have q1 : (k : Int) < 16 := by omega
            have q2 : 0 ≤ (k : Int) := by omega
            have hxs := zip_snoc U EC k (by rw [hUl]; exact hkl) (by rw [hecl]; exact hkl)
            have hxl : ((List.zipWith (· ^^^ ·) U EC).take k).length < 140737488355328 := by rw [List.length_take]; omega
            have cx := (hA12.below hBr hA12.lt).cellAt (bys_get U k (by rw [hUl]; exact hkl))
            have cy := (he1.below hBr he1.lt).cellAt (bys_get EC k (by rw [hecl]; exact hkl))
            generalize U.getD k 0 = x at *
            generalize EC.getD k 0 = y at *
            obtain ⟨Z, hZ⟩ : ∃ Z, (List.zipWith (· ^^^ ·) U EC).take k = Z := ⟨_, rfl⟩
            obtain ⟨Z2, hZ2⟩ : ∃ Z2, (List.zipWith (· ^^^ ·) U EC).take (k + 1) = Z2 := ⟨_, rfl⟩
            rw [hZ] at hO hxl hxs
            rw [hZ2] at hxs
            have HO := hid hO.drew
            have Hxs := hid hxs
            have HZ2 := hid hZ2
            have hbd := hBr.drew
            have hwl : W2.heap.size ≤ wr.drew.heap.size := hBr.size
            clear hO hxs hZ hZ2
            go_wp2_with fail
            try simp only [Act.put]
            refine tkR (fun w' => w'.cell? ⟨sb, k, none⟩ = some (.int .u8 (bv x)) ∧ w'.cell? ⟨eb, k, none⟩ = some (.int .u8 (bv y))) [8] (by kernel_rfl) (fun c a d v w h => by cases d <;> exact h) (⟨cx, cy⟩) (fun hPF hHeld => ?_)
            refine tkB 0 (.some 43) _ _ rfl rfl (by kernel_rfl) (by kernel_rfl) (by kernel_rfl) (by kernel_rfl) hPF rfl (fun w' => by (go_simp; try with_reducible rfl)) hHeld (fun hHeld => ?_)
            simp only [Act.put, List.setIfInBounds_toArray, List.set_cons_zero, List.set_cons_succ]
            refine tkB 1 (.some 44) _ _ rfl rfl (by kernel_rfl) (by kernel_rfl) (by kernel_rfl) (by kernel_rfl) hPF rfl (fun w' => by (go_simp; try with_reducible rfl)) hHeld (fun hHeld => ?_)
            simp only [Act.put, List.setIfInBounds_toArray, List.set_cons_zero, List.set_cons_succ]
            refine tkB 2 (.some 45) _ _ rfl rfl (by kernel_rfl) (by kernel_rfl) (by kernel_rfl) (by kernel_rfl) hPF rfl (fun w' => by (go_simp; try with_reducible rfl)) hHeld (fun hHeld => ?_)
            simp only [Act.put, List.setIfInBounds_toArray, List.set_cons_zero, List.set_cons_succ]
            refine tkA 3 (.some 46) _ _ rfl rfl (by kernel_rfl) (by kernel_rfl) (by kernel_rfl) (by kernel_rfl) (by kernel_rfl) hPF rfl (fun w' hw' => by (have h1 := hw'.1; go_simp; try with_reducible rfl)) hHeld (fun hHeld => ?_)
            simp only [Act.put, List.setIfInBounds_toArray, List.set_cons_zero, List.set_cons_succ]
            refine tkB 4 (.some 47) _ _ rfl rfl (by kernel_rfl) (by kernel_rfl) (by kernel_rfl) (by kernel_rfl) hPF rfl (fun w' => by (go_simp; try with_reducible rfl)) hHeld (fun hHeld => ?_)
            simp only [Act.put, List.setIfInBounds_toArray, List.set_cons_zero, List.set_cons_succ]
            refine tkB 5 (.some 48) _ _ rfl rfl (by kernel_rfl) (by kernel_rfl) (by kernel_rfl) (by kernel_rfl) hPF rfl (fun w' => by (go_simp; try with_reducible rfl)) hHeld (fun hHeld => ?_)
            simp only [Act.put, List.setIfInBounds_toArray, List.set_cons_zero, List.set_cons_succ]
            refine tkA 6 (.some 49) _ _ rfl rfl (by kernel_rfl) (by kernel_rfl) (by kernel_rfl) (by kernel_rfl) (by kernel_rfl) hPF rfl (fun w' hw' => by (have h1 := hw'.2; go_simp; try with_reducible rfl)) hHeld (fun hHeld => ?_)
            simp only [Act.put, List.setIfInBounds_toArray, List.set_cons_zero, List.set_cons_succ]
            refine tkB 7 (.some 50) _ _ rfl rfl (by kernel_rfl) (by kernel_rfl) (by kernel_rfl) (by kernel_rfl) hPF rfl (fun w' => by (go_simp; try with_reducible rfl)) hHeld (fun hHeld => ?_)
            simp only [Act.put, List.setIfInBounds_toArray, List.set_cons_zero, List.set_cons_succ]
            refine tkW (rs := [8]) (by kernel_rfl) (by simp) (AllK.close (o := _) rfl (by kernel_rfl) (fun KC hKC => ?_) AllK.nil)
            go_simp
            refine hKC.out _ _ (fun hHeld => ?_)
            clear hKC KC
            try simp only [Act.put, List.setIfInBounds_toArray, List.set_cons_zero, List.set_cons_succ]
            refine tkW (rs := [9]) (by kernel_rfl) (by simp) (AllK.close (o := _) rfl (by kernel_rfl) (fun KC hKC => ?_) AllK.nil)
            refine wantIt rfl (wp_push (.some 52) rfl (.tmp 43) (.tmp 51) rfl W2.heap.size _ _ rfl HO.out (x ^^^ y) rfl hxl hwl ?_)
            intro v' w17 hO7 hg7 _
            rw [← Hxs.out, ← HZ2.out] at hO7
            have hB17 := hbd.grown hg7 hwl (fun j e => (HO.out.lt j e).1)
            refine hKC.out _ _ (fun hHeld => ?_)
            clear hKC KC
            try simp only [Act.put, List.setIfInBounds_toArray, List.set_cons_zero, List.set_cons_succ]
            refine tkB 10 (.some 15) _ _ rfl rfl (by kernel_rfl) (by kernel_rfl) (by kernel_rfl) (by kernel_rfl) hPF rfl (fun w' => by (go_simp; try with_reducible rfl)) hHeld (fun hHeld => ?_)
            simp only [Act.put, List.setIfInBounds_toArray, List.set_cons_zero, List.set_cons_succ]
            refine tkD (by kernel_rfl) ?_ _
            go_wp2_with fail
            go_roundw
            case rel => exact ⟨k + 1, by omega, by go_num, hO7, hB17⟩
            case measure => (simp [intOf]; try omega)
          · have hke : k = 16 := by omega
            have q1 : ¬ ((k : Int) < 16) := by omega
            rw [hke, List.take_of_length_le (by rw [List.length_zipWith, hUl, hecl]; decide), ← Htf2.out] at hO
            clear hke hkl
            go_wp2_with fail
            go_ret
            exact ⟨_, rfl, hO.mono hBw2.size, hBw2.trans (hBr.mono hBw2.size)⟩
      ·
        go_simp
        have hA : Blk (World.alloc w7 (.cells (bys z16).toArray tA16)) w7.heap.size (bys z16) tA16 := Blk.new w7 _ _
        have hS9 := hS.alloc hS.size (.cells (bys z16).toArray tA16)
        have hBn : Below w7.heap.size w7 (World.alloc w7 (.cells (bys z16).toArray tA16)) := (Below.refl _ _).alloc (Nat.le_refl _) _
        have hsb : w2.heap.size ≤ w7.heap.size := hS.size
        have hr7 := hr7.below hBn
        change KC _ (World.alloc w7 (.cells (bys z16).toArray tA16))
        generalize World.alloc w7 (.cells (bys z16).toArray tA16) = w9 at *
        generalize w7.heap.size = sb at *
        have hS := hS9
        clear hBn hS9
        refine hKC.out _ _ (hS) (fun hHeld => ?_)
        clear hKC KC
        try simp only [Act.put, List.setIfInBounds_toArray, List.set_cons_zero, List.set_cons_succ]
        have hS := hHeld (by kernel_rfl)
        refine tkW (rs := [8]) (by kernel_rfl) (by simp) (AllK.cons (o := _) rfl (fun KC hKC => ?_) AllK.nil)
        go_simp
        refine (refsum_any _ HH HHl.out p7 (Q.length + 16) c7 (Q ++ lenF n m) hr7 (by rw [List.length_append, lenF_len]) (by have := HQ16.out; omega) (by have := HQl.out; omega)).mono ?_
        rintro e w8 ⟨rfl, hB8⟩
        have hS := hS.trans (hB8.mono hS.size)
        have hr7 := hr7.below hB8
        have hA := hA.below hB8 hA.lt
        obtain ⟨U, hU⟩ : ∃ U, ghF HH (Q ++ lenF n m) = U := ⟨_, rfl⟩
        have hUl := ghF_len HH (Q ++ lenF n m)
        rw [hU] at hUl
        try rw [hU]
        have HU := hid hU
        clear hB8 hU
        refine hKC.out _ _ (hS) (fun hHeld => ?_)
        clear hKC KC
        try simp only [Act.put, List.setIfInBounds_toArray, List.set_cons_zero, List.set_cons_succ]
        have hS := hHeld (by kernel_rfl)
        refine tkW (rs := [10]) (by kernel_rfl) (by simp) (AllK.cons (o := _) rfl (fun KC hKC => ?_) AllK.nil)
        refine wantIt rfl (wp_storeD none rfl 36 (.tmp 13) (.tmp 34) rfl sb 0 (bys U).toArray rfl rfl (hA.there 0 _ (by rw [List.size_toArray, bys_length, bys_length, hUl]; decide)) (by rw [size54, List.size_toArray, bys_length, hUl]) (all_oneCell_toArray (bys_one _)) ?_)
        have hA10 := hA.setCells (bys U) 0 (by rw [bys_length, bys_length, hUl]; decide)
        rw [splice_whole _ _ (by rw [bys_length, bys_length, hUl]; rfl)] at hA10
        have hS10 := hS.trans (((Chg.refl w2.heap.size [] w8).setCells (b := sb) (.inr hsb) (bys U) 0).below (Nat.le_refl _) (by simp))
        refine hKC.out _ _ (hS10) (fun hHeld => ?_)
        clear hKC KC
        try simp only [Act.put]
        refine tkD (by kernel_rfl) ?_ _
        change Exit.then _ _ _ _ (w8.setCells sb 0 (bys U))
        generalize w8.setCells sb 0 (bys U) = W at *
        have t0 := t0.below hS10 t0.lt
        have t1 := t1.below hS10 t1.lt
        have hk1 := hk1.below hS10
        have hB := hB.trans (hS10.mono hB.size)
        clear hS10 hS hA hl1 hr7 hc7
        go_wp2_with (first | (refine wpList_load_mid rfl 62 (.tmp 5) rfl w.heap.size 0 rfl (bys T) _ t0.whole under60 rfl hsT ?_) | (refine wpList_load_mid rfl 36 (.tmp 7) rfl (w.heap.size + 1) 0 rfl (bys c) _ t1.whole under54 rfl hsc ?_))
        refine (refenc_K HT.out W g nr kc rk c hk1 Hc.out).mono ?_
        rintro e w11 ⟨rfl, hB11⟩
        have hecl := Hcl.out
        obtain ⟨EC, hEC⟩ : ∃ EC, enc rk c = EC := ⟨_, rfl⟩
        have htf := Htf.out
        rw [HU.out] at htf
        rw [hEC] at hecl htf ⊢
        have hA11 := hA10.below hB11 hA10.lt
        have hBw := hB.trans (hB11.mono hB.size)
        have he0 : Blk (w11.alloc (.cells (bys z16).toArray tA16)) w11.heap.size (bys z16) tA16 := Blk.new _ _ _
        have he1 := he0.setCells (bys EC) 0 (by rw [bys_length, bys_length, hecl]; decide)
        rw [splice_whole _ _ (by rw [bys_length, bys_length, hecl]; rfl)] at he1
        have hBa : Below w11.heap.size w11 ((w11.alloc (.cells (bys z16).toArray tA16)).setCells w11.heap.size 0 (bys EC)) := ((Below.refl _ _).alloc (Nat.le_refl _) _).trans (((Chg.refl (w11.alloc (.cells (bys z16).toArray tA16)).heap.size [w11.heap.size] (w11.alloc (.cells (bys z16).toArray tA16))).setCells (b := w11.heap.size) (.inl (by simp)) (bys EC) 0).below (M := w11.heap.size) (by simp) (fun k hk => by simp at hk; omega))
        have hA12 := hA11.below hBa hA11.lt
        have hBw2 := hBw.trans (hBa.mono hBw.size)
        have Htf2 := hid htf
        clear htf hEC hB11 hBa hBw hA11 hA10 t0 t1 hk1 hB
        go_upto_region 5 with (refine wpList_store_mid rfl 36 (.tmp 14) (.tmp 38) rfl w11.heap.size 0 (bys EC).toArray rfl rfl (he0.there 0 _ (by rw [List.size_toArray, bys_length, bys_length, hecl]; decide)) (by rw [size54, List.size_toArray, bys_length, hecl]) (all_oneCell_toArray (bys_one _)) ?_)
        change Code.wp _ _ _ _ ((w11.alloc (.cells (bys z16).toArray tA16)).setCells w11.heap.size 0 (bys EC))
        generalize (w11.alloc (.cells (bys z16).toArray tA16)).setCells w11.heap.size 0 (bys EC) = W2 at *
        generalize w11.heap.size = eb at *
        clear he0
        go_wp2_with fail
        go_loopw [15, 16] (fun v i wx => ∃ k : Nat, k ≤ 16 ∧ i = .int .i64 k ∧ OwnR W2.heap.size wx v ((List.zipWith (· ^^^ ·) U EC).take k) ∧ Below W2.heap.size W2 wx) (fun _ i _ => 16 - (intOf i).toNat)
        case atStart => exact ⟨0, by omega, rfl, by rw [List.take_zero]; exact OwnR.nil _ _, Below.refl _ _⟩
        case round =>
          obtain ⟨k, hk, rfl, hO, hBr⟩ := hrel
          by_cases hkl : k < 16
          · have q1 : (k : Int) < 16 := by omega
            have q2 : 0 ≤ (k : Int) := by omega
            have hxs := zip_snoc U EC k (by rw [hUl]; exact hkl) (by rw [hecl]; exact hkl)
            have hxl : ((List.zipWith (· ^^^ ·) U EC).take k).length < 140737488355328 := by rw [List.length_take]; omega
            have cx := (hA12.below hBr hA12.lt).cellAt (bys_get U k (by rw [hUl]; exact hkl))
            have cy := (he1.below hBr he1.lt).cellAt (bys_get EC k (by rw [hecl]; exact hkl))
            generalize U.getD k 0 = x at *
            generalize EC.getD k 0 = y at *
            obtain ⟨Z, hZ⟩ : ∃ Z, (List.zipWith (· ^^^ ·) U EC).take k = Z := ⟨_, rfl⟩
            obtain ⟨Z2, hZ2⟩ : ∃ Z2, (List.zipWith (· ^^^ ·) U EC).take (k + 1) = Z2 := ⟨_, rfl⟩
            rw [hZ] at hO hxl hxs
            rw [hZ2] at hxs
            have HO := hid hO.drew
            have Hxs := hid hxs
            have HZ2 := hid hZ2
            have hbd := hBr.drew
            have hwl : W2.heap.size ≤ wr.drew.heap.size := hBr.size
            clear hO hxs hZ hZ2
            go_wp2_with fail
            try simp only [Act.put]
            refine tkR (fun w' => w'.cell? ⟨sb, k, none⟩ = some (.int .u8 (bv x)) ∧ w'.cell? ⟨eb, k, none⟩ = some (.int .u8 (bv y))) [8] (by kernel_rfl) (fun c a d v w h => by cases d <;> exact h) (⟨cx, cy⟩) (fun hPF hHeld => ?_)
            refine tkB 0 (.some 43) _ _ rfl rfl (by kernel_rfl) (by kernel_rfl) (by kernel_rfl) (by kernel_rfl) hPF rfl (fun w' => by (go_simp; try with_reducible rfl)) hHeld (fun hHeld => ?_)
            simp only [Act.put, List.setIfInBounds_toArray, List.set_cons_zero, List.set_cons_succ]
            refine tkB 1 (.some 44) _ _ rfl rfl (by kernel_rfl) (by kernel_rfl) (by kernel_rfl) (by kernel_rfl) hPF rfl (fun w' => by (go_simp; try with_reducible rfl)) hHeld (fun hHeld => ?_)
            simp only [Act.put, List.setIfInBounds_toArray, List.set_cons_zero, List.set_cons_succ]
            refine tkB 2 (.some 45) _ _ rfl rfl (by kernel_rfl) (by kernel_rfl) (by kernel_rfl) (by kernel_rfl) hPF rfl (fun w' => by (go_simp; try with_reducible rfl)) hHeld (fun hHeld => ?_)
            simp only [Act.put, List.setIfInBounds_toArray, List.set_cons_zero, List.set_cons_succ]
            refine tkA 3 (.some 46) _ _ rfl rfl (by kernel_rfl) (by kernel_rfl) (by kernel_rfl) (by kernel_rfl) (by kernel_rfl) hPF rfl (fun w' hw' => by (have h1 := hw'.1; go_simp; try with_reducible rfl)) hHeld (fun hHeld => ?_)
            simp only [Act.put, List.setIfInBounds_toArray, List.set_cons_zero, List.set_cons_succ]
            refine tkB 4 (.some 47) _ _ rfl rfl (by kernel_rfl) (by kernel_rfl) (by kernel_rfl) (by kernel_rfl) hPF rfl (fun w' => by (go_simp; try with_reducible rfl)) hHeld (fun hHeld => ?_)
            simp only [Act.put, List.setIfInBounds_toArray, List.set_cons_zero, List.set_cons_succ]
            refine tkB 5 (.some 48) _ _ rfl rfl (by kernel_rfl) (by kernel_rfl) (by kernel_rfl) (by kernel_rfl) hPF rfl (fun w' => by (go_simp; try with_reducible rfl)) hHeld (fun hHeld => ?_)
            simp only [Act.put, List.setIfInBounds_toArray, List.set_cons_zero, List.set_cons_succ]
            refine tkA 6 (.some 49) _ _ rfl rfl (by kernel_rfl) (by kernel_rfl) (by kernel_rfl) (by kernel_rfl) (by kernel_rfl) hPF rfl (fun w' hw' => by (have h1 := hw'.2; go_simp; try with_reducible rfl)) hHeld (fun hHeld => ?_)
            simp only [Act.put, List.setIfInBounds_toArray, List.set_cons_zero, List.set_cons_succ]
            refine tkB 7 (.some 50) _ _ rfl rfl (by kernel_rfl) (by kernel_rfl) (by kernel_rfl) (by kernel_rfl) hPF rfl (fun w' => by (go_simp; try with_reducible rfl)) hHeld (fun hHeld => ?_)
            simp only [Act.put, List.setIfInBounds_toArray, List.set_cons_zero, List.set_cons_succ]
            refine tkW (rs := [8]) (by kernel_rfl) (by simp) (AllK.close (o := _) rfl (by kernel_rfl) (fun KC hKC => ?_) AllK.nil)
            go_simp
            refine hKC.out _ _ (fun hHeld => ?_)
            clear hKC KC
            try simp only [Act.put, List.setIfInBounds_toArray, List.set_cons_zero, List.set_cons_succ]
            refine tkW (rs := [9]) (by kernel_rfl) (by simp) (AllK.close (o := _) rfl (by kernel_rfl) (fun KC hKC => ?_) AllK.nil)
            refine wantIt rfl (wp_push (.some 52) rfl (.tmp 43) (.tmp 51) rfl W2.heap.size _ _ rfl HO.out (x ^^^ y) rfl hxl hwl ?_)
            intro v' w17 hO7 hg7 _
            rw [← Hxs.out, ← HZ2.out] at hO7
            have hB17 := hbd.grown hg7 hwl (fun j e => (HO.out.lt j e).1)
            refine hKC.out _ _ (fun hHeld => ?_)
            clear hKC KC
            try simp only [Act.put, List.setIfInBounds_toArray, List.set_cons_zero, List.set_cons_succ]
            refine tkB 10 (.some 15) _ _ rfl rfl (by kernel_rfl) (by kernel_rfl) (by kernel_rfl) (by kernel_rfl) hPF rfl (fun w' => by (go_simp; try with_reducible rfl)) hHeld (fun hHeld => ?_)
            simp only [Act.put, List.setIfInBounds_toArray, List.set_cons_zero, List.set_cons_succ]
            refine tkD (by kernel_rfl) ?_ _
            go_wp2_with fail
            go_roundw
            case rel => exact ⟨k + 1, by omega, by go_num, hO7, hB17⟩
            case measure => (simp [intOf]; try omega)
          · have hke : k = 16 := by omega
            have q1 : ¬ ((k : Int) < 16) := by omega
            rw [hke, List.take_of_length_le (by rw [List.length_zipWith, hUl, hecl]; decide), ← Htf2.out] at hO
            clear hke hkl
            go_wp2_with fail
            go_ret
            exact ⟨_, rfl, hO.mono hBw2.size, hBw2.trans (hBr.mono hBw2.size)⟩
    ·
      go_simp
      have hA : Blk (World.alloc w6 (.cells (bys z16).toArray tA16)) w6.heap.size (bys z16) tA16 := Blk.new w6 _ _
      have hS9 := hS.alloc hS.size (.cells (bys z16).toArray tA16)
      have hBn : Below w6.heap.size w6 (World.alloc w6 (.cells (bys z16).toArray tA16)) := (Below.refl _ _).alloc (Nat.le_refl _) _
      have hsb : w2.heap.size ≤ w6.heap.size := hS.size
      have hlow : ∀ j, (v4 : Value).ownBlock = some j → j < w6.heap.size := fun j e => (hown.lt j e).2
      have hown := hown.below hBn
      have hrL := hrL.below hBn
      change KC _ (World.alloc w6 (.cells (bys z16).toArray tA16))
      generalize World.alloc w6 (.cells (bys z16).toArray tA16) = w9 at *
      generalize w6.heap.size = sb at *
      have hS := hS9
      clear hBn hS9
      refine hKC.out _ _ (hS) (fun hHeld => ?_)
      clear hKC KC
      try simp only [Act.put, List.setIfInBounds_toArray, List.set_cons_zero, List.set_cons_succ]
      have hS := hHeld (by kernel_rfl)
      refine tkW (rs := [7]) (by kernel_rfl) (by simp) (AllK.cons (o := _) rfl (fun KC hKC => ?_) AllK.nil)
      refine wantIt rfl (wp_add (.some 33) rfl (.tmp 27) (.tmp 32) rfl w2.heap.size _ Q rfl hown pL 16 cL (lenF n m) rfl hrL (lenF_len _ _) (by have := HQl.out; omega) hS.size ?_)
      intro v7 w7 hown7 hg7 _
      have hS7 := hS.grown hg7 hS.size (fun j e => (hown.lt j e).1)
      have hA := hA.kept hg7 (fun e => by have := hlow _ e; omega)
      have hS := hS7
      clear hg7 hrL hS7 hown
      obtain ⟨p7, c7, rfl, hc7, hr7⟩ := hown7.row
      clear hown7
      refine hKC.out _ _ (hS) (fun hHeld => ?_)
      clear hKC KC
      try simp only [Act.put, List.setIfInBounds_toArray, List.set_cons_zero, List.set_cons_succ]
      have hS := hHeld (by kernel_rfl)
      refine tkW (rs := [8]) (by kernel_rfl) (by simp) (AllK.cons (o := _) rfl (fun KC hKC => ?_) AllK.nil)
      go_simp
      refine (refsum_any _ HH HHl.out p7 (Q.length + 16) c7 (Q ++ lenF n m) hr7 (by rw [List.length_append, lenF_len]) (by have := HQ16.out; omega) (by have := HQl.out; omega)).mono ?_
      rintro e w8 ⟨rfl, hB8⟩
      have hS := hS.trans (hB8.mono hS.size)
      have hr7 := hr7.below hB8
      have hA := hA.below hB8 hA.lt
      obtain ⟨U, hU⟩ : ∃ U, ghF HH (Q ++ lenF n m) = U := ⟨_, rfl⟩
      have hUl := ghF_len HH (Q ++ lenF n m)
      rw [hU] at hUl
      try rw [hU]
      have HU := hid hU
      clear hB8 hU
      refine hKC.out _ _ (hS) (fun hHeld => ?_)
      clear hKC KC
      try simp only [Act.put, List.setIfInBounds_toArray, List.set_cons_zero, List.set_cons_succ]
      have hS := hHeld (by kernel_rfl)
      refine tkW (rs := [10]) (by kernel_rfl) (by simp) (AllK.cons (o := _) rfl (fun KC hKC => ?_) AllK.nil)
      refine wantIt rfl (wp_storeD none rfl 36 (.tmp 13) (.tmp 34) rfl sb 0 (bys U).toArray rfl rfl (hA.there 0 _ (by rw [List.size_toArray, bys_length, bys_length, hUl]; decide)) (by rw [size54, List.size_toArray, bys_length, hUl]) (all_oneCell_toArray (bys_one _)) ?_)
      have hA10 := hA.setCells (bys U) 0 (by rw [bys_length, bys_length, hUl]; decide)
      rw [splice_whole _ _ (by rw [bys_length, bys_length, hUl]; rfl)] at hA10
      have hS10 := hS.trans (((Chg.refl w2.heap.size [] w8).setCells (b := sb) (.inr hsb) (bys U) 0).below (Nat.le_refl _) (by simp))
      refine hKC.out _ _ (hS10) (fun hHeld => ?_)
      clear hKC KC
      try simp only [Act.put]
      refine tkD (by kernel_rfl) ?_ _
      change Exit.then _ _ _ _ (w8.setCells sb 0 (bys U))
      generalize w8.setCells sb 0 (bys U) = W at *
      have t0 := t0.below hS10 t0.lt
      have t1 := t1.below hS10 t1.lt
      have hk1 := hk1.below hS10
      have hB := hB.trans (hS10.mono hB.size)
      clear hS10 hS hA hl1 hr7 hc7
      go_wp2_with (first | (refine wpList_load_mid rfl 62 (.tmp 5) rfl w.heap.size 0 rfl (bys T) _ t0.whole under60 rfl hsT ?_) | (refine wpList_load_mid rfl 36 (.tmp 7) rfl (w.heap.size + 1) 0 rfl (bys c) _ t1.whole under54 rfl hsc ?_))
      refine (refenc_K HT.out W g nr kc rk c hk1 Hc.out).mono ?_
      rintro e w11 ⟨rfl, hB11⟩
      have hecl := Hcl.out
      obtain ⟨EC, hEC⟩ : ∃ EC, enc rk c = EC := ⟨_, rfl⟩
      have htf := Htf.out
      rw [HU.out] at htf
      rw [hEC] at hecl htf ⊢
      have hA11 := hA10.below hB11 hA10.lt
      have hBw := hB.trans (hB11.mono hB.size)
      have he0 : Blk (w11.alloc (.cells (bys z16).toArray tA16)) w11.heap.size (bys z16) tA16 := Blk.new _ _ _
      have he1 := he0.setCells (bys EC) 0 (by rw [bys_length, bys_length, hecl]; decide)
      rw [splice_whole _ _ (by rw [bys_length, bys_length, hecl]; rfl)] at he1
      have hBa : Below w11.heap.size w11 ((w11.alloc (.cells (bys z16).toArray tA16)).setCells w11.heap.size 0 (bys EC)) := ((Below.refl _ _).alloc (Nat.le_refl _) _).trans (((Chg.refl (w11.alloc (.cells (bys z16).toArray tA16)).heap.size [w11.heap.size] (w11.alloc (.cells (bys z16).toArray tA16))).setCells (b := w11.heap.size) (.inl (by simp)) (bys EC) 0).below (M := w11.heap.size) (by simp) (fun k hk => by simp at hk; omega))
      have hA12 := hA11.below hBa hA11.lt
      have hBw2 := hBw.trans (hBa.mono hBw.size)
      have Htf2 := hid htf
      clear htf hEC hB11 hBa hBw hA11 hA10 t0 t1 hk1 hB
      go_upto_region 5 with (refine wpList_store_mid rfl 36 (.tmp 14) (.tmp 38) rfl w11.heap.size 0 (bys EC).toArray rfl rfl (he0.there 0 _ (by rw [List.size_toArray, bys_length, bys_length, hecl]; decide)) (by rw [size54, List.size_toArray, bys_length, hecl]) (all_oneCell_toArray (bys_one _)) ?_)
      change Code.wp _ _ _ _ ((w11.alloc (.cells (bys z16).toArray tA16)).setCells w11.heap.size 0 (bys EC))
      generalize (w11.alloc (.cells (bys z16).toArray tA16)).setCells w11.heap.size 0 (bys EC) = W2 at *
      generalize w11.heap.size = eb at *
      clear he0
      go_wp2_with fail
      go_loopw [15, 16] (fun v i wx => ∃ k : Nat, k ≤ 16 ∧ i = .int .i64 k ∧ OwnR W2.heap.size wx v ((List.zipWith (· ^^^ ·) U EC).take k) ∧ Below W2.heap.size W2 wx) (fun _ i _ => 16 - (intOf i).toNat)
      case atStart => exact ⟨0, by omega, rfl, by rw [List.take_zero]; exact OwnR.nil _ _, Below.refl _ _⟩
      case round =>
        obtain ⟨k, hk, rfl, hO, hBr⟩ := hrel
        by_cases hkl : k < 16
        · have q1 : (k : Int) < 16 := by omega
          have q2 : 0 ≤ (k : Int) := by omega
          have hxs := zip_snoc U EC k (by rw [hUl]; exact hkl) (by rw [hecl]; exact hkl)
          have hxl : ((List.zipWith (· ^^^ ·) U EC).take k).length < 140737488355328 := by rw [List.length_take]; omega
          have cx := (hA12.below hBr hA12.lt).cellAt (bys_get U k (by rw [hUl]; exact hkl))
          have cy := (he1.below hBr he1.lt).cellAt (bys_get EC k (by rw [hecl]; exact hkl))
          generalize U.getD k 0 = x at *
          generalize EC.getD k 0 = y at *
          obtain ⟨Z, hZ⟩ : ∃ Z, (List.zipWith (· ^^^ ·) U EC).take k = Z := ⟨_, rfl⟩
          obtain ⟨Z2, hZ2⟩ : ∃ Z2, (List.zipWith (· ^^^ ·) U EC).take (k + 1) = Z2 := ⟨_, rfl⟩
          rw [hZ] at hO hxl hxs
          rw [hZ2] at hxs
          have HO := hid hO.drew
          have Hxs := hid hxs
          have HZ2 := hid hZ2
          have hbd := hBr.drew
          have hwl : W2.heap.size ≤ wr.drew.heap.size := hBr.size
          clear hO hxs hZ hZ2
          go_wp2_with fail
          try simp only [Act.put]
          refine tkR (fun w' => w'.cell? ⟨sb, k, none⟩ = some (.int .u8 (bv x)) ∧ w'.cell? ⟨eb, k, none⟩ = some (.int .u8 (bv y))) [8] (by kernel_rfl) (fun c a d v w h => by cases d <;> exact h) (⟨cx, cy⟩) (fun hPF hHeld => ?_)
          refine tkB 0 (.some 43) _ _ rfl rfl (by kernel_rfl) (by kernel_rfl) (by kernel_rfl) (by kernel_rfl) hPF rfl (fun w' => by (go_simp; try with_reducible rfl)) hHeld (fun hHeld => ?_)
          simp only [Act.put, List.setIfInBounds_toArray, List.set_cons_zero, List.set_cons_succ]
          refine tkB 1 (.some 44) _ _ rfl rfl (by kernel_rfl) (by kernel_rfl) (by kernel_rfl) (by kernel_rfl) hPF rfl (fun w' => by (go_simp; try with_reducible rfl)) hHeld (fun hHeld => ?_)
          simp only [Act.put, List.setIfInBounds_toArray, List.set_cons_zero, List.set_cons_succ]
          refine tkB 2 (.some 45) _ _ rfl rfl (by kernel_rfl) (by kernel_rfl) (by kernel_rfl) (by kernel_rfl) hPF rfl (fun w' => by (go_simp; try with_reducible rfl)) hHeld (fun hHeld => ?_)
          simp only [Act.put, List.setIfInBounds_toArray, List.set_cons_zero, List.set_cons_succ]
          refine tkA 3 (.some 46) _ _ rfl rfl (by kernel_rfl) (by kernel_rfl) (by kernel_rfl) (by kernel_rfl) (by kernel_rfl) hPF rfl (fun w' hw' => by (have h1 := hw'.1; go_simp; try with_reducible rfl)) hHeld (fun hHeld => ?_)
          simp only [Act.put, List.setIfInBounds_toArray, List.set_cons_zero, List.set_cons_succ]
          refine tkB 4 (.some 47) _ _ rfl rfl (by kernel_rfl) (by kernel_rfl) (by kernel_rfl) (by kernel_rfl) hPF rfl (fun w' => by (go_simp; try with_reducible rfl)) hHeld (fun hHeld => ?_)
          simp only [Act.put, List.setIfInBounds_toArray, List.set_cons_zero, List.set_cons_succ]
          refine tkB 5 (.some 48) _ _ rfl rfl (by kernel_rfl) (by kernel_rfl) (by kernel_rfl) (by kernel_rfl) hPF rfl (fun w' => by (go_simp; try with_reducible rfl)) hHeld (fun hHeld => ?_)
          simp only [Act.put, List.setIfInBounds_toArray, List.set_cons_zero, List.set_cons_succ]
          refine tkA 6 (.some 49) _ _ rfl rfl (by kernel_rfl) (by kernel_rfl) (by kernel_rfl) (by kernel_rfl) (by kernel_rfl) hPF rfl (fun w' hw' => by (have h1 := hw'.2; go_simp; try with_reducible rfl)) hHeld (fun hHeld => ?_)
          simp only [Act.put, List.setIfInBounds_toArray, List.set_cons_zero, List.set_cons_succ]
          refine tkB 7 (.some 50) _ _ rfl rfl (by kernel_rfl) (by kernel_rfl) (by kernel_rfl) (by kernel_rfl) hPF rfl (fun w' => by (go_simp; try with_reducible rfl)) hHeld (fun hHeld => ?_)
          simp only [Act.put, List.setIfInBounds_toArray, List.set_cons_zero, List.set_cons_succ]
          refine tkW (rs := [8]) (by kernel_rfl) (by simp) (AllK.close (o := _) rfl (by kernel_rfl) (fun KC hKC => ?_) AllK.nil)
          go_simp
          refine hKC.out _ _ (fun hHeld => ?_)
          clear hKC KC
          try simp only [Act.put, List.setIfInBounds_toArray, List.set_cons_zero, List.set_cons_succ]
          refine tkW (rs := [9]) (by kernel_rfl) (by simp) (AllK.close (o := _) rfl (by kernel_rfl) (fun KC hKC => ?_) AllK.nil)
          refine wantIt rfl (wp_push (.some 52) rfl (.tmp 43) (.tmp 51) rfl W2.heap.size _ _ rfl HO.out (x ^^^ y) rfl hxl hwl ?_)
          intro v' w17 hO7 hg7 _
          rw [← Hxs.out, ← HZ2.out] at hO7
          have hB17 := hbd.grown hg7 hwl (fun j e => (HO.out.lt j e).1)
          refine hKC.out _ _ (fun hHeld => ?_)
          clear hKC KC
          try simp only [Act.put, List.setIfInBounds_toArray, List.set_cons_zero, List.set_cons_succ]
          refine tkB 10 (.some 15) _ _ rfl rfl (by kernel_rfl) (by kernel_rfl) (by kernel_rfl) (by kernel_rfl) hPF rfl (fun w' => by (go_simp; try with_reducible rfl)) hHeld (fun hHeld => ?_)
          simp only [Act.put, List.setIfInBounds_toArray, List.set_cons_zero, List.set_cons_succ]
          refine tkD (by kernel_rfl) ?_ _
          go_wp2_with fail
          go_roundw
          case rel => exact ⟨k + 1, by omega, by go_num, hO7, hB17⟩
          case measure => (simp [intOf]; try omega)
        · have hke : k = 16 := by omega
          have q1 : ¬ ((k : Int) < 16) := by omega
          rw [hke, List.take_of_length_le (by rw [List.length_zipWith, hUl, hecl]; decide), ← Htf2.out] at hO
          clear hke hkl
          go_wp2_with fail
          go_ret
          exact ⟨_, rfl, hO.mono hBw2.size, hBw2.trans (hBr.mono hBw2.size)⟩
  ·
    go_simp
    have hA : Blk (World.alloc w4.drew (.cells (bys z16).toArray tA16)) w4.heap.size (bys z16) tA16 := Blk.new w4.drew _ _
    have hS9 := hS.alloc hS.size (.cells (bys z16).toArray tA16)
    have hBn : Below w4.drew.heap.size w4.drew (World.alloc w4.drew (.cells (bys z16).toArray tA16)) := (Below.refl _ _).alloc (Nat.le_refl _) _
    have hsb : w2.heap.size ≤ w4.heap.size := hS.size
    have hlow : ∀ j, (v4 : Value).ownBlock = some j → j < w4.heap.size := fun j e => (hown.lt j e).2
    have hown := hown.below hBn
    change KC _ (World.alloc w4.drew (.cells (bys z16).toArray tA16))
    generalize World.alloc w4.drew (.cells (bys z16).toArray tA16) = w9 at *
    generalize w4.heap.size = sb at *
    have hS := hS9
    clear hBn hS9
    refine hKC.out _ _ (hS) (fun hHeld => ?_)
    clear hKC KC
    try simp only [Act.put, List.setIfInBounds_toArray, List.set_cons_zero, List.set_cons_succ]
    have hS := hHeld (by kernel_rfl)
    refine tkW (rs := [6]) (by kernel_rfl) (by simp) (AllK.cons (o := _) rfl (fun KC hKC => ?_) AllK.nil)
    go_simp
    (with_reducible refine (reflengths_any _ n m (by omega) (by omega)).mono ?_)
    rintro e w6 ⟨vL, rfl, hownL, hB6⟩
    have hS := hS.trans (hB6.mono hS.size)
    have hown := hown.below hB6
    have hA := hA.below hB6 hA.lt
    obtain ⟨pL, cL, rfl, _, hrL⟩ := hownL.row
    rw [lenF_len]
    clear hownL hB6
    refine hKC.out _ _ (hS) (fun hHeld => ?_)
    clear hKC KC
    try simp only [Act.put, List.setIfInBounds_toArray, List.set_cons_zero, List.set_cons_succ]
    have hS := hHeld (by kernel_rfl)
    refine tkW (rs := [7]) (by kernel_rfl) (by simp) (AllK.cons (o := _) rfl (fun KC hKC => ?_) AllK.nil)
    refine wantIt rfl (wp_add (.some 33) rfl (.tmp 27) (.tmp 32) rfl w2.heap.size _ Q rfl hown pL 16 cL (lenF n m) rfl hrL (lenF_len _ _) (by have := HQl.out; omega) hS.size ?_)
    intro v7 w7 hown7 hg7 _
    have hS7 := hS.grown hg7 hS.size (fun j e => (hown.lt j e).1)
    have hA := hA.kept hg7 (fun e => by have := hlow _ e; omega)
    have hS := hS7
    clear hg7 hrL hS7 hown
    obtain ⟨p7, c7, rfl, hc7, hr7⟩ := hown7.row
    clear hown7
    refine hKC.out _ _ (hS) (fun hHeld => ?_)
    clear hKC KC
    try simp only [Act.put, List.setIfInBounds_toArray, List.set_cons_zero, List.set_cons_succ]
    have hS := hHeld (by kernel_rfl)
    refine tkW (rs := [8]) (by kernel_rfl) (by simp) (AllK.cons (o := _) rfl (fun KC hKC => ?_) AllK.nil)
    go_simp
    refine (refsum_any _ HH HHl.out p7 (Q.length + 16) c7 (Q ++ lenF n m) hr7 (by rw [List.length_append, lenF_len]) (by have := HQ16.out; omega) (by have := HQl.out; omega)).mono ?_
    rintro e w8 ⟨rfl, hB8⟩
    have hS := hS.trans (hB8.mono hS.size)
    have hr7 := hr7.below hB8
    have hA := hA.below hB8 hA.lt
    obtain ⟨U, hU⟩ : ∃ U, ghF HH (Q ++ lenF n m) = U := ⟨_, rfl⟩
    have hUl := ghF_len HH (Q ++ lenF n m)
    rw [hU] at hUl
    try rw [hU]
    have HU := hid hU
    clear hB8 hU
    refine hKC.out _ _ (hS) (fun hHeld => ?_)
    clear hKC KC
    try simp only [Act.put, List.setIfInBounds_toArray, List.set_cons_zero, List.set_cons_succ]
    have hS := hHeld (by kernel_rfl)
    refine tkW (rs := [10]) (by kernel_rfl) (by simp) (AllK.cons (o := _) rfl (fun KC hKC => ?_) AllK.nil)
    refine wantIt rfl (wp_storeD none rfl 36 (.tmp 13) (.tmp 34) rfl sb 0 (bys U).toArray rfl rfl (hA.there 0 _ (by rw [List.size_toArray, bys_length, bys_length, hUl]; decide)) (by rw [size54, List.size_toArray, bys_length, hUl]) (all_oneCell_toArray (bys_one _)) ?_)
    have hA10 := hA.setCells (bys U) 0 (by rw [bys_length, bys_length, hUl]; decide)
    rw [splice_whole _ _ (by rw [bys_length, bys_length, hUl]; rfl)] at hA10
    have hS10 := hS.trans (((Chg.refl w2.heap.size [] w8).setCells (b := sb) (.inr hsb) (bys U) 0).below (Nat.le_refl _) (by simp))
    refine hKC.out _ _ (hS10) (fun hHeld => ?_)
    clear hKC KC
    try simp only [Act.put]
    refine tkD (by kernel_rfl) ?_ _
    change Exit.then _ _ _ _ (w8.setCells sb 0 (bys U))
    generalize w8.setCells sb 0 (bys U) = W at *
    have t0 := t0.below hS10 t0.lt
    have t1 := t1.below hS10 t1.lt
    have hk1 := hk1.below hS10
    have hB := hB.trans (hS10.mono hB.size)
    clear hS10 hS hA hl1 hr7 hc7
    go_wp2_with (first | (refine wpList_load_mid rfl 62 (.tmp 5) rfl w.heap.size 0 rfl (bys T) _ t0.whole under60 rfl hsT ?_) | (refine wpList_load_mid rfl 36 (.tmp 7) rfl (w.heap.size + 1) 0 rfl (bys c) _ t1.whole under54 rfl hsc ?_))
    refine (refenc_K HT.out W g nr kc rk c hk1 Hc.out).mono ?_
    rintro e w11 ⟨rfl, hB11⟩
    have hecl := Hcl.out
    obtain ⟨EC, hEC⟩ : ∃ EC, enc rk c = EC := ⟨_, rfl⟩
    have htf := Htf.out
    rw [HU.out] at htf
    rw [hEC] at hecl htf ⊢
    have hA11 := hA10.below hB11 hA10.lt
    have hBw := hB.trans (hB11.mono hB.size)
    have he0 : Blk (w11.alloc (.cells (bys z16).toArray tA16)) w11.heap.size (bys z16) tA16 := Blk.new _ _ _
    have he1 := he0.setCells (bys EC) 0 (by rw [bys_length, bys_length, hecl]; decide)
    rw [splice_whole _ _ (by rw [bys_length, bys_length, hecl]; rfl)] at he1
    have hBa : Below w11.heap.size w11 ((w11.alloc (.cells (bys z16).toArray tA16)).setCells w11.heap.size 0 (bys EC)) := ((Below.refl _ _).alloc (Nat.le_refl _) _).trans (((Chg.refl (w11.alloc (.cells (bys z16).toArray tA16)).heap.size [w11.heap.size] (w11.alloc (.cells (bys z16).toArray tA16))).setCells (b := w11.heap.size) (.inl (by simp)) (bys EC) 0).below (M := w11.heap.size) (by simp) (fun k hk => by simp at hk; omega))
    have hA12 := hA11.below hBa hA11.lt
    have hBw2 := hBw.trans (hBa.mono hBw.size)
    have Htf2 := hid htf
    clear htf hEC hB11 hBa hBw hA11 hA10 t0 t1 hk1 hB
    go_upto_region 5 with (refine wpList_store_mid rfl 36 (.tmp 14) (.tmp 38) rfl w11.heap.size 0 (bys EC).toArray rfl rfl (he0.there 0 _ (by rw [List.size_toArray, bys_length, bys_length, hecl]; decide)) (by rw [size54, List.size_toArray, bys_length, hecl]) (all_oneCell_toArray (bys_one _)) ?_)
    change Code.wp _ _ _ _ ((w11.alloc (.cells (bys z16).toArray tA16)).setCells w11.heap.size 0 (bys EC))
    generalize (w11.alloc (.cells (bys z16).toArray tA16)).setCells w11.heap.size 0 (bys EC) = W2 at *
    generalize w11.heap.size = eb at *
    clear he0
    go_wp2_with fail
    go_loopw [15, 16] (fun v i wx => ∃ k : Nat, k ≤ 16 ∧ i = .int .i64 k ∧ OwnR W2.heap.size wx v ((List.zipWith (· ^^^ ·) U EC).take k) ∧ Below W2.heap.size W2 wx) (fun _ i _ => 16 - (intOf i).toNat)
    case atStart => exact ⟨0, by omega, rfl, by rw [List.take_zero]; exact OwnR.nil _ _, Below.refl _ _⟩
    case round =>
      obtain ⟨k, hk, rfl, hO, hBr⟩ := hrel
      by_cases hkl : k < 16
      · have q1 : (k : Int) < 16 := by omega
        have q2 : 0 ≤ (k : Int) := by omega
        have hxs := zip_snoc U EC k (by rw [hUl]; exact hkl) (by rw [hecl]; exact hkl)
        have hxl : ((List.zipWith (· ^^^ ·) U EC).take k).length < 140737488355328 := by rw [List.length_take]; omega
        have cx := (hA12.below hBr hA12.lt).cellAt (bys_get U k (by rw [hUl]; exact hkl))
        have cy := (he1.below hBr he1.lt).cellAt (bys_get EC k (by rw [hecl]; exact hkl))
        generalize U.getD k 0 = x at *
        generalize EC.getD k 0 = y at *
        obtain ⟨Z, hZ⟩ : ∃ Z, (List.zipWith (· ^^^ ·) U EC).take k = Z := ⟨_, rfl⟩
        obtain ⟨Z2, hZ2⟩ : ∃ Z2, (List.zipWith (· ^^^ ·) U EC).take (k + 1) = Z2 := ⟨_, rfl⟩
        rw [hZ] at hO hxl hxs
        rw [hZ2] at hxs
        have HO := hid hO.drew
        have Hxs := hid hxs
        have HZ2 := hid hZ2
        have hbd := hBr.drew
        have hwl : W2.heap.size ≤ wr.drew.heap.size := hBr.size
        clear hO hxs hZ hZ2
        go_wp2_with fail
        try simp only [Act.put]
        refine tkR (fun w' => w'.cell? ⟨sb, k, none⟩ = some (.int .u8 (bv x)) ∧ w'.cell? ⟨eb, k, none⟩ = some (.int .u8 (bv y))) [8] (by kernel_rfl) (fun c a d v w h => by cases d <;> exact h) (⟨cx, cy⟩) (fun hPF hHeld => ?_)
        refine tkB 0 (.some 43) _ _ rfl rfl (by kernel_rfl) (by kernel_rfl) (by kernel_rfl) (by kernel_rfl) hPF rfl (fun w' => by (go_simp; try with_reducible rfl)) hHeld (fun hHeld => ?_)
        simp only [Act.put, List.setIfInBounds_toArray, List.set_cons_zero, List.set_cons_succ]
        refine tkB 1 (.some 44) _ _ rfl rfl (by kernel_rfl) (by kernel_rfl) (by kernel_rfl) (by kernel_rfl) hPF rfl (fun w' => by (go_simp; try with_reducible rfl)) hHeld (fun hHeld => ?_)
        simp only [Act.put, List.setIfInBounds_toArray, List.set_cons_zero, List.set_cons_succ]
        refine tkB 2 (.some 45) _ _ rfl rfl (by kernel_rfl) (by kernel_rfl) (by kernel_rfl) (by kernel_rfl) hPF rfl (fun w' => by (go_simp; try with_reducible rfl)) hHeld (fun hHeld => ?_)
        simp only [Act.put, List.setIfInBounds_toArray, List.set_cons_zero, List.set_cons_succ]
        refine tkA 3 (.some 46) _ _ rfl rfl (by kernel_rfl) (by kernel_rfl) (by kernel_rfl) (by kernel_rfl) (by kernel_rfl) hPF rfl (fun w' hw' => by (have h1 := hw'.1; go_simp; try with_reducible rfl)) hHeld (fun hHeld => ?_)
        simp only [Act.put, List.setIfInBounds_toArray, List.set_cons_zero, List.set_cons_succ]
        refine tkB 4 (.some 47) _ _ rfl rfl (by kernel_rfl) (by kernel_rfl) (by kernel_rfl) (by kernel_rfl) hPF rfl (fun w' => by (go_simp; try with_reducible rfl)) hHeld (fun hHeld => ?_)
        simp only [Act.put, List.setIfInBounds_toArray, List.set_cons_zero, List.set_cons_succ]
        refine tkB 5 (.some 48) _ _ rfl rfl (by kernel_rfl) (by kernel_rfl) (by kernel_rfl) (by kernel_rfl) hPF rfl (fun w' => by (go_simp; try with_reducible rfl)) hHeld (fun hHeld => ?_)
        simp only [Act.put, List.setIfInBounds_toArray, List.set_cons_zero, List.set_cons_succ]
        refine tkA 6 (.some 49) _ _ rfl rfl (by kernel_rfl) (by kernel_rfl) (by kernel_rfl) (by kernel_rfl) (by kernel_rfl) hPF rfl (fun w' hw' => by (have h1 := hw'.2; go_simp; try with_reducible rfl)) hHeld (fun hHeld => ?_)
        simp only [Act.put, List.setIfInBounds_toArray, List.set_cons_zero, List.set_cons_succ]
        refine tkB 7 (.some 50) _ _ rfl rfl (by kernel_rfl) (by kernel_rfl) (by kernel_rfl) (by kernel_rfl) hPF rfl (fun w' => by (go_simp; try with_reducible rfl)) hHeld (fun hHeld => ?_)
        simp only [Act.put, List.setIfInBounds_toArray, List.set_cons_zero, List.set_cons_succ]
        refine tkW (rs := [8]) (by kernel_rfl) (by simp) (AllK.close (o := _) rfl (by kernel_rfl) (fun KC hKC => ?_) AllK.nil)
        go_simp
        refine hKC.out _ _ (fun hHeld => ?_)
        clear hKC KC
        try simp only [Act.put, List.setIfInBounds_toArray, List.set_cons_zero, List.set_cons_succ]
        refine tkW (rs := [9]) (by kernel_rfl) (by simp) (AllK.close (o := _) rfl (by kernel_rfl) (fun KC hKC => ?_) AllK.nil)
        refine wantIt rfl (wp_push (.some 52) rfl (.tmp 43) (.tmp 51) rfl W2.heap.size _ _ rfl HO.out (x ^^^ y) rfl hxl hwl ?_)
        intro v' w17 hO7 hg7 _
        rw [← Hxs.out, ← HZ2.out] at hO7
        have hB17 := hbd.grown hg7 hwl (fun j e => (HO.out.lt j e).1)
        refine hKC.out _ _ (fun hHeld => ?_)
        clear hKC KC
        try simp only [Act.put, List.setIfInBounds_toArray, List.set_cons_zero, List.set_cons_succ]
        refine tkB 10 (.some 15) _ _ rfl rfl (by kernel_rfl) (by kernel_rfl) (by kernel_rfl) (by kernel_rfl) hPF rfl (fun w' => by (go_simp; try with_reducible rfl)) hHeld (fun hHeld => ?_)
        simp only [Act.put, List.setIfInBounds_toArray, List.set_cons_zero, List.set_cons_succ]
        refine tkD (by kernel_rfl) ?_ _
        go_wp2_with fail
        go_roundw
        case rel => exact ⟨k + 1, by omega, by go_num, hO7, hB17⟩
        case measure => (simp [intOf]; try omega)
      · have hke : k = 16 := by omega
        have q1 : ¬ ((k : Int) < 16) := by omega
        rw [hke, List.take_of_length_le (by rw [List.length_zipWith, hUl, hecl]; decide), ← Htf2.out] at hO
        clear hke hkl
        go_wp2_with fail
        go_ret
        exact ⟨_, rfl, hO.mono hBw2.size, hBw2.trans (hBr.mono hBw2.size)⟩
end Go.Proofs.Ytgellbapbphnlaa
