/- the reference's cbc Open -/
import Derived.Test.YtlgeebnmonmdaaaRt
import Derived.Test.YtlgeebnmonmdaaaOp
import Derived.Test.YtlgeebnmonmdaaaRf5
namespace Go.Proofs.Ytlgeebnmonmdaaa
open Go.RowKit

/-- How the reference's Open's answer lies. -/
def ROpenAns (w : World) (v : Value) : Option (List UInt8) → Prop
  | some l => ∃ pa c, v = .tuple #[.slice pa l.length c, .bool true] ∧ RowAt w pa l
  | none => v = .tuple #[.slice none 0 0, .bool false]
/-- The first r of z, noughts behind. -/
def fillX (z : List UInt8) (r : Nat) : List UInt8 := z.take r ++ List.replicate (z.length - r) 0
theorem fillX_len (z : List UInt8) (r : Nat) (h : r ≤ z.length) : (fillX z r).length = z.length := by simp [fillX]; omega
theorem fillX_succ (z : List UInt8) (r : Nat) (h : r < z.length) : (fillX z r).set r (z.getD r 0) = fillX z (r + 1) := by
  have hl : (z.take r).length = r := by rw [List.length_take]; omega
  unfold fillX
  rw [take_succ_getD 0 z r h, show z.length - r = (z.length - (r + 1)) + 1 by omega, List.replicate_succ, List.set_append_right _ _ (by omega), hl, Nat.sub_self, List.set_cons_zero, List.append_assoc]
  rfl
theorem fillX_all (z : List UInt8) : fillX z z.length = z := by simp [fillX]

theorem blkAt_len' (b : List UInt8) (q k : Nat) (h : q < k) (hb : 16 * k ≤ b.length) : (blkAt b q).length = 16 := by
  unfold blkAt; rw [List.length_take, List.length_drop]; omega
theorem prevO_len' (iv b : List UInt8) (k : Nat) (hiv : iv.length = 16) (hb : 16 * k ≤ b.length) (j : Nat) (hj : j ≤ k) : (prevO iv b j).length = 16 := by
  cases j with
  | zero => exact hiv
  | succ j => exact blkAt_len' b j k (by omega) hb
theorem openO_len' (D : List UInt8 → List UInt8) (iv b : List UInt8) (k : Nat) (hD : ∀ s : List UInt8, s.length = 16 → (D s).length = 16) (hiv : iv.length = 16) (hb : 16 * k ≤ b.length) : ∀ j, j ≤ k → (openO D iv b j).length = 16 * j
  | 0, _ => rfl
  | j + 1, h => by
    rw [openO, List.length_append, openO_len' D iv b k hD hiv hb j (by omega), List.length_zipWith, hD _ (blkAt_len' b j k (by omega) hb), prevO_len' iv b k hiv hb j (by omega)]; omega
set_option maxRecDepth 100000 in
set_option maxHeartbeats 4000000 in
theorem refopen_any (w : World) (pk : Option Addr) (kn kc m : Nat) (key iv : List UInt8) (pb : Option Addr) (n cap : Nat) (b : List UInt8) (hkr : RowAt w pk key) (hkl : key.length = kn) (hm : m = 4 ∨ m = 8) (hkm : kn = 4 * m) (hiv : iv.length = 16)
    (hb : RowAt w pb b) (hn : b.length = n) (hp : n < 1000000) (hc : n ≤ cap) :
    Calls Try.prog 24 #[.slice pk kn kc, .agg (bys iv).toArray, .slice pb n cap] w fun e w' => ∃ v, e = .returned v ∧ Below w.heap.size w w' ∧ ROpenAns w' v (openF (dec (rkOf m key)) iv b) := by
  obtain ⟨r0, hr0⟩ : ∃ r : Int, ((n % 16 : Nat) : Int) = r := ⟨_, rfl⟩
  have hmod : ((n : Int)).tmod 16 = r0 := by rw [Int.tmod_eq_emod_of_nonneg (by omega), ← hr0]; omega
  have hmod' : ((n : Int)) % 16 = r0 := by omega
  by_cases h16 : n % 16 = 0
  · obtain rfl : r0 = 0 := by omega
    clear hr0
    obtain ⟨k, hk⟩ : ∃ k, n / 16 = k := ⟨_, rfl⟩
    have hnk : n = 16 * k := by omega
    have hk9 : k < 1000000 := by omega
    have Hnk := hid hnk
    have Hk := hid hk
    clear hk hnk
    have h0 := Blk.new w (bys iv) tA16
    have hB0 : Below w.heap.size w (w.alloc (.cells (bys iv).toArray tA16)) := (Below.refl _ _).alloc (Nat.le_refl _) _
    have hszi : (Try.prog.info? 23).map (·.size) = some (bys iv).length := by rw [size54, bys_length, hiv]
    have hb0 := hb.below hB0
    have hkr0 := hkr.below hB0
    obtain ⟨kb, ko, rfl, _, _⟩ := hkr 0 (by omega)
    obtain ⟨T, hTe⟩ : ∃ T, tbl 256 = T := ⟨_, rfl⟩
    obtain ⟨Z, hZe⟩ : ∃ Z, tbl 0 = Z := ⟨_, rfl⟩
    have hl0 := tbl_len 0 (by omega)
    have hl1 := tbl_len 256 (by omega)
    have zz := zc60
    rw [hZe] at hl0 zz
    rw [hTe] at hl1
    have HTe := hid hTe
    have Zz := hid zz
    have Hl1 := hid hl1
    have Hl0 := hid hl0
    have Hn := hid hn
    have Hkl := hid hkl
    have Hkm := hid hkm
    clear hTe hZe zz hl0 hl1 hkr hn hkl hkm
    go_enter Try.func24, Try.ntmps24
    go_wp2_with fail
    change Calls _ _ _ (w.alloc (.cells (bys iv).toArray tA16)) _
    generalize w.alloc (.cells (bys iv).toArray tA16) = w1 at *
    refine (table_T HTe.out w1).mono ?_
    rintro e w3 ⟨rfl, hB3⟩
    have h0 := h0.below hB3 h0.lt
    have hb0 := hb0.below hB3
    have hkr0 := hkr0.below hB3
    have hBw := hB0.trans (hB3.mono hB0.size)
    clear hB3 hB0
    obtain ⟨tb, htb⟩ : ∃ tb, w3.heap.size = tb := ⟨_, rfl⟩
    have hT0 : Blk (w3.alloc (.cells Try.zeroCells61 61)) tb (bys Z) tA256 := by rw [Zz.out, ← htb]; exact Blk.new w3 (bys Z) tA256
    have hBt : Below w3.heap.size w3 (w3.alloc (.cells Try.zeroCells61 61)) := (Below.refl _ _).alloc (Nat.le_refl _) _
    obtain ⟨hTT, hcc⟩ := store16 (new := T) hT0 (by rw [Hl0.out, Hl1.out])
    have hBs := hBt.trans (hcc.below (M := w3.heap.size) hBt.size (fun k hk => by simp at hk; omega))
    have h0 := h0.below hBs h0.lt
    have hb0 := hb0.below hBs
    have hkr0 := hkr0.below hBs
    have hBw := hBw.trans (hBs.mono hBw.size)
    clear hBt hcc hBs
    have hsT : (Try.prog.info? 61).map (·.size) = some (bys T).length := by rw [size60, bys_length, Hl1.out]
    go_wp2_with (first | (refine wpList_store_mid rfl 61 (.tmp 8) (.tmp 21) rfl tb 0 (bys T).toArray rfl rfl (hT0.there 0 _ (by rw [List.size_toArray, bys_length, bys_length, Hl0.out, Hl1.out]; decide)) (by rw [size60, List.size_toArray, bys_length, Hl1.out]) (all_oneCell_toArray (bys_one _)) ?_) | (refine wpList_load_mid rfl 61 (.tmp 8) rfl tb 0 rfl (bys T) _ hTT.whole under60 rfl hsT ?_))
    clear hT0
    generalize (w3.alloc (.cells Try.zeroCells61 61)).setCells tb 0 (bys T) = w4 at *
    refine (refkeys_T HTe.out w4 kb ko kn kc m key hkr0 Hkl.out hm Hkm.out).mono ?_
    rintro e w5 ⟨g, cap2, ex, rfl, hG, hBn⟩
    have h0 := h0.below hBn h0.lt
    have hb0 := hb0.below hBn
    have hT := hTT.below hBn hTT.lt
    have hBw := hBw.trans (hBn.mono hBw.size)
    clear hBn hTT hkr0
    go_wp2_with fail
    obtain ⟨rk, hrk⟩ : ∃ rk, rkOf m key = rk := ⟨_, rfl⟩
    have hrl := rkOf_len m key (by rw [Hkl.out, Hkm.out]) hm
    rw [hrk] at hrl hG
    have hdl := fun s hs => dec_l16 rk s hrl.2 hs
    have Hrl := hid hrl
    have Hdl := hid hdl
    have Hrk := hid hrk
    obtain ⟨ib, hib⟩ : ∃ ib, w.heap.size = ib := ⟨_, rfl⟩
    have Hib := hid hib
    have l0 := h0.lt
    have lT := hT.lt
    have lG := hG.lt
    have hBs := hBw.size
    have lb := hb.pos
    rw [hib] at h0 l0 lb ⊢
    have nT : tb ≠ ib := h0.ne hT (by decide) |>.symm
    have nG : g ≠ ib := fun e => by
      subst e
      have := hG.shape.symm.trans h0.shape
      simp [bys_length] at this
      have := Hrl.out.1
      omega
    have HsT := hid hsT
    have hbk : 16 * k ≤ b.length := by rw [Hn.out, Hnk.out]; omega
    have Hl := fun j hj => hid (prevO_len' iv b k hiv hbk j hj)
    have Hol := fun j hj => hid (openO_len' (dec rk) iv b k hdl hiv hbk j hj)
    clear hrk hrl hdl hib hsT hszi
    generalize w5 = W at *
    go_loopw [10, 11, 12, 13, 14, 15] (fun v i _ _ _ _ wr => ∃ j : Nat, j ≤ k ∧ i = .int .i64 ((16 * j : Nat) : Int) ∧ Blk wr ib (bys (prevO iv b j)) tA16 ∧ OwnR W.heap.size wr v (openO (dec rk) iv b j) ∧ Chg W.heap.size [ib] W wr) (fun _ i _ _ _ _ _ => 16 * k - (intOf i).toNat)
    case atStart => exact ⟨0, by omega, rfl, h0, OwnR.nil _ _, Chg.refl _ _ _⟩
    case round =>
      clear h0
      obtain ⟨j, hj, rfl, hB, hO, hC⟩ := hrel
      obtain ⟨c0, hc0⟩ : ∃ c0, prevO iv b j = c0 := ⟨_, rfl⟩
      obtain ⟨o0, ho0⟩ : ∃ o0, openO (dec rk) iv b j = o0 := ⟨_, rfl⟩
      have hcl := (Hl j hj).out
      have hol := (Hol j hj).out
      rw [hc0] at hB hcl
      rw [ho0] at hO hol
      have Hc0 := hid hc0
      have Ho0 := hid ho0
      have Hcl := hid hcl
      have Hol0 := hid hol
      obtain ⟨t, ht⟩ : ∃ t, 16 * j = t := ⟨_, rfl⟩
      rw [ht]
      have Ht := hid ht
      have hnu := Hnk.out
      by_cases hlt : j < k
      · have q1 : (t : Int) < (n : Int) := by omega
        have q2 : 0 ≤ (t : Int) := by omega
        obtain ⟨ck, hck⟩ : ∃ ck, blkAt b j = ck := ⟨_, rfl⟩
        have hckl : ck.length = 16 := by rw [← hck]; exact blkAt_len' b j k hlt hbk
        have Hck := hid hck
        have Hckl := hid hckl
        have hcs := hC.size
        have hb1 : RowAt wr pb b := hb0.chgL hC (fun a e => by have := lb (by omega) a e; omega) (fun a e => by have := lb (by omega) a e; simp; omega)
        obtain ⟨xb, hxb⟩ : ∃ xb, wr.heap.size = xb := ⟨_, rfl⟩
        have hX0 : Blk (wr.alloc (.cells (bys z16).toArray tA16)) xb (bys z16) tA16 := by rw [← hxb]; exact Blk.new wr (bys z16) tA16
        have hf0 : fillX ck 0 = z16 := by unfold fillX; rw [hckl]; rfl
        have hBa : Below wr.heap.size wr (wr.alloc (.cells (bys z16).toArray tA16)) := (Below.refl _ _).alloc (Nat.le_refl _) _
        have hB1 := hB.below hBa hB.lt
        have hO1 := hO.below hBa
        have hb1 := hb1.below hBa
        have hC1 := hC.trans (Chg.ofBelow (hBa.mono hcs))
        clear hc0 ho0 hcl hol hck hckl ht hnu hB hO
        go_upto_region 10 with fail
        change Code.wp _ _ _ _ (wr.alloc (.cells (bys z16).toArray tA16))
        have hs6 : xb + 1 = (wr.alloc (.cells (bys z16).toArray tA16)).heap.size := by simp [hxb]
        generalize wr.alloc (.cells (bys z16).toArray tA16) = W6 at *
        rw [← hf0] at hX0
        clear hf0 hBa
        go_wp2_with fail
        go_loopw [13] (fun i wx => ∃ r : Nat, r ≤ 16 ∧ i = .int .i64 r ∧ Blk wx xb (bys (fillX ck r)) tA16 ∧ OwnR W.heap.size wx u10 o0 ∧ Chg xb [] W6 wx) (fun i _ => 16 - (intOf i).toNat)
        case atStart => exact ⟨0, by omega, rfl, hX0, hO1, Chg.refl _ _ _⟩
        case round =>
          clear hX0 hO1
          obtain ⟨r, hr, rfl, hX, hO, hCx⟩ := hrel
          have HO := hid hO
          have HX := hid hX
          have HC := hid hCx
          clear hO
          by_cases hrl : r < 16
          · have hla := fillX_len ck r (by rw [Hckl.out]; exact hr)
            have hcx := hX.cellAt (bys_get _ r (by rw [hla, Hckl.out]; exact hrl))
            have hf := hX.frozen r
            have hs := fillX_succ ck r (by rw [Hckl.out]; exact hrl)
            obtain ⟨e, he⟩ : ∃ e, t + r = e := ⟨_, rfl⟩
            have hen : e < n := by have := Ht.out; have := Hnk.out; omega
            have hbw : RowAt wr pb b := (hb1.chgL hCx (fun a e => by have := lb (by omega) a e; omega) (fun a e => by simp)).drew
            obtain ⟨bp, bo, epb, _, hcb⟩ := hbw e (by rw [Hn.out]; exact hen)
            have hce : b.getD e 0 = ck.getD r 0 := by
              rw [← Hck.out, blkAt, List.getD, List.getD, List.getElem?_take_of_lt hrl, List.getElem?_drop, Ht.out, he]
            rw [hce] at hcb
            have Hs := hid hs
            have Hepb := hid epb
            have q3 : (t : Int) + (r : Int) = (e : Int) := by omega
            have q4 : (e : Int) < (n : Int) := by omega
            have q5 : 0 ≤ (e : Int) := by omega
            have q6 : (r : Int) < 16 := by omega
            have q7 : 0 ≤ (r : Int) := by omega
            have q8 : (e : Int) ≤ 1000000000 := by omega
            have q9 : IntKind.i64.wrap (e : Int) = (e : Int) := by rw [IntKind.wrap_i64]; omega
            rw [epb]
            clear hs hla hce hX hCx hbw epb
            generalize ck.getD r 0 = y at *
            go_wp2_with fail
            have hX' : Blk (wr.setCell ⟨xb, r, none⟩ (.int .u8 (bv y))) xb (bys (fillX ck (r + 1))) tA16 := by
              have := HX.out.set r (.int .u8 (bv y))
              rw [bys_set, Hs.out] at this
              exact this
            have hCx' : Chg xb [] W6 (wr.setCell ⟨xb, r, none⟩ (.int .u8 (bv y))) := HC.out.setCell (.inr (Nat.le_refl _)) _
            have hO' := HO.out.chg ((Chg.refl wr.heap.size [xb] wr).setCell (p := ⟨xb, r, none⟩) (.inl (by simp)) (.int .u8 (bv y))) (Nat.le_refl _) (fun j e => by obtain ⟨cs, hbt⟩ := HO.out.typ j e; simp; exact hbt.ne HX.out (by decide))
            go_roundw
            case rel => exact ⟨r + 1, by omega, by go_num, hX', hO', hCx'⟩
            case measure => (simp [intOf]; try omega)
          · obtain rfl : r = 16 := by omega
            have hfa : fillX ck 16 = ck := by rw [← Hckl.out]; exact fillX_all ck
            rw [hfa] at HX
            have hCa : Chg W.heap.size [ib] W wr := hC1.trans (hCx.mono (by omega) (fun _ _ h => by cases h))
            obtain ⟨z, hz⟩ : ∃ z, dec rk ck = z := ⟨_, rfl⟩
            have hzl : z.length = 16 := by rw [← hz]; exact Hdl.out ck Hckl.out
            have Hz := hid hz
            have Hzl := hid hzl
            have hTw := hT.chg hCa lT (by simp; exact nT)
            have hGw := hG.chg hCa lG (by simp; exact nG)
            have hBw1 := hB1.chg hCx (by omega) (by simp)
            have hXw := HX.out
            have hszk : (Try.prog.info? 23).map (·.size) = some (bys ck).length := by rw [size54, bys_length, Hckl.out]
            have hsT := HsT.out
            clear hfa hz hzl hX hCx
            go_wp2_with (first | (refine wpList_load_mid rfl 61 (.tmp 8) rfl tb 0 rfl (bys T) _ hTw.whole under60 rfl hsT ?_) | (refine wpList_load_mid rfl 23 (.tmp 12) rfl xb 0 rfl (bys ck) _ hXw.whole under54 rfl hszk ?_))
            (with_reducible refine (refdec_T HTe.out wr g (m + 7) cap2 (m + 6) rk ck ex hGw Hrl.out.1 rfl (by omega) (by omega) Hckl.out).mono ?_)
            rintro e w8 ⟨rfl, hB8⟩
            rw [Hz.out]
            have hI8 := hBw1.below hB8 hBw1.lt
            have hX8 := hXw.below hB8 hXw.lt
            have hO8 := HO.out.below hB8
            have hC8 := hCa.trans (Chg.ofBelow (hB8.mono hCa.size))
            obtain ⟨yb, hyb⟩ : ∃ yb, w8.heap.size = yb := ⟨_, rfl⟩
            have hY0 : Blk (w8.alloc (.cells (bys z16).toArray tA16)) w8.heap.size (bys z16) tA16 := Blk.new w8 (bys z16) tA16
            have hBy : Below w8.heap.size w8 (w8.alloc (.cells (bys z16).toArray tA16)) := (Below.refl _ _).alloc (Nat.le_refl _) _
            obtain ⟨hY1, hCy⟩ := store16 (new := z) hY0 (by rw [Hzl.out]; rfl)
            have hBs8 := hBy.trans (hCy.below (M := w8.heap.size) hBy.size (fun k hk => by simp at hk; omega))
            have hI9 := hI8.below hBs8 hI8.lt
            have hX9 := hX8.below hBs8 hX8.lt
            have hO9 := hO8.below hBs8
            have hC9 := hC8.trans (Chg.ofBelow (hBs8.mono hC8.size))
            rw [hyb] at hY0 hY1 hI9 hX9 hO9 hC9
            have hib9 := hI9.lt
            have hyx : xb < yb := by rw [← hyb]; exact hX8.lt
            have hyi : ib < yb := by rw [← hyb]; exact hI8.lt
            clear hTw hGw hBw1 hXw hsT hszk hB8 hBy hCy hI8 hX8 hO8 hC8 hBs8 HO HX HC hCa hB1 hb1 hC1
            go_wp2_with (refine wpList_store_mid rfl 23 (.tmp 14) (.tmp 46) rfl yb 0 (bys z).toArray (by first | rfl | (rw [← hyb]; rfl)) rfl (hY0.there 0 _ (by rw [List.size_toArray, bys_length, bys_length, Hzl.out]; decide)) (by rw [size54, List.size_toArray, bys_length, Hzl.out]) (all_oneCell_toArray (bys_one _)) ?_)
            change Code.wp _ _ _ _ ((w8.alloc (.cells (bys z16).toArray tA16)).setCells yb 0 (bys z))
            generalize (w8.alloc (.cells (bys z16).toArray tA16)).setCells yb 0 (bys z) = w9 at *
            obtain ⟨o1, ho1⟩ : ∃ o1, List.zipWith (· ^^^ ·) z c0 = o1 := ⟨_, rfl⟩
            have ho1l : o1.length = 16 := by rw [← ho1, List.length_zipWith, Hzl.out, Hcl.out]; rfl
            have hnx : openO (dec rk) iv b (j + 1) = o0 ++ o1 := by rw [openO, Ho0.out, Hck.out, Hz.out, Hc0.out, ho1]
            have hnp : prevO iv b (j + 1) = ck := Hck.out
            have Ho1 := hid ho1
            have Ho1l := hid ho1l
            have Hnx := hid hnx
            have Hnp := hid hnp
            clear hY0 hyb ho1 ho1l hnx hnp hxb hs6
            go_loopw [10, 15] (fun v i wx => ∃ r : Nat, r ≤ 16 ∧ i = .int .i64 r ∧ Blk wx yb (bys z) tA16 ∧ Blk wx xb (bys ck) tA16 ∧ Blk wx ib (bys c0) tA16 ∧ OwnR W.heap.size wx v (o0 ++ o1.take r) ∧ Chg W.heap.size [ib] W wx) (fun _ i _ => 16 - (intOf i).toNat)
            case atStart => exact ⟨0, by omega, rfl, hY1, hX9, hI9, by simpa using hO9, hC9⟩
            case round =>
              clear hY1 hX9 hI9 hO9 hC9
              obtain ⟨r, hr, rfl, hY, hX, hI, hO, hC⟩ := hrel
              have HY := hid hY
              have HX := hid hX
              have HI := hid hI
              have HO := hid hO
              have HC := hid hC
              have hsz := hC.size
              by_cases hrl : r < 16
              · have hcy := hY.drew.cellAt (bys_get _ r (by rw [Hzl.out]; exact hrl))
                have hci := hI.drew.cellAt (bys_get _ r (by rw [Hcl.out]; exact hrl))
                have hs : o0 ++ o1.take r ++ [z.getD r 0 ^^^ c0.getD r 0] = o0 ++ o1.take (r + 1) := by
                  have h1 : r < z.length := by rw [Hzl.out]; exact hrl
                  have h2 : r < c0.length := by rw [Hcl.out]; exact hrl
                  rw [take_succ_getD 0 o1 r (by rw [Ho1l.out]; exact hrl), List.append_assoc, ← Ho1.out]
                  congr 2
                  simp [List.getD, List.getElem?_zipWith, List.getElem?_eq_getElem h1, List.getElem?_eq_getElem h2]
                have hxl : (o0 ++ o1.take r).length < 140737488355328 := by rw [List.length_append, Hol0.out, List.length_take]; omega
                have Hs := hid hs
                have Hxl := hid hxl
                have q6 : (r : Int) < 16 := by omega
                have q7 : 0 ≤ (r : Int) := by omega
                have hszd : W.heap.size ≤ wr.drew.heap.size := hsz
                clear hs hxl hY hX hI hO hC
                generalize z.getD r 0 = x at *
                generalize c0.getD r 0 = y at *
                go_wp2_with fail
                try simp only [Act.put]
                refine tkR (fun w' => w'.cell? ⟨yb, r, none⟩ = some (.int .u8 (bv x)) ∧ w'.cell? ⟨ib, r, none⟩ = some (.int .u8 (bv y))) [8] (by kernel_rfl) (fun c a d v w h => by cases d <;> exact h) (⟨hcy, hci⟩) (fun hPF hHeld => ?_)
                refine tkB 0 (.some 51) _ _ rfl rfl (by kernel_rfl) (by kernel_rfl) (by kernel_rfl) (by kernel_rfl) hPF rfl (fun w' => by (go_simp; try with_reducible rfl)) hHeld (fun hHeld => ?_)
                simp only [Act.put, List.setIfInBounds_toArray, List.set_cons_zero, List.set_cons_succ]
                refine tkB 1 (.some 52) _ _ rfl rfl (by kernel_rfl) (by kernel_rfl) (by kernel_rfl) (by kernel_rfl) hPF rfl (fun w' => by (go_simp; try with_reducible rfl)) hHeld (fun hHeld => ?_)
                simp only [Act.put, List.setIfInBounds_toArray, List.set_cons_zero, List.set_cons_succ]
                refine tkB 2 (.some 53) _ _ rfl rfl (by kernel_rfl) (by kernel_rfl) (by kernel_rfl) (by kernel_rfl) hPF rfl (fun w' => by (go_simp; try with_reducible rfl)) hHeld (fun hHeld => ?_)
                simp only [Act.put, List.setIfInBounds_toArray, List.set_cons_zero, List.set_cons_succ]
                refine tkA 3 (.some 54) _ _ rfl rfl (by kernel_rfl) (by kernel_rfl) (by kernel_rfl) (by kernel_rfl) (by kernel_rfl) hPF rfl (fun w' hw' => by (have h1 := hw'.1; go_simp; try with_reducible rfl)) hHeld (fun hHeld => ?_)
                simp only [Act.put, List.setIfInBounds_toArray, List.set_cons_zero, List.set_cons_succ]
                refine tkB 4 (.some 55) _ _ rfl rfl (by kernel_rfl) (by kernel_rfl) (by kernel_rfl) (by kernel_rfl) hPF rfl (fun w' => by (go_simp; try with_reducible rfl)) hHeld (fun hHeld => ?_)
                simp only [Act.put, List.setIfInBounds_toArray, List.set_cons_zero, List.set_cons_succ]
                refine tkB 5 (.some 56) _ _ rfl rfl (by kernel_rfl) (by kernel_rfl) (by kernel_rfl) (by kernel_rfl) hPF rfl (fun w' => by (go_simp; try with_reducible rfl)) hHeld (fun hHeld => ?_)
                simp only [Act.put, List.setIfInBounds_toArray, List.set_cons_zero, List.set_cons_succ]
                refine tkA 6 (.some 57) _ _ rfl rfl (by kernel_rfl) (by kernel_rfl) (by kernel_rfl) (by kernel_rfl) (by kernel_rfl) hPF rfl (fun w' hw' => by (have h1 := hw'.2; go_simp; try with_reducible rfl)) hHeld (fun hHeld => ?_)
                simp only [Act.put, List.setIfInBounds_toArray, List.set_cons_zero, List.set_cons_succ]
                refine tkB 7 (.some 58) _ _ rfl rfl (by kernel_rfl) (by kernel_rfl) (by kernel_rfl) (by kernel_rfl) hPF rfl (fun w' => by (go_simp; try with_reducible rfl)) hHeld (fun hHeld => ?_)
                simp only [Act.put, List.setIfInBounds_toArray, List.set_cons_zero, List.set_cons_succ]
                refine tkW (rs := [8]) (by kernel_rfl) (by simp) (AllK.close (o := _) rfl (by kernel_rfl) (fun KC hKC => ?_) AllK.nil)
                go_simp
                refine hKC.out _ _ (fun hHeld => ?_)
                clear hKC KC
                try simp only [Act.put, List.setIfInBounds_toArray, List.set_cons_zero, List.set_cons_succ]
                refine tkW (rs := [9]) (by kernel_rfl) (by simp) (AllK.close (o := _) rfl (by kernel_rfl) (fun KC hKC => ?_) AllK.nil)
                refine wantIt rfl (wp_push (.some 60) rfl (.tmp 51) (.tmp 59) rfl W.heap.size u10 _ rfl HO.out.drew (x ^^^ y) rfl Hxl.out hszd ?_)
                intro v' w7 hO7 hg7 _
                rw [Hs.out] at hO7
                have hC7 := HC.out.drew.grown hg7 hszd (fun j e => .inr (HO.out.lt j e).1)
                have hY7 := HY.out.drew.kept hg7 (fun e => by obtain ⟨cs, hbt⟩ := HO.out.typ _ e; exact hbt.ne HY.out (by decide) rfl)
                have hX7 := HX.out.drew.kept hg7 (fun e => by obtain ⟨cs, hbt⟩ := HO.out.typ _ e; exact hbt.ne HX.out (by decide) rfl)
                have hI7 := HI.out.drew.kept hg7 (fun e => by obtain ⟨cs, hbt⟩ := HO.out.typ _ e; exact hbt.ne HI.out (by decide) rfl)
                refine hKC.out _ _ (fun hHeld => ?_)
                clear hKC KC
                try simp only [Act.put, List.setIfInBounds_toArray, List.set_cons_zero, List.set_cons_succ]
                refine tkB 10 (.some 10) _ _ rfl rfl (by kernel_rfl) (by kernel_rfl) (by kernel_rfl) (by kernel_rfl) hPF rfl (fun w' => by (go_simp; try with_reducible rfl)) hHeld (fun hHeld => ?_)
                simp only [Act.put, List.setIfInBounds_toArray, List.set_cons_zero, List.set_cons_succ]
                refine tkD (by kernel_rfl) ?_ _
                go_wp2_with fail
                go_roundw
                case rel => exact ⟨r + 1, by omega, by go_num, hY7, hX7, hI7, hO7, hC7⟩
                case measure => (simp [intOf]; try omega)
              · obtain rfl : r = 16 := by omega
                have e : o1.take 16 = o1 := List.take_of_length_le (by rw [Ho1l.out]; exact Nat.le_refl _)
                rw [e] at HO
                have hszk : (Try.prog.info? 23).map (·.size) = some (bys ck).length := by rw [size54, bys_length, Hckl.out]
                have hXw := HX.out
                have hIw := HI.out
                have ht16 := Ht.out
                have hnn := Hnk.out
                obtain ⟨t2, ht2⟩ : ∃ t2, t + 16 = t2 := ⟨_, rfl⟩
                have q9 : (t : Int) + 16 = (t2 : Int) := by omega
                have q10 : (t2 : Int) ≤ 1000000000 := by omega
                have q11 : 0 ≤ (t2 : Int) := by omega
                have Q12 := hid (show ((16 * (j + 1) : Nat) : Int) = (t2 : Int) by omega)
                have Q13 := hid (show 16 * k - t2 < 16 * k - t by omega)
                have hI2 := hIw.setCells (bys ck) 0 (by rw [bys_length, bys_length, Hckl.out, Hcl.out]; decide)
                rw [splice_whole _ _ (by rw [bys_length, bys_length, Hckl.out, Hcl.out])] at hI2
                have hC2 := HC.out.setCells (b := ib) (.inl (by simp)) (bys ck) 0
                have hO2 := HO.out.chg ((Chg.refl wr.heap.size [ib] wr).setCells (b := ib) (.inl (by simp)) (bys ck) 0) (Nat.le_refl _) (fun j e => by have := (HO.out.lt j e).1; simp; omega)
                clear e hY hX hI hO hC ht16 hnn ht2
                go_wp2_with (first | (refine wpList_load_mid rfl 23 (.tmp 12) rfl xb 0 rfl (bys ck) _ hXw.whole under54 rfl hszk ?_) | (refine wpList_store_mid rfl 23 (.tmp 4) (.tmp 61) rfl ib 0 (bys ck).toArray rfl rfl (hIw.there 0 _ (by rw [List.size_toArray, bys_length, bys_length, Hckl.out, Hcl.out]; decide)) (by rw [size54, List.size_toArray, bys_length, Hckl.out]) (all_oneCell_toArray (bys_one _)) ?_))
                go_roundw
                case rel => exact ⟨j + 1, by omega, by rw [Q12.out], by rw [Hnp.out]; exact hI2, by rw [Hnx.out]; exact hO2, hC2⟩
                case measure => (simp only [intOf, Int.toNat_natCast]; exact Q13.out)
      · obtain rfl : j = k := by omega
        obtain rfl : t = n := by omega
        have hout : openF (dec rk) iv b = (unpadF o0).map fun m => o0.take m := by
          unfold openF
          rw [if_neg (by rw [Hn.out]; omega), Hn.out, Hk.out, Ho0.out]
        obtain ⟨po, co, rfl, hco, hro⟩ := hO.row
        obtain ⟨L, hL⟩ : ∃ L, o0.length = L := ⟨_, rfl⟩
        rw [hL] at hco ⊢
        have hLn : L = t := by rw [← hL, hol]; exact ht
        have hL9 : L ≤ 140737488355328 := by omega
        have hBf := hBw.trans (hC.below (M := w.heap.size) hBs (by simp; rw [Hib.out]; exact Nat.le_refl _))
        have Hout := hid hout
        have Hro := hid hro
        have HL := hid hL
        clear hout hro hO hL hB hC hc0 ho0 hcl hol hnu hLn ht
        go_wp2_with fail
        refine (unpadded_any wr po L co o0 Hro.out HL.out hL9).mono ?_
        rintro e w2 ⟨rfl, rfl⟩
        cases hu : unpadF o0 with
        | none =>
          have hV : unpadI o0 = -1 := by unfold unpadI; rw [hu]
          rw [hV]
          have hN0 : openF (dec rk) iv b = none := by rw [Hout.out, hu]; rfl
          have HN0 := hid hN0
          clear hN0 hu hV
          go_wp2_with fail
          go_ret2
          rw [Hrk.out, HN0.out]
          exact ⟨_, rfl, hBf, rfl⟩
        | some m2 =>
          have hV : unpadI o0 = (m2 : Int) := by unfold unpadI; rw [hu]
          rw [hV]
          have hmL : m2 ≤ L := by rw [← HL.out]; exact unpadF_le hu
          have hN0 : openF (dec rk) iv b = some (o0.take m2) := by rw [Hout.out, hu]; rfl
          have HN0 := hid hN0
          have q1 : (m2 : Int) ≤ (co : Int) := by omega
          have q2 : 0 ≤ (m2 : Int) := by omega
          have htl : (o0.take m2).length = m2 := by rw [List.length_take, HL.out]; omega
          have Htl := hid htl
          clear hN0 hu hV htl
          go_wp2_with fail
          go_ret2
          rw [Hrk.out, HN0.out]
          exact ⟨_, rfl, hBf, po, co, by rw [Htl.out]; rfl, Hro.out.take m2⟩
  · have h16' : ¬ r0 = 0 := by omega
    have hF : openF (dec (rkOf m key)) iv b = none := by unfold openF; rw [if_pos (by rw [hn]; exact h16)]
    have hBe : Below w.heap.size w (w.alloc (.cells (bys iv).toArray tA16)) := (Below.refl _ w).alloc (Nat.le_refl _) _
    rw [hF]
    clear hF hb hn hr0 hkr hkl
    go_enter Try.func24, Try.ntmps24
    go_wp2_with fail
    go_ret2
    exact ⟨_, rfl, hBe, rfl⟩
end Go.Proofs.Ytlgeebnmonmdaaa
