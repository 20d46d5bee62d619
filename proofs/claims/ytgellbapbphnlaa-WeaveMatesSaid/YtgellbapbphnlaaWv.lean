/- weave: woven, over texts in counter mode -/
import Derived.Test.YtgellbapbphnlaaXd
namespace Go.Proofs.Ytgellbapbphnlaa
open Go.RowKit

def blkC (x : CtrV) (n : Nat) : List UInt8 := enc x.rk (cnt x.iv n)
def ksC (x : CtrV) : Nat → UInt8 := ksb (enc x.rk) x.iv
theorem blkC_len {w : World} {x : CtrV} (h : CtrOk w x) (n : Nat) : (blkC x n).length = 16 := by unfold blkC enc; exact encTo_len _ _ _ _ h.rounds (cnt_len _ _)
theorem blkC_ks (x : CtrV) (a j : Nat) (h : j < 16) : (blkC x a).getD j 0 = ksC x (16 * a + j) := by
  unfold ksC ksb blkC
  rw [show (16 * a + j) / 16 = a by omega, show (16 * a + j) % 16 = j by omega]
theorem ctrc_one (x : CtrV) : ∀ v ∈ ctrc x, v.oneCell' = true := by
  intro v hv
  unfold ctrc at hv
  simp only [List.mem_append, List.mem_singleton] at hv
  rcases hv with (rfl | hv) | rfl
  · rfl
  · exact bys_one _ v hv
  · rfl
/-- What of text k is done, of the first d threads. -/
def CW (cs : List CtrV) (T : List (Nat × Nat)) (d k : Nat) : List UInt8 := match cs[k]? with | some x => xf (ksC x) (x.b.take (16 * cntT T d k)) | none => []
def lens (cs : List CtrV) : List Nat := cs.map fun x => x.b.length
theorem lens_get (cs : List CtrV) (k : Nat) (h : k < cs.length) : (lens cs).getD k 0 = cs[k].b.length := by simp [lens, List.getD, h]
theorem CW_zero (cs : List CtrV) (T : List (Nat × Nat)) (k : Nat) : CW cs T 0 k = [] := by
  unfold CW
  split
  · rw [cntT_zero, Nat.mul_zero, List.take_zero]; rfl
  · rfl
theorem CW_next (cs : List CtrV) (T : List (Nat × Nat)) (d : Nat) (hd : d < T.length) (t a : Nat) (hT : T[d] = (t, a)) (ha : a = cntT T d t) (ht : t < cs.length) (blk : List UInt8) (hl : blk.length = 16) (hb : ∀ j, j < 16 → blk.getD j 0 = ksC cs[t] (16 * a + j)) (hle : 16 * a ≤ cs[t].b.length) (k : Nat) :
    (if k = t then CW cs T d t ++ List.zipWith (· ^^^ ·) (cs[t].b.drop (16 * a)) blk else CW cs T d k) = CW cs T (d + 1) k := by
  have h1 := cntT_succ T d k hd
  rw [hT] at h1
  by_cases e : k = t
  · subst e
    rw [if_pos rfl]
    unfold CW
    rw [h1, List.getElem?_eq_getElem ht]
    simp only [if_true]
    rw [← ha]
    exact xf_block _ _ _ 16 a hl hb hle
  · rw [if_neg e]
    unfold CW
    rw [h1, if_neg (by simpa using Ne.symm e), Nat.add_zero]
theorem CW_all (cs : List CtrV) (n k : Nat) (hn : cs.length = n) (hk : k < n) : CW cs (thrAt 16 (lens cs) n) (thrAt 16 (lens cs) n).length k = xf (ksC (cs[k]'(by omega))) (cs[k]'(by omega)).b := by
  have h : k < cs.length := by omega
  unfold CW
  rw [List.getElem?_eq_getElem h]
  simp only
  rw [cntT_all 16 (by decide) (lens cs) n k hk _ (lens_get cs k h).symm]
theorem CW_len (cs : List CtrV) (T : List (Nat × Nat)) (d k m : Nat) (h : ∀ k (h : k < cs.length), cs[k].b.length ≤ m) : (CW cs T d k).length ≤ m := by
  unfold CW
  split
  · rename_i x hx
    rw [xf_len, List.length_take]
    obtain ⟨hk, rfl⟩ := List.getElem?_eq_some_iff.1 hx
    have := h k hk
    omega
  · simp
structure WJ (w w' : World) (g n : Nat) (cs : List CtrV) (T : List (Nat × Nat)) (s d : Nat) (vs : List Value) (vr : Value) : Prop where
  hd : d ≤ T.length
  hs : d = min (s * 8) T.length
  hs2 : s * 8 < T.length + 8
  hg : Blk w' g vs tBytes
  hn : vs.length = n
  hr : RowsI w.heap.size w' vs (CW cs T d)
  hB : Below w.heap.size w w'
  hv : ∃ pr m cr, vr = .slice pr m cr ∧ m = T.length - d ∧ m ≤ cr ∧ (0 < m → ∃ gT o rest, pr = some ⟨gT, o, none⟩ ∧ o = 2 * d ∧ Blk w' gT (pairsc T ++ rest) tThr)
  hgw : w.heap.size ≤ g
def blkAt (cs : List CtrV) (p : Nat × Nat) : List UInt8 := match cs[p.1]? with | some x => blkC x p.2 | none => []
/-- A block made ready. -/
def MadeAt (w : World) (l : List UInt8) (v : Value) : Prop := ∃ g, v = .slice (some ⟨g, 0, none⟩) 16 16 ∧ Blk w g (bys l) tA16
theorem infoRows : (Try.prog.info? tBytes).map (fun i => (i.zero, i.size, i.bytes)) = some (some (.slice none 0 0), 1, 24) := by kernel_rfl
theorem underRows : Try.prog.underlying tRows = some (.slice tBytes) := by kernel_rfl
theorem sizeThr : (Try.prog.info? tThr).map (·.size) = some 2 := by kernel_rfl
theorem sizeX : (Try.prog.info? tCtr).map (·.size) = some 18 := by kernel_rfl
theorem underX : Try.prog.underlying tCtr = Try.prog.underlying tCtr := rfl
theorem made_rows (n : Nat) : madeCells #[.slice none 0 0] n = (List.replicate n (.slice none 0 0)).toArray := by
  apply Array.ext_getElem?
  intro i
  simp only [madeCells]
  by_cases h : i < n
  · simp [h, Nat.mod_one]
  · simp [h]

set_option maxRecDepth 100000 in
set_option maxHeartbeats 8000000 in
theorem woven_any (w : World) (pa : Option Addr) (cs : List CtrV) (n cap : Nat) (hl : CtrsAt w pa cs) (hn : cs.length = n) (h9 : n ≤ 100) (hm : ∀ k (h : k < cs.length), cs[k].b.length ≤ 1000) :
    Calls Try.prog 41 #[.slice pa n cap, .func (.func 42) #[] #[], .int .i64 16, .int .i64 8, .func (.func 43) #[] #[]] w fun e w' => ∃ g vs, e = .returned (.tuple #[.slice (some ⟨g, 0, none⟩) n n, .int .i64 (stepsF 16 8 (lens cs))]) ∧ w.heap.size ≤ g ∧ Blk w' g vs tBytes ∧ vs.length = n ∧
      RowsI w.heap.size w' vs (fun k => match cs[k]? with | some x => xf (ksC x) x.b | none => []) ∧ Below w.heap.size w w' := by
  obtain ⟨i0, hi0, hz0, hs0, hb0⟩ := info_parts infoInt
  obtain ⟨i1, hi1, hz1, hs1, hb1⟩ := info_parts infoRows
  have Hi0 := hid hi0
  have Hz0 := hid hz0
  have Hs0 := hid hs0
  have Hb0 := hid hb0
  have Hi1 := hid hi1
  have Hz1 := hid hz1
  have Hs1 := hid hs1
  have Hb1 := hid hb1
  have Hn := hid hn
  have HM := hid hm
  clear hi0 hz0 hs0 hb0 hi1 hz1 hs1 hb1 hn hm
  have hmk := run_make_row' (P := Try.prog) (w := w) 27 33 (.slice none 0 0) 24 underRows infoRows rfl .i64 .i64 n (by omega) (by omega)
  rw [made_rows] at hmk
  obtain ⟨g, hgw⟩ : ∃ g, w.heap.size = g := ⟨_, rfl⟩
  have hln : (lens cs).length = n := by simp [lens, Hn.out]
  have hlm : ∀ k, k < n → (lens cs).getD k 0 ≤ 1000 := fun k hk => by rw [lens_get cs k (by rw [Hn.out]; exact hk)]; exact HM.out k _
  have hbl : blocksF 16 (lens cs) ≤ 1000000 := by
    have := blocksF_le 16 1000 (by decide) (lens cs) (fun k hk => hlm k (by rw [← hln]; exact hk))
    rw [hln] at this
    have h3 : n * (1000 + 16) ≤ 100 * (1000 + 16) := Nat.mul_le_mul_right _ h9
    omega
  have hTat := fun d (hd : d < (thrAt 16 (lens cs) n).length) => thrAt_at 16 (by decide) (lens cs) n d hd
  have hTl := thrAt_len 16 (lens cs) n (by rw [hln]; omega)
  rw [List.take_of_length_le (by rw [hln]; omega)] at hTl
  have hfin := fun k hk => CW_all cs n k Hn.out hk
  have Hthr := hid (fun w pl cl hil => threads_any w pl (lens cs) n cl 16 hil hln h9 hlm (by decide) (by decide) hbl)
  obtain ⟨T, hT⟩ : ∃ T, thrAt 16 (lens cs) n = T := ⟨_, rfl⟩
  simp only [hT] at Hthr
  rw [hT] at hTat hTl
  simp only [hT] at hfin
  have HTat := hid hTat
  have HTl := hid hTl
  have Hfin := hid hfin
  have Hln := hid hln
  have hT6 : T.length ≤ 1000000 := by rw [hTl]; exact hbl
  have Hgw := hid hgw
  clear hln hlm hbl hTat hTl hfin hT hgw
  go_enter Try.func41, Try.ntmps41
  go_wp2_with fail
  obtain ⟨J, hJe⟩ : ∃ J : Act → World → Prop, (fun a' w' => ∃ (s d : Nat) (vs : List Value) (vr : Value), a' = { tmps := #[.slice pa n cap, .func (.func 42) #[] #[], .int .i64 16, .int .i64 8, .func (.func 43) #[] #[], undef, undef, undef, undef, undef, .slice none 0 0, .int .i64 0, .slice (some ⟨g, 0, none⟩) n n, sl a' 13, sl a' 14, sl a' 15, vr, .int .i64 s, sl a' 18, sl a' 19, sl a' 20, sl a' 21, sl a' 22, sl a' 23, sl a' 24, sl a' 25, sl a' 26, sl a' 27, sl a' 28, sl a' 29, sl a' 30, sl a' 31, sl a' 32, sl a' 33, sl a' 34, sl a' 35, sl a' 36, sl a' 37, sl a' 38, sl a' 39, sl a' 40, sl a' 41, sl a' 42, sl a' 43, sl a' 44, sl a' 45, sl a' 46, sl a' 47, sl a' 48, sl a' 49, sl a' 50, sl a' 51, sl a' 52, sl a' 53, sl a' 54, sl a' 55, sl a' 56, sl a' 57, sl a' 58, sl a' 59, sl a' 60, sl a' 61, sl a' 62, sl a' 63, sl a' 64, sl a' 65, sl a' 66, sl a' 67, sl a' 68, sl a' 69, sl a' 70, sl a' 71, sl a' 72, sl a' 73, sl a' 74, sl a' 75, sl a' 76, sl a' 77, sl a' 78, sl a' 79, sl a' 80, sl a' 81, sl a' 82, sl a' 83, sl a' 84, sl a' 85, sl a' 86, sl a' 87, sl a' 88, sl a' 89, sl a' 90, sl a' 91, sl a' 92, sl a' 93, sl a' 94, sl a' 95, sl a' 96, sl a' 97, sl a' 98, sl a' 99, sl a' 100, sl a' 101, sl a' 102, sl a' 103, sl a' 104, sl a' 105, sl a' 106, sl a' 107, sl a' 108, sl a' 109, sl a' 110, sl a' 111, sl a' 112, sl a' 113, sl a' 114], defers := [] } ∧ WJ w w' g n cs T s d vs vr) = J := ⟨_, rfl⟩
  have HJe := hid hJe
  clear hJe
  refine wp_scope_pre 0 J (slotLen 16) rfl ?_ ?_
  rotate_left
  ·
    intro hpass
    have Hpass := hid hpass
    clear hpass
    go_wp2_with fail
    have hb0 := Blk.new w (List.replicate n (.slice none 0 0)) tBytes
    have hB0 : Below w.heap.size w (w.alloc (.cells (List.replicate n (Value.slice none 0 0)).toArray tBytes)) := (Below.refl _ _).alloc (Nat.le_refl _) _
    change Code.wp _ _ _ _ (w.alloc (.cells (List.replicate n (Value.slice none 0 0)).toArray tBytes))
    have hl0 := hl.below hB0
    generalize w.alloc (.cells (List.replicate n (Value.slice none 0 0)).toArray tBytes) = w0 at *
    have hgw := Hgw.out
    rw [hgw] at hb0 ⊢
    clear hmk
    have hl0s := hB0.size
    rw [hgw] at hl0s
    go_loopw [13, 29] (fun v i wr => ∃ k : Nat, k ≤ n ∧ i = .int .i64 k ∧ wr.ownsRow w0.heap.size 3 1 v k (intsN (lens (cs.take k))) ∧ Below w0.heap.size w0 wr) (fun _ i _ => n - (intOf i).toNat)
    case atStart => exact ⟨0, by omega, rfl, World.ownsRow_nil _ _ _ _, Below.refl _ _⟩
    case round =>
      obtain ⟨k, hk, rfl, hown, hB⟩ := hrel
      by_cases hlt : k < n
      · have hkl : k < cs.length := by rw [Hn.out]; exact hlt
        have hh := hl0.below hB k hkl
        have htk : lens (cs.take (k + 1)) = lens (cs.take k) ++ [(cs[k]).b.length] := by
          unfold lens
          rw [List.take_add_one, List.getElem?_eq_getElem hkl, List.map_append]
          rfl
        generalize hx : cs[k] = x at hh htk
        obtain ⟨tk, b, o, rfl, hb, hrg⟩ := hh
        have hcl := ctrc_len tk
        have Hown := hid hown
        have Htk := hid htk
        have Tk := hid tk
        have q1 : (k : Int) < (n : Int) := by omega
        have hsW := hB.size
        have hz1 := Blk.new wr ctrc0 tCtr
        have hB1 : Below wr.heap.size wr (wr.alloc (.cells (ctrc0).toArray tCtr)) := (Below.refl _ _).alloc (Nat.le_refl _) _
        have hz2 := hz1.setCells (ctrc x) 0 (by rw [hcl]; decide)
        rw [splice_whole _ _ (by rw [hcl]; rfl)] at hz2
        have hB2 : Below wr.heap.size wr ((wr.alloc (.cells (ctrc0).toArray tCtr)).setCells wr.heap.size 0 (ctrc x)) := hB1.trans (((Chg.refl wr.heap.size [] _).setCells (b := wr.heap.size) (.inr (Nat.le_refl _)) (ctrc x) 0).below (Nat.le_refl _) (by simp))
        have hszX : (Try.prog.info? tCtr).map (·.size) = some (ctrc x).length := by rw [sizeX, hcl]
        have Hcl := hid hcl
        clear hx htk tk hown hcl
        go_wp2_with (first | (refine wpList_load_mid rfl tCtr (.tmp 31) rfl b (o + k * 18) rfl (ctrc x) _ hrg Try.underlying45 rfl hszX ?_) | (refine wpList_store_mid rfl tCtr (.tmp 15) (.tmp 32) rfl wr.heap.size 0 (ctrc x).toArray rfl rfl (hz1.there 0 _ (by rw [List.size_toArray, Hcl.out]; decide)) (by rw [sizeX, List.size_toArray, Hcl.out]) (all_oneCell_toArray (ctrc_one x)) ?_) | (refine wpList_load_mid rfl tCtr (.tmp 15) rfl wr.heap.size 0 rfl (ctrc x) _ hz2.whole Try.underlying45 rfl hszX ?_))
        change Calls _ _ _ ((wr.alloc (.cells (ctrc0).toArray tCtr)).setCells wr.heap.size 0 (ctrc x)) _
        have hown2 := owns_below Hown.out hB2
        have hBw := hB.trans (hB2.mono hB.size)
        generalize (wr.alloc (.cells (ctrc0).toArray tCtr)).setCells wr.heap.size 0 (ctrc x) = w2 at *
        have hs2 := hB2.size
        clear hz1 hB1
        refine (ctr1_any w2 _ x Tk.out).mono ?_
        rintro e w3 ⟨rfl, hB3⟩
        have hown3 := owns_below hown2 hB3
        have hBx := hBw.trans (hB3.mono hBw.size)
        obtain ⟨pk, hpk⟩ : ∃ p, x.pa = p := ⟨_, rfl⟩
        obtain ⟨bk, hbk⟩ : ∃ p, x.b.length = p := ⟨_, rfl⟩
        obtain ⟨ck, hck⟩ : ∃ p, x.cap = p := ⟨_, rfl⟩
        have htk2 := Htk.out
        rw [hbk] at htk2
        rw [hpk, hbk, hck]
        have Htk2 := hid htk2
        have Hown3 := hid hown3
        have hsX := hBx.size
        have hs3 := hB3.size
        clear htk2 hown3 hown2 hpk hbk hck hB2 hB3 hz2
        go_wp2_with (refine wpList_append_own _ rfl (.tmp 33) (.tmp 38) 31 rfl w0.heap.size 3 i0 (.int .i64 0) 1 8 underInts Hi0.out Hz0.out Hs0.out Hb0.out rfl (by decide) _ k _ rfl (Hown3.out.alloc _) ⟨w3.heap.size, 0, none⟩ 1 1 (intsN [bk]) rfl rfl (fun a u hu => by rw [Addr.add_mid]; exact (Blk.new w3 (intsN [bk]) 3).whole a u hu) (intsN_one _) (by unfold maxLen; omega) (by omega) (by simp; omega) ?_; intro v' w1 hown1 hgrow _; have hB1 := (hBx.alloc hBx.size (.cells (intsN [bk]).toArray 3)).grown hgrow (by simp; omega) (fun j e => by { have := (Hown3.out.lt j e).1; omega }))
        go_roundw
        case rel =>
          refine ⟨k + 1, by omega, by go_num, ?_, hB1⟩
          rw [Htk2.out]
          simpa [intsN] using hown1
        case measure => (simp [intOf]; try omega)
      · have hke : k = n := by omega
        have q1 : ¬ ((k : Int) < (n : Int)) := by omega
        rw [hke, List.take_of_length_le (by rw [Hn.out]; omega)] at hown
        clear hke
        have hln := Hln.out
        have hown2 : wr.ownsRow w0.heap.size 3 1 u13 (lens cs).length (intsN (lens cs)) := by rw [hln]; exact hown
        obtain ⟨pl, cl, rfl, hcl, hil⟩ := ints_row hown2
        rw [hln] at *
        have hbw := hb0.below hB hb0.lt
        have hlw := hl0.below hB
        have hBw := hB0.trans (hB.mono (by rw [hgw]; omega))
        clear hown hown2 hln hcl q1 hk hB hb0 hl0
        go_wp2_with fail
        refine (Hthr.out wr pl cl hil).mono ?_
        rintro e w1 ⟨vt, rfl, hownT, hB1⟩
        have hb1 := hbw.below hB1 hbw.lt
        have hl1 := hlw.below hB1
        have hBw1 := hBw.trans (hB1.mono hBw.size)
        have hJ0 : WJ w w1 g n cs T 0 0 (List.replicate n (.slice none 0 0)) vt := by
          refine ⟨Nat.zero_le _, by omega, by omega, hb1, by simp, (RowsI.zero _ _ _).congr (fun k _ => (CW_zero cs T k).symm), hBw1, ?_, by omega⟩
          rcases Nat.eq_zero_or_pos T.length with h0 | h0
          · rw [h0] at hownT
            obtain ⟨pz, cz, rfl⟩ := owns_zero hownT
            exact ⟨pz, 0, cz, rfl, by omega, by omega, fun h => by omega⟩
          · obtain ⟨gT, cT, rest, rfl, hcT, hgT, hbT⟩ := owns_blk hownT h0
            exact ⟨_, T.length, cT, rfl, by omega, hcT, fun _ => ⟨gT, 0, rest, rfl, by omega, hbT⟩⟩
        have HJ0 := hid hJ0
        clear hownT hJ0 hb1 hl1 hBw1 hB1 hbw hlw hBw hil hlt
        go_wp2_with fail
        go_step3
        rename_i hK
        refine hK _ _ ?_
        exact Hpass.out _ _ (by rw [← HJe.out]; exact ⟨0, 0, _, _, rfl, HJ0.out⟩)
  intro a' wj M hj hM
  rw [← HJe.out] at hj
  obtain ⟨s, d, vs, vr, ha, hJ⟩ := hj
  generalize sl a' = u at ha
  subst ha
  have HM2 := hid hM
  clear hM
  obtain ⟨pr, m, cr, rfl, hm, hmc, hpr⟩ := hJ.hv
  have Hm := hid hm
  have HJ := hid hJ
  have hdT := hJ.hd
  clear hm hJ
  by_cases h0 : m = 0
  · subst h0
    have hd : d = T.length := by have := Hm.out; omega
    have hst : stepsF 16 8 (lens cs) = s := by
      unfold stepsF
      rw [← HTl.out]
      have h1 := HJ.out.hs2
      have h2 := HJ.out.hs
      exact ceil_at (by omega) h1
    have Hst := hid hst
    have hr := HJ.out.hr
    rw [hd] at hr
    have hr2 := hr.congr (C' := fun k => match cs[k]? with | some x => xf (ksC x) x.b | none => []) (fun k hk => by
      rw [HJ.out.hn] at hk
      have hkc : k < cs.length := by rw [Hn.out]; exact hk
      simp only [List.getElem?_eq_getElem hkc]
      exact Hfin.out k hk)
    clear hst hd hr hpr
    go_wp2_with fail
    simp only [Exit.jump]
    go_ret2
    exact ⟨g, vs, by rw [Hst.out]; rfl, HJ.out.hgw, HJ.out.hg, HJ.out.hn, hr2, HJ.out.hB⟩
  · have hdl : d < T.length := by have := Hm.out; omega
    obtain ⟨gT, o, restT, rfl, ho, hbT⟩ := hpr (by omega)
    obtain ⟨p, hp⟩ : ∃ p, min 8 m = p := ⟨_, rfl⟩
    have hpm : p ≤ m := by omega
    have hp0 : 0 < p := by omega
    have hp9 : p ≤ 8 := by omega
    have b0 : ((m : Int) == 0) = false := by rw [beq_eq_false_iff_ne]; omega
    have hp' : min (8 : Int) (m : Int) = (p : Int) := by omega
    have Hp := hid hp
    have Ho := hid ho
    have hdp : d + p ≤ T.length := by have := Hm.out; omega
    have hlj := hl.below HJ.out.hB
    have hBj := HJ.out.hB
    have qpm : (p : Int) ≤ (m : Int) := by omega
    have qmc : (m : Int) ≤ (cr : Int) := by omega
    clear hp ho hpr hmk
    have hM2 : M = m := by have h1 := HM2.out; rw [← h1]; rfl
    clear HM2
    have hgj := HJ.out.hg.lt
    have Hthr := hid (fun k (hk : k < p) => HTat.out (d + k) (by omega))
    go_wp2_with (refine wpList_min rfl (.tmp 50) (.tmp 52) 3 rfl 8 (m : Int) (p : Int) rfl rfl hp' ?_)
    all_goals
      go_loopw [19, 61] (fun v i wr => ∃ (k : Nat) (ms : List Value), k ≤ p ∧ i = .int .i64 k ∧ ms.length = k ∧ (∀ j, j < k → MadeAt wr (blkAt cs (T.getD (d + j) (0, 0))) (ms.getD j undef)) ∧ wr.ownsRow wj.heap.size tBytes 1 v k ms ∧ Below wj.heap.size wj wr) (fun _ i _ => p - (intOf i).toNat)
      case atStart => exact ⟨0, [], by omega, rfl, rfl, fun j h => by omega, World.ownsRow_nil _ _ _ _, Below.refl _ _⟩
      case round =>
        obtain ⟨k, ms, hk, rfl, hml, hma, hown, hB⟩ := hrel
        by_cases hlt : k < p
        · have q1 : (k : Int) < (p : Int) := by omega
          obtain ⟨ht1, ht2, ht3⟩ := Hthr.out k hlt
          have hdk : d + k < T.length := by omega
          have htd : T.getD (d + k) (0, 0) = T[d + k] := by simp [List.getD, hdk]
          generalize hta : T[d + k] = ta at ht1 ht2 ht3 htd
          obtain ⟨t, a⟩ := ta
          simp only at ht1 ht2 ht3
          have htc : t < cs.length := by rw [Hn.out]; exact ht1
          rw [lens_get cs t htc] at ht3
          have hh := hlj.below hB t htc
          have hxm := HM.out t htc
          have hbe : blkAt cs (t, a) = blkC cs[t] a := by unfold blkAt; simp [htc]
          generalize hx : cs[t] = x at hh ht3 hxm hbe
          obtain ⟨tk, b, ob, rfl, hb, hrg⟩ := hh
          have hbT2 := hbT.below hB hbT.lt
          have hrT := thr_range hbT2 (d + k) hdk
          rw [hta] at hrT
          rw [show 2 * (d + k) = o + k * 2 by have := Ho.out; omega] at hrT
          have Hx := hid hx
          have Hta := hid hta
          have Htd := hid htd
          have Hbe := hid hbe
          have Tk := hid tk
          have Hown := hid hown
          have Hma := hid hma
          have Hml := hid hml
          have hcl := ctrc_len tk
          have hszX : (Try.prog.info? tCtr).map (·.size) = some (ctrc x).length := by rw [sizeX, hcl]
          have ha9 : a < 1000000 := by omega
          have hz2 := Blk.new wr [.int .i64 (t : Int), .int .i64 (a : Int)] tThr
          have hBa : Below wr.heap.size wr (wr.alloc (.cells ([.int .i64 (t : Int), .int .i64 (a : Int)] : List Value).toArray tThr)) := (Below.refl _ _).alloc (Nat.le_refl _) _
          clear hx hta htd hbe tk hown hma hml hcl ht2 hbT2
          go_upto_region 18 with (first | (refine wpList_load_mid rfl 125 (.tmp 63) rfl gT (o + k * 2) rfl [.int .i64 (t : Int), .int .i64 (a : Int)] _ hrT Try.underlying125 rfl sizeThr ?_))
          change Code.wp _ _ _ _ (wr.alloc (.cells ([.int .i64 (t : Int), .int .i64 (a : Int)] : List Value).toArray tThr))
          obtain ⟨zb, hzb⟩ : ∃ zb, wr.heap.size = zb := ⟨_, rfl⟩
          generalize wr.alloc (.cells ([.int .i64 (t : Int), .int .i64 (a : Int)] : List Value).toArray tThr) = W at *
          rw [hzb] at hz2 ⊢
          have Hzb := hid hzb
          clear hzb hrT
          have hok := Tk.out.below hBa
          have hrW := rangeAt_below hrg hBa hb
          have hbW := Nat.lt_of_lt_of_le hb hBa.size
          have Hrg := hid (fun w' (h : Below W.heap.size W w') => rangeAt_below hrW h hbW)
          have C0 := hid (fun w' (h : Below W.heap.size W w') => (hz2.below h hz2.lt).cell 0)
          have C1 := hid (fun w' (h : Below W.heap.size W w') => (hz2.below h hz2.lt).cell 1)
          have S0 : Below W.heap.size W W.drew := (Below.refl _ _).drew
          clear hrg hrW
          try simp only [Act.put]
          refine tkR (fun w' => Below W.heap.size W w') [11] (by kernel_rfl) (fun c a d v w h => by cases d <;> exact h) (S0) (fun hPF hHeld => ?_)
          refine tkB 0 (.some 65) _ _ rfl rfl (by kernel_rfl) (by kernel_rfl) (by kernel_rfl) (by kernel_rfl) hPF rfl (fun w' => by (go_simp; try with_reducible rfl)) hHeld (fun hHeld => ?_)
          simp only [Act.put, List.setIfInBounds_toArray, List.set_cons_zero, List.set_cons_succ]
          refine tkB 1 (.some 66) _ _ rfl rfl (by kernel_rfl) (by kernel_rfl) (by kernel_rfl) (by kernel_rfl) hPF rfl (fun w' => by (go_simp; try with_reducible rfl)) hHeld (fun hHeld => ?_)
          simp only [Act.put, List.setIfInBounds_toArray, List.set_cons_zero, List.set_cons_succ]
          refine tkB 2 (.some 67) _ _ rfl rfl (by kernel_rfl) (by kernel_rfl) (by kernel_rfl) (by kernel_rfl) hPF rfl (fun w' => by (go_simp; try with_reducible rfl)) hHeld (fun hHeld => ?_)
          simp only [Act.put, List.setIfInBounds_toArray, List.set_cons_zero, List.set_cons_succ]
          refine tkB 3 (.some 68) _ _ rfl rfl (by kernel_rfl) (by kernel_rfl) (by kernel_rfl) (by kernel_rfl) hPF rfl (fun w' => by (go_simp; try with_reducible rfl)) hHeld (fun hHeld => ?_)
          simp only [Act.put, List.setIfInBounds_toArray, List.set_cons_zero, List.set_cons_succ]
          refine tkA 4 (.some 69) _ _ rfl rfl (by kernel_rfl) (by kernel_rfl) (by kernel_rfl) (by kernel_rfl) (by kernel_rfl) hPF rfl (fun w' hw' => by (have h1 := C0.out _ hw'; go_simp; try with_reducible rfl)) hHeld (fun hHeld => ?_)
          simp only [Act.put, List.setIfInBounds_toArray, List.set_cons_zero, List.set_cons_succ]
          refine tkB 5 (.some 70) _ _ rfl rfl (by kernel_rfl) (by kernel_rfl) (by kernel_rfl) (by kernel_rfl) hPF rfl (fun w' => by (go_simp; try with_reducible rfl)) hHeld (fun hHeld => ?_)
          simp only [Act.put, List.setIfInBounds_toArray, List.set_cons_zero, List.set_cons_succ]
          refine tkL 6 (.some 71) _ rfl rfl 45 (.tmp 70) rfl b (ob + t * 18) (ctrc x) _ (by kernel_rfl) (by kernel_rfl) (by kernel_rfl) (by kernel_rfl) (by kernel_rfl) hPF rfl rfl (fun w' hw' => Hrg.out _ hw') Try.underlying45 rfl hszX hHeld (fun hHeld => ?_)
          simp only [Act.put, List.setIfInBounds_toArray, List.set_cons_zero, List.set_cons_succ]
          refine tkB 7 (.some 72) _ _ rfl rfl (by kernel_rfl) (by kernel_rfl) (by kernel_rfl) (by kernel_rfl) hPF rfl (fun w' => by (go_simp; try with_reducible rfl)) hHeld (fun hHeld => ?_)
          simp only [Act.put, List.setIfInBounds_toArray, List.set_cons_zero, List.set_cons_succ]
          refine tkA 8 (.some 73) _ _ rfl rfl (by kernel_rfl) (by kernel_rfl) (by kernel_rfl) (by kernel_rfl) (by kernel_rfl) hPF rfl (fun w' hw' => by (have h1 := C1.out _ hw'; go_simp; try with_reducible rfl)) hHeld (fun hHeld => ?_)
          simp only [Act.put, List.setIfInBounds_toArray, List.set_cons_zero, List.set_cons_succ]
          have hS := hHeld (by kernel_rfl)
          refine tkW (rs := [9]) (by kernel_rfl) (by simp) (AllK.cons (o := _) rfl (fun KC hKC => ?_) AllK.nil)
          go_simp
          refine (ctr2_any _ x (hok.below hS) a ha9).mono ?_
          rintro e w9 ⟨gi, rfl, hgi, hbi, hB9⟩
          have h9 := hS.trans (hB9.mono hS.size)
          clear hB9 hgi
          refine hKC.out _ _ (h9) (fun hHeld => ?_)
          clear hKC KC
          try simp only [Act.put, List.setIfInBounds_toArray, List.set_cons_zero, List.set_cons_succ]
          have hS := hHeld (by kernel_rfl)
          refine tkW (rs := [10]) (by kernel_rfl) (by simp) (AllK.cons (o := _) rfl (fun KC hKC => ?_) AllK.nil)
          go_simp
          have h10 := h9.alloc h9.size (.cells #[.slice (some ⟨gi, 0, none⟩) 16 16] tBytes)
          refine hKC.out _ _ (h10) (fun hHeld => ?_)
          clear hKC KC
          try simp only [Act.put, List.setIfInBounds_toArray, List.set_cons_zero, List.set_cons_succ]
          refine tkW (rs := [11]) (by kernel_rfl) (by simp) (AllK.close (o := _) rfl (by kernel_rfl) (fun KC hKC => ?_) AllK.nil)
          have hBr := hBa.trans (h10.mono hBa.size)
          have hownA := owns_below Hown.out hBr
          have hbiA := hbi.alloc (.cells #[.slice (some ⟨gi, 0, none⟩) 16 16] tBytes)
          refine wantIt rfl (wp_append_own (.some 76) rfl (.tmp 65) (.tmp 75) 27 rfl wj.heap.size 33 i1 _ 1 24 underRows Hi1.out Hz1.out Hs1.out Hb1.out rfl (by decide) u19 k _ rfl hownA ⟨w9.heap.size, 0, none⟩ 1 1 [.slice (some ⟨gi, 0, none⟩) 16 16] rfl rfl (fun a u hu => by rw [Addr.add_mid]; exact (Blk.new w9 [.slice (some ⟨gi, 0, none⟩) 16 16] tBytes).whole a u hu) (by intro v hv; obtain rfl := List.mem_singleton.1 hv; rfl) (by unfold maxLen; omega) (by omega) (Nat.le_trans hB.size hBr.size) ?_)
          intro v10 w10 hown10 hgrow10 _
          have hBw := (hB.trans (hBr.mono hB.size)).grown hgrow10 (Nat.le_trans hB.size hBr.size) (fun j e => (World.ownsRow.lt hownA j e).1)
          have hnew : MadeAt w10 (blkAt cs (T.getD (d + k) (0, 0))) (.slice (some ⟨gi, 0, none⟩) 16 16) := ⟨gi, rfl, by
            rw [Htd.out, Hbe.out]
            exact hbiA.kept hgrow10 (fun e => by obtain ⟨cs2, h2⟩ := owns_typ hownA gi e; exact absurd rfl (hbiA.ne h2 (by decide)))⟩
          have hold : ∀ j, j < k → MadeAt w10 (blkAt cs (T.getD (d + j) (0, 0))) (ms.getD j undef) := fun j hj => by
            obtain ⟨g2, e2, h2⟩ := Hma.out j hj
            have h2 := h2.below hBr h2.lt
            exact ⟨g2, e2, h2.kept hgrow10 (fun e => by obtain ⟨cs2, h3⟩ := owns_typ hownA g2 e; exact absurd rfl (h2.ne h3 (by decide)))⟩
          clear hownA hbiA hgrow10
          refine hKC.out _ _ (fun hHeld => ?_)
          clear hKC KC
          try simp only [Act.put, List.setIfInBounds_toArray, List.set_cons_zero, List.set_cons_succ]
          refine tkB 12 (.some 19) _ _ rfl rfl (by kernel_rfl) (by kernel_rfl) (by kernel_rfl) (by kernel_rfl) hPF rfl (fun w' => by (go_simp; try with_reducible rfl)) hHeld (fun hHeld => ?_)
          simp only [Act.put, List.setIfInBounds_toArray, List.set_cons_zero, List.set_cons_succ]
          refine tkD (by kernel_rfl) ?_ _
          clear hB hBa hok hz2
          go_wp2_with fail
          go_roundw
          case rel =>
            refine ⟨k + 1, ms ++ [.slice (some ⟨gi, 0, none⟩) 16 16], by omega, by go_num, by rw [List.length_append, Hml.out]; rfl, fun j hj => ?_, hown10, hBw⟩
            by_cases hjk : j < k
            · rw [show (ms ++ [Value.slice (some ⟨gi, 0, none⟩) 16 16]).getD j undef = ms.getD j undef by simp [List.getD, List.getElem?_append_left (show j < ms.length by rw [Hml.out]; exact hjk)]]
              exact hold j hjk
            · obtain rfl : j = k := by omega
              rw [show (ms ++ [Value.slice (some ⟨gi, 0, none⟩) 16 16]).getD j undef = .slice (some ⟨gi, 0, none⟩) 16 16 by simp [List.getD, ← Hml.out]]
              exact hnew
          case measure => (simp [intOf]; try omega)
        · obtain rfl : k = p := by omega
          have q1 : ¬ ((k : Int) < (k : Int)) := by omega
          have q0 : ∀ j : Nat, j < k → (j : Int) < (k : Int) := fun j h => by omega
          obtain ⟨gm, cm, restm, rfl, hcm, hgm, hbm⟩ := owns_blk hown hp0
          have hgr := HJ.out.hg.below hB HJ.out.hg.lt
          have hbTr := hbT.below hB hbT.lt
          have hrr := HJ.out.hr.below hB
          have hBr := hBj.trans (hB.mono hBj.size)
          have hgT : gT ≠ g := fun e => by have := hgr.ne (e ▸ hbTr) (by decide); exact this rfl
          have hgmg : gm ≠ g := by omega
          have Hma := hid hma
          have Hml := hid hml
          clear hma hml hown hbT hlj hBj hlt
          go_wp2_with fail
          obtain ⟨wy, hwy⟩ : ∃ wy, wy = wr := ⟨wr, rfl⟩
          subst hwy
          go_loopw [80] (fun i wx => ∃ (i' : Nat) (vs' : List Value), i' ≤ k ∧ i = .int .i64 i' ∧ Blk wx g vs' tBytes ∧ vs'.length = n ∧ RowsI w.heap.size wx vs' (CW cs T (d + i')) ∧ KeptT g wy wx ∧ Below w.heap.size w wx) (fun i _ => k - (intOf i).toNat)
          case atStart => exact ⟨0, vs, by omega, rfl, hgr, HJ.out.hn, hrr, KeptT.refl _ _, hBr⟩
          case round =>
            obtain ⟨i', vs', hi', rfl, hgx, hvn, hrx, hK, hBx⟩ := hrel
            clear hgr hrr
            by_cases hlt : i' < k
            · have q1 := q0 i' hlt
              obtain ⟨ht1, ht2, ht3⟩ := Hthr.out i' hlt
              have hdk : d + i' < T.length := by omega
              have htd : T.getD (d + i') (0, 0) = T[d + i'] := by simp [List.getD, hdk]
              have hnx := fun t a (e : T[d + i'] = (t, a)) => CW_next cs T (d + i') hdk t a e
              generalize hta : T[d + i'] = ta at ht1 ht2 ht3 htd hnx
              obtain ⟨t, a⟩ := ta
              simp only at ht1 ht2 ht3
              have htc : t < cs.length := by rw [Hn.out]; exact ht1
              rw [lens_get cs t htc] at ht3
              have hnx := hnx t a rfl ht2 htc
              have hh := (hl.below hBx) t htc
              have hxm := HM.out t htc
              have hbe : blkAt cs (t, a) = blkC cs[t] a := by unfold blkAt; simp [htc]
              generalize hx : cs[t] = x at hh ht3 hxm hbe hnx
              obtain ⟨tk, b, ob, rfl, hb, hrg⟩ := hh
              obtain ⟨gi, hgi, hbi⟩ := Hma.out i' hlt
              rw [htd, hbe] at hbi
              have hblen := blkC_len tk a
              have hnx := hnx (blkC x a) hblen (fun j hj => blkC_ks x a j hj) (Nat.le_of_lt ht3)
              obtain ⟨Y, hY⟩ : ∃ Y, blkC x a = Y := ⟨_, rfl⟩
              rw [hY] at hbi hblen hnx
              have hbi2 := hK.block gi _ _ (fun e => by have h9 := Blk.ne (HJ.out.hg.below hB HJ.out.hg.lt) (e ▸ hbi) (by decide); exact h9 rfl) (by decide) hbi
              have hbT2 := hK.block gT _ _ hgT (by decide) hbTr
              have hbm2 := hK.block gm _ _ hgmg (by decide) hbm
              have hrT := thr_range hbT2 (d + i') hdk
              rw [hta] at hrT
              rw [show 2 * (d + i') = o + i' * 2 by have := Ho.out; omega] at hrT
              have hmi : (ms ++ restm)[i']? = some (.slice (some ⟨gi, 0, none⟩) 16 16) := by
                rw [List.getElem?_append_left (by rw [Hml.out]; exact hlt), ← hgi]
                simp [List.getD, Hml.out, hlt]
              have hvt : vs'[t]? = some (vs'.getD t undef) := by simp [List.getD, hvn, ht1]
              have hown := hrx.row t (by rw [hvn]; exact ht1)
              obtain ⟨q, hq⟩ : ∃ q, 16 * a = q := ⟨_, rfl⟩
              have qa : (16 : Int) * (a : Int) = (q : Int) := by omega
              rw [hq] at hnx ht3
              have qw : IntKind.i64.wrap (q : Int) = (q : Int) := by rw [IntKind.wrap_i64]; omega
              have qb : (q : Int) ≤ (x.b.length : Int) := by omega
              have qn : 0 ≤ (q : Int) := by omega
              have ha9 : a < 1000000 := by omega
              have hcl := ctrc_len tk
              have hszX : (Try.prog.info? tCtr).map (·.size) = some (ctrc x).length := by rw [sizeX, hcl]
              have hxc := tk.cap
              have hxrow := tk.row
              have hrow9 := sfrom_row (k := q) hxrow rfl hxc
              obtain ⟨v, hv⟩ : ∃ v, vs'.getD t undef = v := ⟨_, rfl⟩
              rw [hv] at hown hvt
              have Hv := hid hv
              have Hnx := hid hnx
              have Hx := hid hx
              have Tk := hid tk
              have Hta := hid hta
              have Hblen := hid hblen
              have Hq := hid hq
              have hz2 := Blk.new wr [.int .i64 (t : Int), .int .i64 (a : Int)] tThr
              have hBa : Below wr.heap.size wr (wr.alloc (.cells ([.int .i64 (t : Int), .int .i64 (a : Int)] : List Value).toArray tThr)) := (Below.refl _ _).alloc (Nat.le_refl _) _
              clear hv hnx hx tk hta hblen hq ht2 hY htd hbe hgi hbi hbT2 hcl hxrow
              go_upto_region 23 with (first | (refine wpList_load_mid rfl 125 (.tmp 83) rfl gT (o + i' * 2) rfl [.int .i64 (t : Int), .int .i64 (a : Int)] _ hrT Try.underlying125 rfl sizeThr ?_))
              change Code.wp _ _ _ _ (wr.alloc (.cells ([.int .i64 (t : Int), .int .i64 (a : Int)] : List Value).toArray tThr))
              obtain ⟨zb, hzb⟩ : ∃ zb, wr.heap.size = zb := ⟨_, rfl⟩
              generalize wr.alloc (.cells ([.int .i64 (t : Int), .int .i64 (a : Int)] : List Value).toArray tThr) = W at *
              rw [hzb] at hz2 ⊢
              have Hzb := hid hzb
              clear hzb hrT
              have hrW := rangeAt_below hrg hBa hb
              have hbW := Nat.lt_of_lt_of_le hb hBa.size
              have hgW := hgx.below hBa hgx.lt
              have hbiW := hbi2.below hBa hbi2.lt
              have hbmW := hbm2.below hBa hbm2.lt
              have hownW := hown.below hBa
              have hrowW := hrow9.below hBa
              have TkW := hid (Tk.out.below hBa)
              have hBxW := hBx.trans (hBa.mono hBx.size)
              have hKr : KeptT W.heap.size W W.drew := ⟨Nat.le_refl _, fun _ _ _ _ _ h => h⟩
              have Hrg := hid (fun w' (h : Below w.heap.size w w' ∧ KeptT W.heap.size W w') => show w'.rangeAt b (ob + t * 18) (ctrc x) by
                obtain ⟨_, b2, o2, e2, _, h2⟩ := (hl.below h.1) t htc
                rw [Hx.out] at h2
                cases e2; exact h2)
              have C0 := hid (fun w' (h : Below w.heap.size w w' ∧ KeptT W.heap.size W w') => (h.2.block _ _ _ (Nat.ne_of_lt hz2.lt) (by decide) hz2).cell 0)
              have C1 := hid (fun w' (h : Below w.heap.size w w' ∧ KeptT W.heap.size W w') => (h.2.block _ _ _ (Nat.ne_of_lt hz2.lt) (by decide) hz2).cell 1)
              have C7 := hid (fun w' (h : Below w.heap.size w w' ∧ KeptT W.heap.size W w') => ((h.2.block _ _ _ (Nat.ne_of_lt hgW.lt) (by decide) hgW).cell t).trans hvt)
              have C23 := hid (fun w' (h : Below w.heap.size w w' ∧ KeptT W.heap.size W w') => ((h.2.block _ _ _ (Nat.ne_of_lt hbmW.lt) (by decide) hbmW).cell i').trans hmi)
              obtain ⟨nn, hnn⟩ : ∃ nn, min (x.b.length - q) 16 = nn := ⟨_, rfl⟩
              obtain ⟨Z, hZ⟩ : ∃ Z, List.zipWith (· ^^^ ·) (x.b.drop q) Y = Z := ⟨_, rfl⟩
              have hZl : Z.length = nn := by rw [← hZ, List.length_zipWith, List.length_drop, Hblen.out]; exact hnn
              have hXl : (x.b.drop q).length = x.b.length - q := List.length_drop ..
              have Hxor := hid (fun w' (h : Below W.heap.size W w') => xor_any w' (sfrom x.pa x.cap q) (some ⟨gi, 0, none⟩) (x.b.length - q) (x.cap - q) 16 16 nn _ _ (hrowW.below h) (hbiW.below h hbiW.lt).rowAt0 hXl Hblen.out (by omega) hnn.symm)
              rw [hZ] at Hxor
              have hnx2 := Hnx.out
              rw [hZ] at hnx2
              have Hnx2 := hid hnx2
              have HZl := hid hZl
              have S0 : Below w.heap.size w W.drew ∧ KeptT W.heap.size W W.drew := ⟨hBxW.drew, hKr⟩
              obtain ⟨pk, hpk⟩ : ∃ p, x.pa = p := ⟨_, rfl⟩
              obtain ⟨bk, hbk⟩ : ∃ p, x.b.length = p := ⟨_, rfl⟩
              obtain ⟨ck, hck⟩ : ∃ p, x.cap = p := ⟨_, rfl⟩
              rw [hpk, hbk, hck] at Hxor
              rw [hbk] at qb hxm hxc
              rw [hck] at hxc
              have Hpk := hid hpk
              have Hbk := hid hbk
              have Hck := hid hck
              have Hnn := hid (show nn ≤ 16 by omega)
              clear hrg hrW hrow9 hrowW hnn hZ hZl hXl hnx2 hpk hbk hck hbiW hbmW hvt hmi Hnx
              try simp only [Act.put]
              refine tkR (fun w' => Below w.heap.size w w' ∧ KeptT W.heap.size W w') [27] (by kernel_rfl) (fun c a d v w h => by cases d <;> exact h) (S0) (fun hPF hHeld => ?_)
              refine tkB 0 (.some 85) _ _ rfl rfl (by kernel_rfl) (by kernel_rfl) (by kernel_rfl) (by kernel_rfl) hPF rfl (fun w' => by (go_simp; try with_reducible rfl)) hHeld (fun hHeld => ?_)
              simp only [Act.put, List.setIfInBounds_toArray, List.set_cons_zero, List.set_cons_succ]
              refine tkB 1 (.some 86) _ _ rfl rfl (by kernel_rfl) (by kernel_rfl) (by kernel_rfl) (by kernel_rfl) hPF rfl (fun w' => by (go_simp; try with_reducible rfl)) hHeld (fun hHeld => ?_)
              simp only [Act.put, List.setIfInBounds_toArray, List.set_cons_zero, List.set_cons_succ]
              refine tkA 2 (.some 87) _ _ rfl rfl (by kernel_rfl) (by kernel_rfl) (by kernel_rfl) (by kernel_rfl) (by kernel_rfl) hPF rfl (fun w' hw' => by (have h1 := C0.out _ hw'; go_simp; try with_reducible rfl)) hHeld (fun hHeld => ?_)
              simp only [Act.put, List.setIfInBounds_toArray, List.set_cons_zero, List.set_cons_succ]
              refine tkB 3 (.some 88) _ _ rfl rfl (by kernel_rfl) (by kernel_rfl) (by kernel_rfl) (by kernel_rfl) hPF rfl (fun w' => by (go_simp; try with_reducible rfl)) hHeld (fun hHeld => ?_)
              simp only [Act.put, List.setIfInBounds_toArray, List.set_cons_zero, List.set_cons_succ]
              refine tkB 4 (.some 89) _ _ rfl rfl (by kernel_rfl) (by kernel_rfl) (by kernel_rfl) (by kernel_rfl) hPF rfl (fun w' => by (go_simp; try with_reducible rfl)) hHeld (fun hHeld => ?_)
              simp only [Act.put, List.setIfInBounds_toArray, List.set_cons_zero, List.set_cons_succ]
              refine tkA 5 (.some 90) _ _ rfl rfl (by kernel_rfl) (by kernel_rfl) (by kernel_rfl) (by kernel_rfl) (by kernel_rfl) hPF rfl (fun w' hw' => by (have h1 := C0.out _ hw'; go_simp; try with_reducible rfl)) hHeld (fun hHeld => ?_)
              simp only [Act.put, List.setIfInBounds_toArray, List.set_cons_zero, List.set_cons_succ]
              refine tkB 6 (.some 91) _ _ rfl rfl (by kernel_rfl) (by kernel_rfl) (by kernel_rfl) (by kernel_rfl) hPF rfl (fun w' => by (go_simp; try with_reducible rfl)) hHeld (fun hHeld => ?_)
              simp only [Act.put, List.setIfInBounds_toArray, List.set_cons_zero, List.set_cons_succ]
              refine tkA 7 (.some 92) _ _ rfl rfl (by kernel_rfl) (by kernel_rfl) (by kernel_rfl) (by kernel_rfl) (by kernel_rfl) hPF rfl (fun w' hw' => by (have h1 := C7.out _ hw'; go_simp; try with_reducible rfl)) hHeld (fun hHeld => ?_)
              simp only [Act.put, List.setIfInBounds_toArray, List.set_cons_zero, List.set_cons_succ]
              refine tkB 8 (.some 93) _ _ rfl rfl (by kernel_rfl) (by kernel_rfl) (by kernel_rfl) (by kernel_rfl) hPF rfl (fun w' => by (go_simp; try with_reducible rfl)) hHeld (fun hHeld => ?_)
              simp only [Act.put, List.setIfInBounds_toArray, List.set_cons_zero, List.set_cons_succ]
              refine tkB 9 (.some 94) _ _ rfl rfl (by kernel_rfl) (by kernel_rfl) (by kernel_rfl) (by kernel_rfl) hPF rfl (fun w' => by (go_simp; try with_reducible rfl)) hHeld (fun hHeld => ?_)
              simp only [Act.put, List.setIfInBounds_toArray, List.set_cons_zero, List.set_cons_succ]
              refine tkB 10 (.some 95) _ _ rfl rfl (by kernel_rfl) (by kernel_rfl) (by kernel_rfl) (by kernel_rfl) hPF rfl (fun w' => by (go_simp; try with_reducible rfl)) hHeld (fun hHeld => ?_)
              simp only [Act.put, List.setIfInBounds_toArray, List.set_cons_zero, List.set_cons_succ]
              refine tkA 11 (.some 96) _ _ rfl rfl (by kernel_rfl) (by kernel_rfl) (by kernel_rfl) (by kernel_rfl) (by kernel_rfl) hPF rfl (fun w' hw' => by (have h1 := C0.out _ hw'; go_simp; try with_reducible rfl)) hHeld (fun hHeld => ?_)
              simp only [Act.put, List.setIfInBounds_toArray, List.set_cons_zero, List.set_cons_succ]
              refine tkB 12 (.some 97) _ _ rfl rfl (by kernel_rfl) (by kernel_rfl) (by kernel_rfl) (by kernel_rfl) hPF rfl (fun w' => by (go_simp; try with_reducible rfl)) hHeld (fun hHeld => ?_)
              simp only [Act.put, List.setIfInBounds_toArray, List.set_cons_zero, List.set_cons_succ]
              refine tkL 13 (.some 98) _ rfl rfl 45 (.tmp 97) rfl b (ob + t * 18) (ctrc x) _ (by kernel_rfl) (by kernel_rfl) (by kernel_rfl) (by kernel_rfl) (by kernel_rfl) hPF rfl rfl (fun w' hw' => Hrg.out _ hw') Try.underlying45 rfl hszX hHeld (fun hHeld => ?_)
              simp only [Act.put, List.setIfInBounds_toArray, List.set_cons_zero, List.set_cons_succ]
              refine tkB 15 (.some 100) _ _ rfl rfl (by kernel_rfl) (by kernel_rfl) (by kernel_rfl) (by kernel_rfl) hPF rfl (fun w' => by (go_simp; try with_reducible rfl)) hHeld (fun hHeld => ?_)
              simp only [Act.put, List.setIfInBounds_toArray, List.set_cons_zero, List.set_cons_succ]
              refine tkB 16 (.some 101) _ _ rfl rfl (by kernel_rfl) (by kernel_rfl) (by kernel_rfl) (by kernel_rfl) hPF rfl (fun w' => by (go_simp; try with_reducible rfl)) hHeld (fun hHeld => ?_)
              simp only [Act.put, List.setIfInBounds_toArray, List.set_cons_zero, List.set_cons_succ]
              refine tkA 17 (.some 102) _ _ rfl rfl (by kernel_rfl) (by kernel_rfl) (by kernel_rfl) (by kernel_rfl) (by kernel_rfl) hPF rfl (fun w' hw' => by (have h1 := C1.out _ hw'; go_simp; try with_reducible rfl)) hHeld (fun hHeld => ?_)
              simp only [Act.put, List.setIfInBounds_toArray, List.set_cons_zero, List.set_cons_succ]
              refine tkB 18 (.some 103) _ _ rfl rfl (by kernel_rfl) (by kernel_rfl) (by kernel_rfl) (by kernel_rfl) hPF rfl (fun w' => by (go_simp; try with_reducible rfl)) hHeld (fun hHeld => ?_)
              simp only [Act.put, List.setIfInBounds_toArray, List.set_cons_zero, List.set_cons_succ]
              refine tkB 20 (.some 105) _ _ rfl rfl (by kernel_rfl) (by kernel_rfl) (by kernel_rfl) (by kernel_rfl) hPF rfl (fun w' => by (go_simp; try with_reducible rfl)) hHeld (fun hHeld => ?_)
              simp only [Act.put, List.setIfInBounds_toArray, List.set_cons_zero, List.set_cons_succ]
              refine tkB 21 (.some 106) _ _ rfl rfl (by kernel_rfl) (by kernel_rfl) (by kernel_rfl) (by kernel_rfl) hPF rfl (fun w' => by (go_simp; try with_reducible rfl)) hHeld (fun hHeld => ?_)
              simp only [Act.put, List.setIfInBounds_toArray, List.set_cons_zero, List.set_cons_succ]
              refine tkB 22 (.some 107) _ _ rfl rfl (by kernel_rfl) (by kernel_rfl) (by kernel_rfl) (by kernel_rfl) hPF rfl (fun w' => by (go_simp; try with_reducible rfl)) hHeld (fun hHeld => ?_)
              simp only [Act.put, List.setIfInBounds_toArray, List.set_cons_zero, List.set_cons_succ]
              refine tkA 23 (.some 108) _ _ rfl rfl (by kernel_rfl) (by kernel_rfl) (by kernel_rfl) (by kernel_rfl) (by kernel_rfl) hPF rfl (fun w' hw' => by (have h1 := C23.out _ hw'; go_simp; try with_reducible rfl)) hHeld (fun hHeld => ?_)
              simp only [Act.put, List.setIfInBounds_toArray, List.set_cons_zero, List.set_cons_succ]
              have hS := hHeld (by kernel_rfl)
              refine tkW (rs := [14]) (by kernel_rfl) (by simp) (AllK.cons (o := _) rfl (fun KC hKC => ?_) AllK.nil)
              go_simp
              refine (ctr1_any _ _ x TkW.out).mono ?_
              rw [Hpk.out, Hbk.out, Hck.out]
              rintro e w14 ⟨rfl, hB14⟩
              have h14 : Below W.heap.size W w14 := ((Below.refl _ W).drew).trans hB14
              have hS14 : Below w.heap.size w w14 ∧ KeptT W.heap.size W w14 := ⟨hBxW.trans (h14.mono hBxW.size), (KeptT.refl _ _).below h14⟩
              clear hB14
              refine hKC.out _ _ (hS14) (fun hHeld => ?_)
              clear hKC KC
              try simp only [Act.put, List.setIfInBounds_toArray, List.set_cons_zero, List.set_cons_succ]
              refine tkA 19 (.some 104) _ (.slice (sfrom pk ck q) (bk - q) (ck - q)) rfl rfl (by kernel_rfl) (by kernel_rfl) (by kernel_rfl) (by kernel_rfl) (by kernel_rfl) hPF rfl (fun w' hw' => by (go_simp; simp [sfrom])) hHeld (fun hHeld => ?_)
              simp only [Act.put, List.setIfInBounds_toArray, List.set_cons_zero, List.set_cons_succ]
              have hS := hHeld (by kernel_rfl)
              refine tkW (rs := [24]) (by kernel_rfl) (by simp) (AllK.cons (o := _) rfl (fun KC hKC => ?_) AllK.nil)
              go_simp
              refine (Hxor.out _ h14).mono ?_
              rintro e w24 ⟨rfl, hP, hB24⟩
              have h24 := h14.trans (hB24.mono h14.size)
              have hS24 : Below w.heap.size w w24 ∧ KeptT W.heap.size W w24 := ⟨hBxW.trans (h24.mono hBxW.size), (KeptT.refl _ _).below h24⟩
              have hP0 := hP.rowAt0
              clear hB24 hP
              refine hKC.out _ _ (hS24) (fun hHeld => ?_)
              clear hKC KC
              try simp only [Act.put, List.setIfInBounds_toArray, List.set_cons_zero, List.set_cons_succ]
              have hS := hHeld (by kernel_rfl)
              refine tkW (rs := [25]) (by kernel_rfl) (by simp) (AllK.cons (o := _) rfl (fun KC hKC => ?_) AllK.nil)
              have hown24 := hownW.below h24
              have hB24 := hBa.trans (h24.mono hBa.size)
              have hBx24 := hBx.trans (hB24.mono hBx.size)
              refine wantIt rfl (wp_add (.some 110) rfl (.tmp 92) (.tmp 109) rfl w.heap.size v _ rfl hown24 _ nn nn Z rfl hP0 HZl.out (by have h1 := CW_len cs T (d + i') t 1000 (fun k h => HM.out k h); have h2 := Hnn.out; omega) hBx24.size ?_)
              intro v6 w6 hown6 hgrow6 hwhich
              obtain ⟨p6, l6, cp6, he6⟩ : ∃ p l c, v6 = .slice p l c := by obtain ⟨p, c, e, _⟩ := hown6.row; exact ⟨p, _, c, e⟩
              subst he6
              have hg24 := hgx.below hB24 hgx.lt
              have hr24 := hrx.below hB24
              have hK24 := hK.below hB24
              have hBx6 := hBx24.grown hgrow6 hBx24.size (fun j e => (hown24.lt j e).1)
              have hg6 := hg24.kept hgrow6 (fun e => by obtain ⟨cs2, h2⟩ := hown24.typ g e; exact absurd rfl (hg24.ne h2 (by decide)))
              have hS25 : Below w.heap.size w w6 ∧ KeptT W.heap.size W w6 := ⟨hBx6, ((KeptT.refl _ _).below h24).grown hgrow6 (fun b e => hown24.typ b e)⟩
              have hK6 := hK24.grown hgrow6 (fun b e => hown24.typ b e)
              have hr6 := (hr24.push t (by rw [hvn]; exact ht1) (.slice p6 l6 cp6) _ hown6 (by rw [Hv.out]; exact hgrow6) (by rw [Hv.out]; exact hwhich)).congr (fun k _ => Hnx2.out k)
              have c6 : w6.cell? ⟨g, t, none⟩ = some (vs'.getD t undef) := by rw [hg6.cell]; simp [List.getD, hvn, ht1]
              have f6 := hg6.frozen t
              have hg7 := hg6.set t (.slice p6 l6 cp6)
              have hK7 := hK6.setCell t (.slice p6 l6 cp6)
              have hB7 := hBx6.setCell (p := ⟨g, t, none⟩) HJ.out.hgw (.slice p6 l6 cp6)
              have hr7 := hr6.chg ((Chg.refl w6.heap.size [g] w6).setCell (p := ⟨g, t, none⟩) (.inl (by simp)) (.slice p6 l6 cp6)) (Nat.le_refl _) (fun b hb => by obtain rfl := List.mem_singleton.1 hb; exact ⟨_, tBytes, by decide, hg6⟩)
              clear hg24 hr24 hK24 hBx6 hK6 hr6 hown24
              refine hKC.out _ _ (hS25) (fun hHeld => ?_)
              clear hKC KC
              try simp only [Act.put, List.setIfInBounds_toArray, List.set_cons_zero, List.set_cons_succ]
              refine tkB 26 (.some 111) _ _ rfl rfl (by kernel_rfl) (by kernel_rfl) (by kernel_rfl) (by kernel_rfl) hPF rfl (fun w' => by (go_simp; try with_reducible rfl)) hHeld (fun hHeld => ?_)
              simp only [Act.put, List.setIfInBounds_toArray, List.set_cons_zero, List.set_cons_succ]
              refine tkW (rs := [27]) (by kernel_rfl) (by simp) (AllK.close (o := _) rfl (by kernel_rfl) (fun KC hKC => ?_) AllK.nil)
              go_simp
              refine hKC.out _ _ (fun hHeld => ?_)
              clear hKC KC
              try simp only [Act.put]
              refine tkD (by kernel_rfl) ?_ _
              clear hgx hrx hK hBx hBa hown hownW hgW hg6 c6 f6
              go_wp2_with fail
              go_roundw
              case rel => exact ⟨i' + 1, vs'.set t (.slice p6 l6 cp6), by omega, by go_num, hg7, by rw [List.length_set]; exact hvn, hr7, hK7, hB7⟩
              case measure => (simp [intOf]; try omega)
            · obtain rfl : i' = k := by omega
              have q1 : ¬ ((i' : Int) < (i' : Int)) := by omega
              have hs9 : s < 2000000 := by have := HJ.out.hs2; omega
              have hJ' : ∀ pr, (0 < m - i' → pr = some ⟨gT, o + i' * 2, none⟩) → WJ w wr g n cs T (s + 1) (d + i') vs' (.slice pr (m - i') (cr - i')) := fun pr hpr => by
                have h1 := HJ.out.hs
                have h2 := HJ.out.hs2
                have h3 := Hp.out
                have h4 := Hm.out
                have h5 := Ho.out
                exact ⟨hdp, by omega, by omega, hgx, hvn, hrx, hBx, ⟨pr, m - i', cr - i', rfl, by omega, by omega, fun h0 => ⟨gT, o + i' * 2, restT, hpr h0, by omega, hK.block gT _ _ hgT (by decide) hbTr⟩⟩, HJ.out.hgw⟩
              have HJ' := hid hJ'
              have qs : wrap64 ((s : Int) + 1) = ((s + 1 : Nat) : Int) := by unfold wrap64; omega
              clear hJ' hgx hrx hK hBx hbm hbTr
              go_wp2_with fail
              go_step3
              refine ⟨rfl, ?_, ?_⟩
              · rw [← HJe.out]
                first
                | (have e1 : cr = i' := by assumption
                   have e0 : cr - i' = 0 := by omega
                   have h0 := HJ'.out (some ⟨gT, o, none⟩) (fun h => by omega)
                   rw [e0] at h0
                   exact ⟨s + 1, d + i', vs', _, rfl, h0⟩)
                | exact ⟨s + 1, d + i', vs', _, rfl, HJ'.out _ (fun _ => rfl)⟩
              · show m - i' < M
                omega
end Go.Proofs.Ytgellbapbphnlaa
