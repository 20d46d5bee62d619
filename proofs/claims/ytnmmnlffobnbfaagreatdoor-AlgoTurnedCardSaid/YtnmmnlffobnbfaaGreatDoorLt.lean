/- AlgoTurned, walked (printed by gen_lt.py) -/
import Derived.Test.YtnmmnlffobnbfaaGreatDoorLb
import Derived.Test.YtnmmnlffobnbfaaGreatDoorOpenP
namespace Go.Proofs.YtnmmnlffobnbfaaGreatDoor
open Go.RowKit

theorem xor_ne (x y : UInt8) (h : y ≠ 0) : x ^^^ y ≠ x := fun e => h (by
  have : x ^^^ (x ^^^ y) = x ^^^ x := by rw [e]
  rw [← UInt8.xor_assoc, UInt8.xor_self, UInt8.zero_xor] at this
  exact this)
theorem turned_drop (X : List UInt8) (n i : Nat) (y : UInt8) (hy : y ≠ 0) (hn : n ≤ i) (hi : i < X.length) : (X.set i (X.getD i 0 ^^^ y)).drop n ≠ X.drop n := fun e => by
  have h1 : ((X.set i (X.getD i 0 ^^^ y)).drop n)[i - n]? = (X.drop n)[i - n]? := by rw [e]
  rw [List.getElem?_drop, List.getElem?_drop, show n + (i - n) = i by omega, List.getElem?_set, if_pos rfl, if_pos hi, List.getElem?_eq_getElem hi] at h1
  have h2 := Option.some.inj h1
  rw [show X.getD i 0 = X[i] by simp [List.getD, hi]] at h2
  exact xor_ne _ _ hy h2
set_option maxRecDepth 100000 in
set_option maxHeartbeats 8000000 in
theorem algoTurned_walk (w : World) (T : TabW w) (alg : Int) (op : Bool) (key iv aad b : List UInt8) (pk : Option Addr) (ck : Nat) (pv : Option Addr) (cv : Nat) (pa : Option Addr) (ca : Nat) (pb : Option Addr) (cb : Nat) (at_ by_ : UInt8) (hA : ArgP w key iv aad b pk ck pv cv pa ca pb cb) :
    Calls Tryz.prog 8 #[.agg (tdC alg op key iv aad pk ck pv cv pa ca pb b.length cb at_ by_).toArray] w fun e w' => e = .returned (.bool true) ∧ Below w.heap.size w w' := by
  have hbt := Blk.new w (tdC alg op key iv aad pk ck pv cv pa ca pb b.length cb at_ by_) tTd
  have hBt : Below w.heap.size w (w.alloc (.cells (tdC alg op key iv aad pk ck pv cv pa ca pb b.length cb at_ by_).toArray tTd)) := (Below.refl _ _).alloc (Nat.le_refl _) _
  have hst : (w.alloc (.cells (tdC alg op key iv aad pk ck pv cv pa ca pb b.length cb at_ by_).toArray tTd)).heap.size = w.heap.size + 1 := by simp
  obtain ⟨w0, hw0⟩ : ∃ w0, w.alloc (.cells (tdC alg op key iv aad pk ck pv cv pa ca pb b.length cb at_ by_).toArray tTd) = w0 := ⟨_, rfl⟩
  rw [hw0] at hbt hBt hst
  have HW0 := hid hw0
  have hrg : w0.drew.rangeAt w.heap.size 0 (parD alg op key iv aad pk ck pv cv pa ca) := hbt.drew.range 0 5
  have Hbt := hid hbt
  have hz := Blk.new w0.drew parZ tRP
  obtain ⟨hb, hC⟩ := setWhole hz (new := parD alg op key iv aad pk ck pv cv pa ca) rfl
  have hth := hid (hz.there 0 5 (Nat.le_refl _))
  have hB : Below w.heap.size w ((w0.drew.alloc (.cells parZ.toArray tRP)).setCells w0.drew.heap.size 0 (parD alg op key iv aad pk ck pv cv pa ca)) := (hBt.drew.alloc hBt.size _).trans (hC.below (M := w.heap.size) (by simp; omega) (fun k hk => by simp at hk; omega))
  rw [show w0.drew.heap.size = w.heap.size + 1 from hst] at hb hth hB
  obtain ⟨w1, hw1⟩ : ∃ w1, (w0.drew.alloc (.cells parZ.toArray tRP)).setCells (w.heap.size + 1) 0 (parD alg op key iv aad pk ck pv cv pa ca) = w1 := ⟨_, rfl⟩
  rw [hw1] at hb hB
  have hid9 := hid (show Below w0.heap.size w0 ((w0.drew.alloc (.cells parZ.toArray tRP)).setCells (w.heap.size + 1) 0 (parD alg op key iv aad pk ck pv cv pa ca)) from ((Below.refl w0.heap.size w0).drew.alloc (Nat.le_refl _) _).trans (((Chg.refl w0.heap.size [] _).setCells (b := w.heap.size + 1) (.inr (by omega)) _ 0).below (Nat.le_refl _) (by simp)))
  have HW1 := hid hw1
  have hA1 := hA.below hB
  have T1 := T.below hB T.1
  have hwh := hid hb.whole
  clear hw0 hw1 hz hC hA hbt hBt
  go_enter Tryz.func8, Tryz.ntmps8
  go_upto_region 1 with fail
  change Code.wp _ _ _ _ (w.alloc (.cells (tdC alg op key iv aad pk ck pv cv pa ca pb b.length cb at_ by_).toArray tTd))
  rw [HW0.out]
  have S0 : Below w0.heap.size w0 w0.drew := (Below.refl _ _).drew
  try simp only [Act.put]
  refine tkR (fun w' => Below w0.heap.size w0 w') [] (by kernel_rfl) (fun c a d v w h => by cases d <;> exact h) (S0) (fun hPF hHeld => ?_)
  refine tkB 0 (.some 12) _ _ rfl rfl (by kernel_rfl) (by kernel_rfl) (by kernel_rfl) (by kernel_rfl) hPF rfl (fun w' => by (go_simp; try with_reducible rfl)) hHeld (fun hHeld => ?_)
  simp only [Act.put, List.setIfInBounds_toArray, List.set_cons_zero, List.set_cons_succ]
  refine tkL 1 (.some 13) _ rfl rfl 40 (.tmp 12) rfl w.heap.size 0 (parD alg op key iv aad pk ck pv cv pa ca) _ (by kernel_rfl) (by kernel_rfl) (by kernel_rfl) (by kernel_rfl) (by kernel_rfl) hPF rfl rfl (fun w' hw' => ((Hbt.out.below hw' Hbt.out.lt).range 0 5)) Tryz.underlying40 rfl sizeRP hHeld (fun hHeld => ?_)
  simp only [Act.put, List.setIfInBounds_toArray, List.set_cons_zero, List.set_cons_succ]
  refine tkB 2 (.some 14) _ _ rfl rfl (by kernel_rfl) (by kernel_rfl) (by kernel_rfl) (by kernel_rfl) hPF rfl (fun w' => by (go_simp; try with_reducible rfl)) hHeld (fun hHeld => ?_)
  simp only [Act.put, List.setIfInBounds_toArray, List.set_cons_zero, List.set_cons_succ]
  refine tkA 3 (.some 15) _ _ rfl rfl (by kernel_rfl) (by kernel_rfl) (by kernel_rfl) (by kernel_rfl) (by kernel_rfl) hPF rfl (fun w' hw' => by (have h1 := (Hbt.out.below hw' Hbt.out.lt).cell 5; go_simp; try with_reducible rfl)) hHeld (fun hHeld => ?_)
  simp only [Act.put, List.setIfInBounds_toArray, List.set_cons_zero, List.set_cons_succ]
  refine tkB 4 (.some 16) _ _ rfl rfl (by kernel_rfl) (by kernel_rfl) (by kernel_rfl) (by kernel_rfl) hPF rfl (fun w' => by (go_simp; try with_reducible rfl)) hHeld (fun hHeld => ?_)
  simp only [Act.put, List.setIfInBounds_toArray, List.set_cons_zero, List.set_cons_succ]
  refine tkA 5 (.some 17) _ _ rfl rfl (by kernel_rfl) (by kernel_rfl) (by kernel_rfl) (by kernel_rfl) (by kernel_rfl) hPF rfl (fun w' hw' => by (have h1 := (Hbt.out.below hw' Hbt.out.lt).cell 6; go_simp; try with_reducible rfl)) hHeld (fun hHeld => ?_)
  simp only [Act.put, List.setIfInBounds_toArray, List.set_cons_zero, List.set_cons_succ]
  refine tkB 6 (.some 18) _ _ rfl rfl (by kernel_rfl) (by kernel_rfl) (by kernel_rfl) (by kernel_rfl) hPF rfl (fun w' => by (go_simp; try with_reducible rfl)) hHeld (fun hHeld => ?_)
  simp only [Act.put, List.setIfInBounds_toArray, List.set_cons_zero, List.set_cons_succ]
  refine tkA 7 (.some 19) _ _ rfl rfl (by kernel_rfl) (by kernel_rfl) (by kernel_rfl) (by kernel_rfl) (by kernel_rfl) hPF rfl (fun w' hw' => by (have h1 := (Hbt.out.below hw' Hbt.out.lt).cell 7; go_simp; try with_reducible rfl)) hHeld (fun hHeld => ?_)
  simp only [Act.put, List.setIfInBounds_toArray, List.set_cons_zero, List.set_cons_succ]
  have hS := hHeld (by kernel_rfl)
  refine tkW (rs := [8]) (by kernel_rfl) (by simp) (AllK.cons (o := _) rfl (fun KC hKC => ?_) AllK.nil)
  go_simp
  have h8 := hS.alloc hS.size (.cells parZ.toArray tRP)
  refine hKC.out _ _ (h8) (fun hHeld => ?_)
  clear hKC KC
  try simp only [Act.put, List.setIfInBounds_toArray, List.set_cons_zero, List.set_cons_succ]
  have hS := hHeld (by kernel_rfl)
  refine tkW (rs := [9]) (by kernel_rfl) (by simp) (AllK.cons (o := _) rfl (fun KC hKC => ?_) AllK.nil)
  refine wantIt rfl (wp_storeD .none rfl tRP (.tmp 3) (.tmp 13) rfl (w.heap.size + 1) 0 (parD alg op key iv aad pk ck pv cv pa ca).toArray rfl rfl hth.out sizeRP (parC_one _ _ _ _ _ _ _ _ _ _ _) ?_)
  have h9 : Below w0.heap.size w0 ((w0.drew.alloc (.cells parZ.toArray tRP)).setCells (w.heap.size + 1) 0 (parD alg op key iv aad pk ck pv cv pa ca)) := hid9.out
  refine hKC.out _ _ (h9) (fun hHeld => ?_)
  clear hKC KC
  try simp only [Act.put]
  refine tkB 10 (.some 4) _ _ rfl rfl (by kernel_rfl) (by kernel_rfl) (by kernel_rfl) (by kernel_rfl) hPF rfl (fun w' => by (go_simp; try with_reducible rfl)) hHeld (fun hHeld => ?_)
  simp only [Act.put, List.setIfInBounds_toArray, List.set_cons_zero, List.set_cons_succ]
  refine tkB 11 (.some 5) _ _ rfl rfl (by kernel_rfl) (by kernel_rfl) (by kernel_rfl) (by kernel_rfl) hPF rfl (fun w' => by (go_simp; try with_reducible rfl)) hHeld (fun hHeld => ?_)
  simp only [Act.put, List.setIfInBounds_toArray, List.set_cons_zero, List.set_cons_succ]
  refine tkB 12 (.some 6) _ _ rfl rfl (by kernel_rfl) (by kernel_rfl) (by kernel_rfl) (by kernel_rfl) hPF rfl (fun w' => by (go_simp; try with_reducible rfl)) hHeld (fun hHeld => ?_)
  simp only [Act.put, List.setIfInBounds_toArray, List.set_cons_zero, List.set_cons_succ]
  refine tkD (by kernel_rfl) ?_ _
  change Exit.then _ _ _ _ ((w0.drew.alloc (.cells parZ.toArray tRP)).setCells (w.heap.size + 1) 0 (parD alg op key iv aad pk ck pv cv pa ca))
  rw [HW1.out]
  clear hS hHeld hPF h8 S0 HW0 HW1 Hbt hrg hth
  have hge := hid hst
  clear hst
  by_cases h100 : 100 < b.length
  · have q1 : (100 : Int) < (b.length : Int) := by omega
    go_wp2_with fail
    go_ret
    exact ⟨rfl, hB⟩
  have q1 : ¬ (100 : Int) < (b.length : Int) := by omega
  obtain ⟨sp, hsp⟩ : ∃ sp, w.heap.size + 1 = sp := ⟨_, rfl⟩
  rw [hsp] at hb hwh ⊢
  clear hsp
  go_wp2_with (refine wpList_load_midG rfl tRP (.tmp 3) rfl sp 0 rfl (parD alg op key iv aad pk ck pv cv pa ca) _ hwh.out Tryz.underlying40 rfl sizeRP ?_)
  refine (pshort_any w1 alg op pk key.length ck pv iv.length cv pa aad.length ca).mono ?_
  rintro e w2 ⟨rfl, hB2⟩
  have hb2 := hb.below hB2 hb.lt
  have hA2 := hA1.below hB2
  have T2 := T1.below hB2 T1.1
  have hB12 := hB.trans (hB2.mono hB.size)
  have hwh2 := hid hb2.whole
  have c0 : w2.cell? ⟨sp, 0, none⟩ = some (.int .i64 alg) := hb2.cell 0
  clear hwh hb hA1 hB2 hB T1
  by_cases hs : key.length ≤ 120 ∧ iv.length ≤ 100 ∧ aad.length ≤ 1100
  · rw [decide_eq_true hs]
    by_cases hal : alg < 5
    · go_wp2_with fail
      go_ret
      exact ⟨rfl, hB12⟩
    by_cases hby : by_ = 0
    · have q0 : bv by_ = 0 := by rw [hby]; rfl
      have q00 : (bv by_ == 0) = true := by rw [q0]; rfl
      clear hby
      go_wp2_with fail
      go_ret
      exact ⟨rfl, hB12⟩
    have q0 : ¬ bv by_ = 0 := fun e => hby (bv_inj (e.trans (show (0 : Int) = bv 0 from rfl)))
    have q00 : (bv by_ == 0) = false := by rw [beq_eq_false_iff_ne]; exact q0
    have Hby := hid hby
    clear hby
    have HP := hid (pof_any w2 alg op key iv aad pk ck pv cv pa ca (hA2.par op (by omega)) (by omega) (by omega))
    go_wp2_with (refine wpList_load_mid rfl tRP (.tmp 3) rfl sp 0 rfl (parD alg op key iv aad pk ck pv cv pa ca) _ hwh2.out Tryz.underlying40 rfl sizeRP ?_)
    refine HP.out.mono ?_
    rintro e w3 ⟨pk3, ck3, pv3, cv3, pa3, ca3, rfl, hP3, hB3⟩
    have hA3 := hA2.below hB3
    have T3 := T2.below hB3 T2.1
    have hB13 := hB12.trans (hB3.mono hB12.size)
    obtain ⟨w4, h4⟩ : ∃ w4, (w3.alloc (.cells parZ.toArray tPar)).setCells w3.heap.size 0 (parD alg op key iv aad pk3 ck3 pv3 cv3 pa3 ca3) = w4 := ⟨_, rfl⟩
    obtain ⟨w5, h5⟩ : ∃ w5, w4.setCell ⟨w3.heap.size, 1, none⟩ (.bool false) = w5 := ⟨_, rfl⟩
    obtain ⟨hb4, hb5, hP5, hB5⟩ := par_box w3 alg op false key iv aad pk3 ck3 pv3 cv3 pa3 ca3 hP3 w4 w5 h4 h5
    have hth := hid ((Blk.new w3 parZ tPar).there 0 5 (Nat.le_refl _))
    have c1 : w4.cell? ⟨w3.heap.size, 1, none⟩ = some (.bool op) := hb4.cell 1
    have f1 := hb4.frozen 1
    have H4 := hid h4
    have H5 := hid h5
    have hA5 := hA3.below hB5
    have T5 := T3.below hB5 T3.1
    have hB15 := hB13.trans (hB5.mono hB13.size)
    have hB15w3 := hid hB13.size
    have hwh5 := hid hb5.whole
    have HD := hid (do_any w5 alg false key iv aad b pk3 ck3 pv3 cv3 pa3 ca3 hP5 pb cb hA5.rb hA5.cb (by omega) T5)
    have hans := algF_ans alg false key iv aad b
    clear HP hwh2 hb2 hA2 T2 hB3 hB12 c0 h4 h5 hb4 hA3 T3 hB13 hP3 hB5
    go_upto_region 5 with (refine wpList_store_mid rfl tPar (.tmp 7) (.tmp 38) rfl w3.heap.size 0 (parD alg op key iv aad pk3 ck3 pv3 cv3 pa3 ca3).toArray rfl rfl hth.out sizePar (parC_one _ _ _ _ _ _ _ _ _ _ _) ?_; change wpList _ _ _ _ _ ((w3.alloc (.cells parZ.toArray tPar)).setCells w3.heap.size 0 (parD alg op key iv aad pk3 ck3 pv3 cv3 pa3 ca3)); rw [H4.out]; clear H4 hth)
    have hge3 := hB15.size
    have Hsq := hid hB15w3.out
    generalize w3.heap.size = sq at *
    go_upto_region 6 with fail
    change Code.wp _ _ _ _ (w4.setCell ⟨sq, 1, none⟩ (.bool false))
    rw [H5.out]
    clear H5 c1 f1
    go_wp2_with (refine wpList_load_mid rfl tPar (.tmp 7) rfl sq 0 rfl (parD alg false key iv aad pk3 ck3 pv3 cv3 pa3 ca3) _ hwh5.out Tryz.underlying31 rfl sizePar ?_)
    refine HD.out.mono ?_
    rintro e w6 ⟨⟨v, rfl, ⟨px, cx, rfl, hcx, hrx⟩, hown⟩, hB6⟩
    have hb6 := hb5.below hB6 hb5.lt
    have Hsq5 := hid hb5.lt
    have HP5 := hid hP5
    have hA6 := hA5.below hB6
    have hP6 := hP5.below hB6
    have T6 := T5.below hB6 T5.1
    have hB16 := hB15.trans (hB6.mono hB15.size)
    have hwh6 := hid hb6.whole
    clear HD hwh5 hb5 hA5 hP5 T5 hB6 hB15
    have W6 := hid (awake12_any w6 T6)
    rcases hans with ⟨h0, hnil⟩ | ⟨h0, hck, hrm, hlen⟩
    · rw [hnil]
      obtain ⟨x, hx⟩ : ∃ x, (algF alg false key iv aad b).1 = x := ⟨_, rfl⟩
      rw [hx] at h0 ⊢
      have hxi : ¬ (x : Int) = 0 := by omega
      clear hnil hx h0 hrx hcx hown hwh6 hb6 hA6 hP6 T6
      go_wp2_with fail
      refine W6.out.mono ?_
      rintro e w8 ⟨rfl, hB8⟩
      have hB18 := hB16.trans (hB8.mono hB16.size)
      clear hB8 W6
      go_wp2_with fail
      go_ret
      exact ⟨rfl, hB18⟩
    · have hX16 : (algF alg false key iv aad b).2.length = b.length + 16 := by
        rw [if_neg (by simp)] at hlen
        rw [hlen]
        unfold roomF
        rw [if_neg (by omega), if_neg (by omega), if_neg (by omega), if_neg (by simp)]
      have hturn := algF_turned alg (by omega) key iv aad b h0
      have hO := hown (by omega) h0
      rw [h0]
      obtain ⟨X, hX⟩ : ∃ X, (algF alg false key iv aad b).2 = X := ⟨_, rfl⟩
      rw [hX] at hturn hcx hrx hX16 hO ⊢
      obtain ⟨g, cg, rest, eg, hcg, hgl, hbg⟩ := hO.blk (by omega)
      simp only [Value.slice.injEq] at eg
      obtain ⟨rfl, _, rfl⟩ := eg
      obtain ⟨L, hL⟩ : ∃ L, X.length = L := ⟨_, rfl⟩
      rw [hL] at hX16 hcg ⊢
      obtain ⟨r, hr⟩ : ∃ r, at_.toNat % 16 = r := ⟨_, rfl⟩
      obtain ⟨L1, hL1⟩ : ∃ L1, L - 1 = L1 := ⟨_, rfl⟩
      obtain ⟨i, hi⟩ : ∃ i, L1 - r = i := ⟨_, rfl⟩
      have hat := at_.toNat_lt
      have t0 : IntKind.i64.wrap (bv at_) = bv at_ := by unfold bv; rw [IntKind.wrap_i64]; omega
      have t1 : (bv at_).tmod 16 = (r : Int) := by unfold bv; rw [Int.tmod_eq_emod_of_nonneg (by omega)]; omega
      have t2 : (L : Int) - 1 = (L1 : Int) := by omega
      have t3 : (L1 : Int) - (r : Int) = (i : Int) := by omega
      have t4 : (i : Int) < (L : Int) := by omega
      have t5 : ¬ (L : Int) < 16 := by omega
      have t6 : L1 ≤ 200 := by omega
      have t7 : r < 16 := by omega
      have t8 : i ≤ 200 := by omega
      have hib : b.length ≤ i := by omega
      have hiL : i < X.length := by omega
      have cg1 : w6.cell? ⟨g, i, none⟩ = some (.int .u8 (bv (X.getD i 0))) := hbg.headCell i hiL
      have fg1 := hbg.frozen i
      have hX' : (X.set i (X.getD i 0 ^^^ by_)).length = L := by rw [List.length_set, hL]
      have hturn := hid (hturn (X.set i (X.getD i 0 ^^^ by_)) (by rw [hX']; exact hX16) (by rw [List.take_set_of_le hib]) (turned_drop X b.length i by_ Hby.out hib hiL))
      have hbg7 := hbg.set i (.int .u8 (bv (X.getD i 0 ^^^ by_)))
      rw [bys_setAt X rest i _ hiL] at hbg7
      have hC7 : Chg w6.heap.size [g] w6 (w6.setCell ⟨g, i, none⟩ (.int .u8 (bv (X.getD i 0 ^^^ by_)))) := (Chg.refl _ _ _).setCell (p := ⟨g, i, none⟩) (.inl (by simp)) _
      have hgsq : sq ≠ g := by have := Hsq5.out; omega
      have hb7 := hb6.chg hC7 hb6.lt (by simpa using hgsq)
      have hP7 : ParAt (w6.setCell ⟨g, i, none⟩ (.int .u8 (bv (X.getD i 0 ^^^ by_)))) true key iv aad pk3 ck3 pv3 cv3 pa3 ca3 := ⟨hP6.rk.chg2 hC7 (Nat.le_refl _) (fun hp a e => by have := HP5.out.rk.pos hp a e; simp; omega), hP6.rv.chg2 hC7 (Nat.le_refl _) (fun hp a e => by have := HP5.out.rv.pos hp a e; simp; omega), hP6.ra.chg2 hC7 (Nat.le_refl _) (fun hp a e => by have := HP5.out.ra.pos hp a e; simp; omega), hP6.ck, hP6.cv, hP6.ca, hP6.la⟩
      have hgw : w.heap.size ≤ g := by have := Hsq.out; have := Hsq5.out; omega
      have hB17 : Below w.heap.size w (w6.setCell ⟨g, i, none⟩ (.int .u8 (bv (X.getD i 0 ^^^ by_)))) := hB16.trans (hC7.below (M := w.heap.size) hB16.size (fun k hk => by simp at hk; omega))
      have hall := hid (And.intro hb7 (And.intro hP7 (And.intro hB17 hbg7)))
      clear hb7 hP7 hB17 hbg7 hC7 hb6 hP6 hA6 T6 hB16 hrx hwh6 hO hown hbg hlen h0 hX hcx W6
      obtain ⟨x0, hx0⟩ : ∃ x0, X.getD i 0 = x0 := ⟨_, rfl⟩
      rw [hx0] at hall cg1 hturn
      obtain ⟨X', hXX⟩ : ∃ X', X.set i (x0 ^^^ by_) = X' := ⟨_, rfl⟩
      rw [hx0, hXX] at hX'
      rw [hXX] at hall hturn
      have hXL := hid hX'
      clear hx0 hXX hX' hL hiL hib hX16 hr hL1 hi
      go_upto_region 12 with fail
      change Code.wp _ _ _ _ (w6.setCell ⟨g, i, none⟩ (.int .u8 (bv (x0 ^^^ by_))))
      obtain ⟨hb7, hP7, hB17, hbg7⟩ := hall.out
      generalize w6.setCell ⟨g, i, none⟩ (.int .u8 (bv (x0 ^^^ by_))) = w7 at *
      clear hall cg1 fg1
      have c1 : w7.cell? ⟨sq, 1, none⟩ = some (.bool false) := hb7.cell 1
      have f1 := hb7.frozen 1
      have hb8 := hb7.set 1 (.bool true)
      rw [parD_set] at hb8
      have hC8 : Chg w7.heap.size [sq] w7 (w7.setCell ⟨sq, 1, none⟩ (.bool true)) := (Chg.refl _ _ _).setCell (p := ⟨sq, 1, none⟩) (.inl (by simp)) _
      have hoff : ∀ {l : List UInt8} {p : Option Addr}, RowAt w7 p l → 0 < l.length → Off [sq] p := fun hr hp a e => by
        obtain ⟨b0, o0, e0, _, hc⟩ := hr 0 hp
        rw [e] at e0; cases e0
        intro hm
        simp only [List.mem_cons, List.not_mem_nil, or_false] at hm
        subst hm
        rw [hb7.cell] at hc
        have hm := List.mem_of_getElem? hc
        simp at hm
      have hrx8 := hbg7.headRow.chg2 hC8 (Nat.le_refl _) (hoff hbg7.headRow)
      have hP8 : ParAt (w7.setCell ⟨sq, 1, none⟩ (.bool true)) true key iv aad pk3 ck3 pv3 cv3 pa3 ca3 := ⟨hP7.rk.chg2 hC8 (Nat.le_refl _) (hoff hP7.rk), hP7.rv.chg2 hC8 (Nat.le_refl _) (hoff hP7.rv), hP7.ra.chg2 hC8 (Nat.le_refl _) (hoff hP7.ra), hP7.ck, hP7.cv, hP7.ca, hP7.la⟩
      have hB18 : Below w.heap.size w (w7.setCell ⟨sq, 1, none⟩ (.bool true)) := hB17.trans (hC8.below (M := w.heap.size) hB17.size (fun k hk => by simp at hk; have := Hsq.out; omega))
      have T8 : TabW (w7.setCell ⟨sq, 1, none⟩ (.bool true)) := T.below hB18 T.1
      have hall := hid (And.intro hb8 (And.intro hrx8 (And.intro hP8 (And.intro hB18 T8))))
      clear hb8 hrx8 hP8 hB18 T8 hC8 hoff hb7 hP7 hB17 hbg7
      go_upto_region 13 with fail
      change Code.wp _ _ _ _ (w7.setCell ⟨sq, 1, none⟩ (.bool true))
      obtain ⟨hb8, hrx8, hP8, hB18, T8⟩ := hall.out
      generalize w7.setCell ⟨sq, 1, none⟩ (.bool true) = w8 at *
      clear hall c1 f1
      have hwh8 := hid hb8.whole
      have HD := hid (do_any w8 alg true key iv aad X' pk3 ck3 pv3 cv3 pa3 ca3 hP8 (some ⟨g, 0, none⟩) cx hrx8 (by rw [hXL.out]; exact hcg) (by rw [hXL.out]; omega) T8)
      rw [hturn.out, hXL.out] at HD
      clear hP8 hrx8 hb8
      go_wp2_with (refine wpList_load_mid rfl tPar (.tmp 7) rfl sq 0 rfl (parD alg true key iv aad pk3 ck3 pv3 cv3 pa3 ca3) _ hwh8.out Tryz.underlying31 rfl sizePar ?_)
      refine HD.out.mono ?_
      rintro e w9 ⟨⟨v, rfl, ⟨py, cy, rfl, _, hry⟩, _⟩, hB9⟩
      have T9 := T8.below hB9 T8.1
      have hB19 := hB18.trans (hB9.mono hB18.size)
      have HW := hid (awake12_any w9 T9)
      clear HD hwh8 T8 hB18 hB9 hry T9
      go_wp2_with fail
      refine HW.out.mono ?_
      rintro e w10 ⟨rfl, hB10⟩
      have hB20 := hB19.trans (hB10.mono hB19.size)
      clear hB10 HW
      go_wp2_with fail
      go_ret
      exact ⟨rfl, hB20⟩
  · rw [decide_eq_false hs]
    go_wp2_with fail
    go_ret
    exact ⟨rfl, hB12⟩
end Go.Proofs.YtnmmnlffobnbfaaGreatDoor
