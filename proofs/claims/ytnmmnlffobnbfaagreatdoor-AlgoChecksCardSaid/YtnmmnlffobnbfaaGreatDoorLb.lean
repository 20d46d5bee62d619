/- AlgoBack, walked (printed by gen_lb.py) -/
import Derived.Test.YtnmmnlffobnbfaaGreatDoorLa
namespace Go.Proofs.YtnmmnlffobnbfaaGreatDoor
open Go.RowKit

theorem parD_set (alg : Int) (op op' : Bool) (key iv aad : List UInt8) (pk : Option Addr) (ck : Nat) (pv : Option Addr) (cv : Nat) (pa : Option Addr) (ca : Nat) : (parD alg op key iv aad pk ck pv cv pa ca).set 1 (.bool op') = parD alg op' key iv aad pk ck pv cv pa ca := rfl
theorem ParAt.op {w : World} {op op' : Bool} {key iv aad : List UInt8} {pk : Option Addr} {ck : Nat} {pv : Option Addr} {cv : Nat} {pa : Option Addr} {ca : Nat} (h : ParAt w op key iv aad pk ck pv cv pa ca) : ParAt w op' key iv aad pk ck pv cv pa ca := ⟨h.rk, h.rv, h.ra, h.ck, h.cv, h.ca, h.la⟩
/-- The params of a law: copied, boxed, their way laid. -/
theorem par_box (w : World) (alg : Int) (op op' : Bool) (key iv aad : List UInt8) (pk : Option Addr) (ck : Nat) (pv : Option Addr) (cv : Nat) (pa : Option Addr) (ca : Nat) (hP : ParAt w op key iv aad pk ck pv cv pa ca) (w2 w3 : World)
    (h2 : (w.alloc (.cells parZ.toArray tPar)).setCells w.heap.size 0 (parD alg op key iv aad pk ck pv cv pa ca) = w2) (h3 : w2.setCell ⟨w.heap.size, 1, none⟩ (.bool op') = w3) :
    Blk w2 w.heap.size (parD alg op key iv aad pk ck pv cv pa ca) tPar ∧ Blk w3 w.heap.size (parD alg op' key iv aad pk ck pv cv pa ca) tPar ∧ ParAt w3 op' key iv aad pk ck pv cv pa ca ∧ Below w.heap.size w w3 := by
  have hz := Blk.new w parZ tPar
  obtain ⟨hb, hC⟩ := setWhole hz (new := parD alg op key iv aad pk ck pv cv pa ca) rfl
  have hB : Below w.heap.size w (w.alloc (.cells parZ.toArray tPar)) := (Below.refl _ _).alloc (Nat.le_refl _) _
  rw [h2] at hb hC
  have hB2 : Below w.heap.size w w2 := hB.trans (hC.below (M := w.heap.size) (by simp) (fun k hk => by simp at hk; omega))
  have hb3 := hb.set 1 (.bool op')
  have hC3 : Chg w2.heap.size [w.heap.size] w2 (w2.setCell ⟨w.heap.size, 1, none⟩ (.bool op')) := (Chg.refl _ _ _).setCell (p := ⟨w.heap.size, 1, none⟩) (.inl (by simp)) _
  rw [parD_set, h3] at hb3
  rw [h3] at hC3
  have hB3 := hB2.trans (hC3.below (M := w.heap.size) hB2.size (fun k hk => by simp at hk; omega))
  exact ⟨hb, hb3, (hP.op (op' := op')).below hB3, hB3⟩

set_option maxRecDepth 100000 in
set_option maxHeartbeats 8000000 in
theorem algoBack_walk (w : World) (T : TabW w) (alg : Int) (op : Bool) (key iv aad b : List UInt8) (pk : Option Addr) (ck : Nat) (pv : Option Addr) (cv : Nat) (pa : Option Addr) (ca : Nat) (pb : Option Addr) (cb : Nat) (hA : ArgP w key iv aad b pk ck pv cv pa ca pb cb) :
    Calls Tryz.prog 5 #[.agg (parD alg op key iv aad pk ck pv cv pa ca).toArray, .slice pb b.length cb] w fun e w' => e = .returned (.bool true) ∧ Below w.heap.size w w' := by
  have hb := Blk.new w (parD alg op key iv aad pk ck pv cv pa ca) tRP
  have hB : Below w.heap.size w (w.alloc (.cells (parD alg op key iv aad pk ck pv cv pa ca).toArray tRP)) := (Below.refl _ _).alloc (Nat.le_refl _) _
  obtain ⟨w1, hw1⟩ : ∃ w1, w.alloc (.cells (parD alg op key iv aad pk ck pv cv pa ca).toArray tRP) = w1 := ⟨_, rfl⟩
  rw [hw1] at hb hB
  have hA1 := hA.below hB
  have T1 := T.below hB T.1
  have HW1 := hid hw1
  have hwh := hid hb.whole
  clear hw1 hA
  by_cases h100 : 100 < b.length
  · have q1 : (100 : Int) < (b.length : Int) := by omega
    go_enter Tryz.func5, Tryz.ntmps5
    go_upto_region 1 with fail
    change Code.wp _ _ _ _ (w.alloc (.cells (parD alg op key iv aad pk ck pv cv pa ca).toArray tRP))
    rw [HW1.out]
    go_wp2_with fail
    go_ret
    exact ⟨rfl, hB⟩
  have q1 : ¬ (100 : Int) < (b.length : Int) := by omega
  go_enter Tryz.func5, Tryz.ntmps5
  go_upto_region 1 with fail
  change Code.wp _ _ _ _ (w.alloc (.cells (parD alg op key iv aad pk ck pv cv pa ca).toArray tRP))
  rw [HW1.out]
  go_wp2_with (refine wpList_load_midG rfl tRP (.tmp 2) rfl w.heap.size 0 rfl (parD alg op key iv aad pk ck pv cv pa ca) _ hwh.out Tryz.underlying40 rfl sizeRP ?_)
  refine (pshort_any w1 alg op pk key.length ck pv iv.length cv pa aad.length ca).mono ?_
  rintro e w2 ⟨rfl, hB2⟩
  have hb2 := hb.below hB2 hb.lt
  have hA2 := hA1.below hB2
  have T2 := T1.below hB2 T1.1
  have hB12 := hB.trans (hB2.mono hB.size)
  have hwh2 := hid hb2.whole
  have c0 : w2.cell? ⟨w.heap.size, 0, none⟩ = some (.int .i64 alg) := hb2.cell 0
  clear hwh HW1 hb hA1 hB2 hB T1
  by_cases hs : key.length ≤ 120 ∧ iv.length ≤ 100 ∧ aad.length ≤ 1100
  · rw [decide_eq_true hs]
    by_cases hal : alg ≤ 2
    · go_wp2_with fail
      go_ret
      exact ⟨rfl, hB12⟩
    have HP := hid (pof_any w2 alg op key iv aad pk ck pv cv pa ca (hA2.par op (by omega)) (by omega) (by omega))
    go_wp2_with (refine wpList_load_mid rfl tRP (.tmp 2) rfl w.heap.size 0 rfl (parD alg op key iv aad pk ck pv cv pa ca) _ hwh2.out Tryz.underlying40 rfl sizeRP ?_)
    refine HP.out.mono ?_
    rintro e w3 ⟨pk3, ck3, pv3, cv3, pa3, ca3, rfl, hP3, hB3⟩
    have hA3 := hA2.below hB3
    have T3 := T2.below hB3 T2.1
    have hB13 := hB12.trans (hB3.mono hB12.size)
    obtain ⟨w4, h4⟩ : ∃ w4, (w3.alloc (.cells parZ.toArray tPar)).setCells w3.heap.size 0 (parD alg op key iv aad pk3 ck3 pv3 cv3 pa3 ca3) = w4 := ⟨_, rfl⟩
    obtain ⟨w5, h5⟩ : ∃ w5, w4.setCell ⟨w3.heap.size, 1, none⟩ (.bool false) = w5 := ⟨_, rfl⟩
    obtain ⟨hb4, hb5, hP5, hB5⟩ := par_box w3 alg op false key iv aad pk3 ck3 pv3 cv3 pa3 ca3 hP3 w4 w5 h4 h5
    have hth := hid ((Blk.new w3 parZ tPar).there 0 5 (Nat.le_refl _))
    have c1 : w4.cell? ⟨w3.heap.size, 1, none⟩ = some (.bool op) := hb4.cell 1
    have f1 := hb4.frozen 1
    have H4 := hid h4
    have H5 := hid h5
    have hA5 := hA3.below hB5
    have T5 := T3.below hB5 T3.1
    have hB15 := hB13.trans (hB5.mono hB13.size)
    have hB15w3 := hid hB13.size
    have hwh5 := hid hb5.whole
    have HD := hid (do_any w5 alg false key iv aad b pk3 ck3 pv3 cv3 pa3 ca3 hP5 pb cb hA5.rb hA5.cb (by omega) T5)
    have hans := algF_ans alg false key iv aad b
    clear HP hwh2 hb2 hA2 T2 hB3 hB12 c0 h4 h5 hb4 hA3 T3 hB13 hP3 hB5
    go_upto_region 4 with (refine wpList_store_mid rfl tPar (.tmp 5) (.tmp 24) rfl w3.heap.size 0 (parD alg op key iv aad pk3 ck3 pv3 cv3 pa3 ca3).toArray rfl rfl hth.out sizePar (parC_one _ _ _ _ _ _ _ _ _ _ _) ?_; change wpList _ _ _ _ _ ((w3.alloc (.cells parZ.toArray tPar)).setCells w3.heap.size 0 (parD alg op key iv aad pk3 ck3 pv3 cv3 pa3 ca3)); rw [H4.out]; clear H4 hth)
    have hge3 := hB15.size
    have Hsq := hid hB15w3.out
    generalize w3.heap.size = sq at *
    go_upto_region 5 with fail
    change Code.wp _ _ _ _ (w4.setCell ⟨sq, 1, none⟩ (.bool false))
    rw [H5.out]
    clear H5 c1 f1
    go_wp2_with (refine wpList_load_mid rfl tPar (.tmp 5) rfl sq 0 rfl (parD alg false key iv aad pk3 ck3 pv3 cv3 pa3 ca3) _ hwh5.out Tryz.underlying31 rfl sizePar ?_)
    refine HD.out.mono ?_
    rintro e w6 ⟨⟨v, rfl, ⟨px, cx, rfl, hcx, hrx⟩, _⟩, hB6⟩
    have hcx := hcx (fun h => by simp at h)
    have hb6 := hb5.below hB6 hb5.lt
    have hA6 := hA5.below hB6
    have hP6 := hP5.below hB6
    have T6 := T5.below hB6 T5.1
    have hB16 := hB15.trans (hB6.mono hB15.size)
    have hwh6 := hid hb6.whole
    clear HD hwh5 hb5 hA5 hP5 T5 hB6 hB15
    rcases hans with ⟨h0, hnil⟩ | ⟨h0, hck, hrm, hlen⟩
    · have hce : checkF alg false key.length iv.length aad.length = (algF alg false key iv aad b).1 := by
        unfold algF at h0 ⊢
        by_cases hc : checkF alg false key.length iv.length aad.length ≠ 0
        · rw [if_pos hc]
        · rw [if_neg hc, if_neg (by rw [roomF_seal]; exact fun h => h rfl), if_neg (by omega), if_neg (by omega)] at h0
          exfalso
          apply h0
          have h6 := check_ok (by simpa using hc)
          obtain ⟨h6, _⟩ := h6
          rcases h6 with rfl | rfl | rfl | rfl | rfl | rfl <;> first | omega | rfl
      have HC := hid (check_any w6 alg false pk3 key.length ck3 pv3 iv.length cv3 pa3 aad.length ca3)
      rw [hce] at HC
      rw [hnil]
      obtain ⟨x, hx⟩ : ∃ x, (algF alg false key iv aad b).1 = x := ⟨_, rfl⟩
      rw [hx] at h0 HC ⊢
      have hxi : ¬ (x : Int) = 0 := by omega
      clear hnil hx h0 hce hrx hcx
      go_wp2_with (refine wpList_load_midG rfl tPar (.tmp 5) rfl sq 0 rfl (parD alg false key iv aad pk3 ck3 pv3 cv3 pa3 ca3) _ hwh6.out Tryz.underlying31 rfl sizePar ?_)
      refine HC.out.mono ?_
      rintro e w7 ⟨rfl, hB7⟩
      have T7 := T6.below hB7 T6.1
      have hB17 := hB16.trans (hB7.mono hB16.size)
      clear HC hwh6 hb6 hA6 hP6 T6 hB7 hB16
      go_wp2_with fail
      refine (awake12_any w7 T7).mono ?_
      rintro e w8 ⟨rfl, hB8⟩
      have hB18 := hB17.trans (hB8.mono hB17.size)
      clear hB8
      go_wp2_with fail
      go_ret
      exact ⟨rfl, hB18⟩
    · have hback := algF_back alg (by omega) key iv aad b h0
      rw [h0]
      have hX9 : (algF alg false key iv aad b).2.length < 1000000 := by
        rw [if_neg (by simp)] at hlen
        rw [hlen]
        unfold roomF
        (repeat' split) <;> simp <;> omega
      obtain ⟨X, hX⟩ : ∃ X, (algF alg false key iv aad b).2 = X := ⟨_, rfl⟩
      rw [hX] at hback hcx hrx hX9 ⊢
      clear hX hlen h0
      have c1 : w6.cell? ⟨sq, 1, none⟩ = some (.bool false) := hb6.cell 1
      have f1 := hb6.frozen 1
      have hb7 := hb6.set 1 (.bool true)
      rw [parD_set] at hb7
      have hC7 : Chg w6.heap.size [sq] w6 (w6.setCell ⟨sq, 1, none⟩ (.bool true)) := (Chg.refl _ _ _).setCell (p := ⟨sq, 1, none⟩) (.inl (by simp)) _
      have hoff : ∀ {l : List UInt8} {p : Option Addr}, RowAt w6 p l → 0 < l.length → Off [sq] p := fun hr hp a e => by
        obtain ⟨b0, o0, e0, _, hc⟩ := hr 0 hp
        rw [e] at e0; cases e0
        intro hm
        simp only [List.mem_cons, List.not_mem_nil, or_false] at hm
        subst hm
        rw [hb6.cell] at hc
        have hm := List.mem_of_getElem? hc
        simp at hm
      have hrx7 := hrx.chg2 hC7 (Nat.le_refl _) (hoff hrx)
      have hP7 : ParAt (w6.setCell ⟨sq, 1, none⟩ (.bool true)) true key iv aad pk3 ck3 pv3 cv3 pa3 ca3 := ⟨hP6.rk.chg2 hC7 (Nat.le_refl _) (hoff hP6.rk), hP6.rv.chg2 hC7 (Nat.le_refl _) (hoff hP6.rv), hP6.ra.chg2 hC7 (Nat.le_refl _) (hoff hP6.ra), hP6.ck, hP6.cv, hP6.ca, hP6.la⟩
      have hrb7 := hA6.rb.chg2 hC7 (Nat.le_refl _) (hoff hA6.rb)
      have hB17 : Below w.heap.size w (w6.setCell ⟨sq, 1, none⟩ (.bool true)) := hB16.trans (hC7.below (M := w.heap.size) hB16.size (fun k hk => by simp at hk; have := Hsq.out; omega))
      have T7 : TabW (w6.setCell ⟨sq, 1, none⟩ (.bool true)) := T.below hB17 T.1
      have hall := hid (And.intro hb7 (And.intro hrx7 (And.intro hP7 (And.intro hrb7 (And.intro hB17 T7)))))
      clear hb7 hrx7 hP7 hrb7 hB17 T7 hC7 hoff hb6 hA6 hP6 T6 hB16 hrx hwh6
      go_upto_region 9 with fail
      change Code.wp _ _ _ _ (w6.setCell ⟨sq, 1, none⟩ (.bool true))
      obtain ⟨hb7, hrx7, hP7, hrb7, hB17, T7⟩ := hall.out
      generalize w6.setCell ⟨sq, 1, none⟩ (.bool true) = w7 at *
      clear hall c1 f1
      have hwh7 := hid hb7.whole
      have HD := hid (do_any w7 alg true key iv aad X pk3 ck3 pv3 cv3 pa3 ca3 hP7 px cx hrx7 hcx hX9 T7)
      rw [hback] at HD
      clear hP7 hrx7 hb7
      go_wp2_with (refine wpList_load_mid rfl tPar (.tmp 5) rfl sq 0 rfl (parD alg true key iv aad pk3 ck3 pv3 cv3 pa3 ca3) _ hwh7.out Tryz.underlying31 rfl sizePar ?_)
      refine HD.out.mono ?_
      rintro e w8 ⟨⟨v, rfl, ⟨py, cy, rfl, _, hry⟩, _⟩, hB8⟩
      have hrb8 := hrb7.below hB8
      have T8 := T7.below hB8 T7.1
      have hB18 := hB17.trans (hB8.mono hB17.size)
      have s1 := str_row (c := cy) hry rfl
      have s2 := str_row (c := cb) hrb8 rfl
      have HW := hid (awake12_any w8 T8)
      generalize str b = s at *
      clear HD hwh7 hrb7 T7 hB17 hB8 hry hrb8 T8
      go_wp2_with fail
      refine HW.out.mono ?_
      rintro e w9 ⟨rfl, hB9⟩
      have hB19 := hB18.trans (hB9.mono hB18.size)
      clear hB9 HW s1 s2
      go_wp2_with fail
      go_ret
      exact ⟨rfl, hB19⟩
  · rw [decide_eq_false hs]
    go_wp2_with fail
    go_ret
    exact ⟨rfl, hB12⟩
end Go.Proofs.YtnmmnlffobnbfaaGreatDoor
