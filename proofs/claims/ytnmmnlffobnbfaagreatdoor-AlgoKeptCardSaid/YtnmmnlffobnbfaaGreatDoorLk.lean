/- AlgoKept, walked (printed by gen_lk.py) -/
import Derived.Test.YtnmmnlffobnbfaaGreatDoorLb
namespace Go.Proofs.YtnmmnlffobnbfaaGreatDoor
open Go.RowKit

theorem make_room (W : World) (n : Nat) (h : n ≤ 1000000) : (Instr.makeSlice 23 (.int .i64 0) (.int .i64 (n : Int))).run Tryz.prog W = .ok (.slice (some ⟨W.heap.size, 0, none⟩) 0 n) (W.alloc (.cells (bys (List.replicate n 0)).toArray 5)) := by
  obtain ⟨i, hi, hz, hs, hb⟩ := info_parts info5
  have hr := run_make (P := Tryz.prog) W 23 5 i (.int .u8 0) under33b hi hz .i64 .i64 0 n (by omega) (by omega) (by rw [hb]; omega) (by omega)
  rw [hs, Nat.mul_one, Int.toNat_natCast] at hr
  have e : madeCells (Value.int .u8 0).cells n = (bys (List.replicate n 0)).toArray := madeCells_bys n
  rw [e] at hr
  exact hr
theorem append_room (W : World) (ty : TypeId) (g n m : Nat) (hg : Blk W g (bys (List.replicate (n + m) 0)) tU8) (pb : Option Addr) (cb : Nat) (b : List UInt8) (hb : RowAt W pb b) (hn : b.length = n) :
    ∃ W', (Builtin.append_ #[23, 23] ty #[.slice (some ⟨g, 0, none⟩) 0 (n + m), .slice pb n cb]).run Tryz.prog W = .ok (.slice (some ⟨g, 0, none⟩) n (n + m)) W' ∧ Blk W' g (bys (b ++ List.replicate m 0)) tU8 ∧ Chg W.heap.size [g] W W' := by
  obtain ⟨i, hi, hz, hs, hby⟩ := info_parts info5
  by_cases h0 : n = 0
  · subst h0
    obtain rfl : b = [] := List.eq_nil_of_length_eq_zero hn
    have hsrc : Src Tryz.prog i.size 23 (.slice pb 0 cb) 0 [] W := by
      cases pb with
      | none => exact Src.ofNil W under33b cb
      | some a => exact Src.ofSlice W under33b a 0 cb [] (by simp) (fun j u hu => by simp at hu) (fun u hu => by simp at hu)
    refine ⟨W, run_append_nothing W 23 23 ty 5 i under33b hi _ 0 (0 + m) (by omega) _ hsrc, ?_, Chg.refl _ _ _⟩
    rw [Nat.zero_add] at hg
    exact hg
  · obtain ⟨q, o, rfl, _, _⟩ := hb 0 (by omega)
    have hnl : (bys b).length = n := by rw [bys_length, hn]
    have hcl : (bys (List.replicate (n + m) (0 : UInt8))).length = n + m := by rw [bys_length, List.length_replicate]
    have hcell : ∀ j, j < (bys b).length → (W.cell? ⟨g, 0 + 0 * i.size + j, none⟩).isSome = true := fun j hj => by
      rw [hg.cell, List.getElem?_eq_getElem (by omega)]; rfl
    have hrun := run_append_room_cells (P := Tryz.prog) W 23 ty 5 i under33b hi g 0 0 (n + m) ⟨q, o, none⟩ n cb (bys b) (by rw [hs, Nat.mul_one, hnl]) (hb.src rfl) (bys_one _) (by omega) hcell (fun j _ => hg.frozen _)
    rw [Nat.zero_mul, Nat.add_zero, Nat.zero_add] at hrun
    have hb' := hg.setCells (bys b) 0 (by omega)
    have hsp : splice (bys (List.replicate (n + m) 0)) 0 (bys b) = bys (b ++ List.replicate m 0) := by
      unfold splice
      rw [List.take_zero, List.nil_append, Nat.zero_add, hnl]
      simp [bys]
    rw [hsp] at hb'
    exact ⟨_, hrun, hb', (Chg.refl _ _ W).setCells (.inl (by simp)) _ _⟩
set_option maxRecDepth 100000 in
set_option maxHeartbeats 8000000 in
theorem algoKept_walk (w : World) (T : TabW w) (alg : Int) (op : Bool) (key iv aad b : List UInt8) (pk : Option Addr) (ck : Nat) (pv : Option Addr) (cv : Nat) (pa : Option Addr) (ca : Nat) (pb : Option Addr) (cb : Nat) (hA : ArgP w key iv aad b pk ck pv cv pa ca pb cb) :
    Calls Tryz.prog 7 #[.agg (parD alg op key iv aad pk ck pv cv pa ca).toArray, .slice pb b.length cb] w fun e w' => e = .returned (.bool true) ∧ Below w.heap.size w w' := by
  have hb := Blk.new w (parD alg op key iv aad pk ck pv cv pa ca) tRP
  have hB : Below w.heap.size w (w.alloc (.cells (parD alg op key iv aad pk ck pv cv pa ca).toArray tRP)) := (Below.refl _ _).alloc (Nat.le_refl _) _
  obtain ⟨w1, hw1⟩ : ∃ w1, w.alloc (.cells (parD alg op key iv aad pk ck pv cv pa ca).toArray tRP) = w1 := ⟨_, rfl⟩
  rw [hw1] at hb hB
  have hA1 := hA.below hB
  have T1 := T.below hB T.1
  have HW1 := hid hw1
  have hwh := hid hb.whole
  clear hw1 hA
  by_cases h100 : 100 < b.length
  · have q1 : (100 : Int) < (b.length : Int) := by omega
    go_enter Tryz.func7, Tryz.ntmps7
    go_upto_region 1 with fail
    change Code.wp _ _ _ _ (w.alloc (.cells (parD alg op key iv aad pk ck pv cv pa ca).toArray tRP))
    rw [HW1.out]
    go_wp2_with fail
    go_ret
    exact ⟨rfl, hB⟩
  have q1 : ¬ (100 : Int) < (b.length : Int) := by omega
  go_enter Tryz.func7, Tryz.ntmps7
  go_upto_region 1 with fail
  change Code.wp _ _ _ _ (w.alloc (.cells (parD alg op key iv aad pk ck pv cv pa ca).toArray tRP))
  rw [HW1.out]
  go_wp2_with (refine wpList_load_midG rfl tRP (.tmp 2) rfl w.heap.size 0 rfl (parD alg op key iv aad pk ck pv cv pa ca) _ hwh.out Tryz.underlying40 rfl sizeRP ?_)
  refine (pshort_any w1 alg op pk key.length ck pv iv.length cv pa aad.length ca).mono ?_
  rintro e w2 ⟨rfl, hB2⟩
  have hb2 := hb.below hB2 hb.lt
  have hA2 := hA1.below hB2
  have T2 := T1.below hB2 T1.1
  have hB12 := hB.trans (hB2.mono hB.size)
  have hwh2 := hid hb2.whole
  clear hwh HW1 hb hA1 hB2 hB T1
  by_cases hs : key.length ≤ 120 ∧ iv.length ≤ 100 ∧ aad.length ≤ 1100
  · rw [decide_eq_true hs]
    have HP := hid (pof_any w2 alg op key iv aad pk ck pv cv pa ca (hA2.par op (by omega)) (by omega) (by omega))
    go_wp2_with (refine wpList_load_mid rfl tRP (.tmp 2) rfl w.heap.size 0 rfl (parD alg op key iv aad pk ck pv cv pa ca) _ hwh2.out Tryz.underlying40 rfl sizeRP ?_)
    refine HP.out.mono ?_
    rintro e w3 ⟨pk3, ck3, pv3, cv3, pa3, ca3, rfl, hP3, hB3⟩
    have hb3 := hb2.below hB3 hb2.lt
    have hA3 := hA2.below hB3
    have hB13 := hB12.trans (hB3.mono hB12.size)
    have hz := Blk.new w3 parZ tPar
    obtain ⟨hq4, hC4⟩ := setWhole hz (new := parD alg op key iv aad pk3 ck3 pv3 cv3 pa3 ca3) rfl
    have hth := hid (hz.there 0 5 (Nat.le_refl _))
    have hB34 : Below w3.heap.size w3 ((w3.alloc (.cells parZ.toArray tPar)).setCells w3.heap.size 0 (parD alg op key iv aad pk3 ck3 pv3 cv3 pa3 ca3)) := ((Below.refl _ _).alloc (Nat.le_refl _) _).trans (hC4.below (M := w3.heap.size) (by simp) (fun k hk => by simp at hk; omega))
    obtain ⟨w4, h4⟩ : ∃ w4, (w3.alloc (.cells parZ.toArray tPar)).setCells w3.heap.size 0 (parD alg op key iv aad pk3 ck3 pv3 cv3 pa3 ca3) = w4 := ⟨_, rfl⟩
    rw [h4] at hq4 hB34
    have H4 := hid h4
    have hb4 := hb3.below hB34 hb3.lt
    have hA4 := hA3.below hB34
    have hP4 := hP3.below hB34
    have hB14 := hB13.trans (hB34.mono hB13.size)
    obtain ⟨n, hn⟩ : ∃ n, b.length = n := ⟨_, rfl⟩
    obtain ⟨nn, hnn⟩ : ∃ nn, n + 40 = nn := ⟨_, rfl⟩
    have hni : (n : Int) + 40 = (nn : Int) := by omega
    have n9 : n ≤ 100 := by omega
    have nn9 : nn ≤ 140 := by omega
    have hmk := make_room w4 nn (by omega)
    have hg := Blk.new w4 (bys (List.replicate nn 0)) tU8
    have hBg : Below w4.heap.size w4 (w4.alloc (.cells (bys (List.replicate nn 0)).toArray tU8)) := (Below.refl _ _).alloc (Nat.le_refl _) _
    rw [← hnn] at hg hBg
    obtain ⟨w5, hrun, hg5, hC5⟩ := append_room _ 23 w4.heap.size n 40 hg pb cb b (hA4.rb.below hBg) hn
    rw [hnn] at hrun hC5 hBg
    have hrun := hid hrun
    have hB45 := hBg.trans (hC5.below (M := w4.heap.size) (by simp) (fun k hk => by simp at hk; omega))
    have hb5 := hb4.below hB45 hb4.lt
    have hq5 := hq4.below hB45 hq4.lt
    have hA5 := hA4.below hB45
    have hP5 := hP4.below hB45
    have hB15 := hB14.trans (hB45.mono hB14.size)
    have T5 := T.below hB15 T.1
    have hwh5 := hid hq5.whole
    have hrc : RowAt w5 (some ⟨w4.heap.size, 0, none⟩) b := by
      have := hg5.rowAt0.take n
      rw [List.take_append_of_le_length (by omega), List.take_of_length_le (by omega)] at this
      exact this
    have HD := hid (fun W T rb P => do_any W alg op key iv aad b pk3 ck3 pv3 cv3 pa3 ca3 P (some ⟨w4.heap.size, 0, none⟩) nn rb (by omega) (by omega) T)
    rw [hn] at HD
    have Hn := hid hn
    have Hnn := hid hnn
    clear HP hwh2 hb2 hA2 T2 hB3 hB12 h4 hz hC4 hB13 hP3 hb3 hA3 hq4 hB34 hb4 hA4 hP4 hB14 hg hBg hC5 hB45 hn hnn
    go_upto_region 4 with (refine wpList_store_mid rfl tPar (.tmp 5) (.tmp 22) rfl w3.heap.size 0 (parD alg op key iv aad pk3 ck3 pv3 cv3 pa3 ca3).toArray rfl rfl hth.out sizePar (parC_one _ _ _ _ _ _ _ _ _ _ _) ?_; change wpList _ _ _ _ _ ((w3.alloc (.cells parZ.toArray tPar)).setCells w3.heap.size 0 (parD alg op key iv aad pk3 ck3 pv3 cv3 pa3 ca3)); rw [H4.out]; clear H4 hth)
    rw [Hn.out]
    generalize w3.heap.size = sq at *
    go_upto_region 5 with (refine wpList_append_got rfl (.tmp 26) (.tmp 27) 23 23 rfl (.slice (some ⟨w4.heap.size, 0, none⟩) 0 nn) (.slice pb n cb) _ rfl rfl hrun.out ?_)
    generalize w4.heap.size = g at *
    clear hrun hmk
    go_wp2_with (refine wpList_load_mid rfl tPar (.tmp 5) rfl sq 0 rfl (parD alg op key iv aad pk3 ck3 pv3 cv3 pa3 ca3) _ hwh5.out Tryz.underlying31 rfl sizePar ?_)
    refine (HD.out w5 T5 hrc hP5).mono ?_
    rintro e w6 ⟨⟨v, rfl, ⟨px, cx, rfl, _, hrx⟩, _⟩, hB6⟩
    have hb6 := hb5.below hB6 hb5.lt
    have hq6 := hq5.below hB6 hq5.lt
    have hg6 := hg5.below hB6 hg5.lt
    have hA6 := hA5.below hB6
    have hP6 := hP5.below hB6
    have T6 := T5.below hB6 T5.1
    have hB16 := hB15.trans (hB6.mono hB15.size)
    clear hwh5 hb5 hq5 hg5 hA5 hP5 T5 hB6 hB15 hrc
    generalize algF alg op key iv aad b = R at *
    have q7 : (nn : Int) ≤ (nn : Int) := Int.le_refl _
    go_wp2_with fail
    go_loopw [10] (fun i wr => ∃ k : Nat, n ≤ k ∧ k ≤ nn ∧ i = .int .i64 k ∧ wr = w6) (fun i _ => nn - (intOf i).toNat)
    case atStart => exact ⟨n, Nat.le_refl _, by have := Hnn.out; omega, rfl, rfl⟩
    case round =>
      obtain ⟨k, hk1, hk2, rfl, rfl⟩ := hrel
      by_cases hlt : k < nn
      · have q8 : (k : Int) < (nn : Int) := by omega
        have ck0 : wr.cell? ⟨g, k, none⟩ = some (.int .u8 0) := by
          rw [hg6.cell, bys_get _ _ (by simp; have := Hn.out; have := Hnn.out; omega)]
          have : (b ++ List.replicate 40 (0 : UInt8)).getD k 0 = 0 := by
            rw [List.getD_eq_getElem?_getD, List.getElem?_append_right (by have := Hn.out; omega), List.getElem?_replicate]
            split <;> rfl
          rw [this]; rfl
        clear hb6 hq6 hg6 hA6 hP6 T6 hB16 hrx
        go_wp2_with fail
        go_roundw
        case rel => exact ⟨k + 1, by omega, by omega, by go_num, trivial⟩
        case measure => (simp [intOf]; try omega)
      · obtain rfl : k = nn := by omega
        have q8 : ¬ (k : Int) < (k : Int) := by omega
        have hwh6 := hid hq6.whole
        have hrc6 : RowAt wr (some ⟨g, 0, none⟩) b := by
          have := hg6.rowAt0.take n
          rw [List.take_append_of_le_length (by have := Hn.out; omega), List.take_of_length_le (by have := Hn.out; omega)] at this
          exact this
        go_wp2_with (refine wpList_load_mid rfl tPar (.tmp 5) rfl sq 0 rfl (parD alg op key iv aad pk3 ck3 pv3 cv3 pa3 ca3) _ hwh6.out Tryz.underlying31 rfl sizePar ?_)
        refine (HD.out wr T6 hrc6 hP6).mono ?_
        rintro e w8 ⟨⟨v, rfl, ⟨py, cy, rfl, _, hry⟩, _⟩, hB8⟩
        have hb8 := hb6.below hB8 hb6.lt
        have hq8 := hq6.below hB8 hq6.lt
        have hA8 := hA6.below hB8
        have hP8 := hP6.below hB8
        have T8 := T6.below hB8 T6.1
        have hB18 := hB16.trans (hB8.mono hB16.size)
        have hrx8 := hrx.below hB8
        have hrc8 := hrc6.below hB8
        have k2 : w8.cell? ⟨sq, 2, none⟩ = some (.slice pk3 key.length ck3) := hq8.cell 2
        have k3 : w8.cell? ⟨sq, 3, none⟩ = some (.slice pv3 iv.length cv3) := hq8.cell 3
        have k4 : w8.cell? ⟨sq, 4, none⟩ = some (.slice pa3 aad.length ca3) := hq8.cell 4
        have p2 : w8.cell? ⟨w.heap.size, 2, none⟩ = some (.slice pk key.length ck) := hb8.cell 2
        have p3 : w8.cell? ⟨w.heap.size, 3, none⟩ = some (.slice pv iv.length cv) := hb8.cell 3
        have p4 : w8.cell? ⟨w.heap.size, 4, none⟩ = some (.slice pa aad.length ca) := hb8.cell 4
        have s1 := str_row (c := k) hrc8 Hn.out
        have s2 := str_row (c := cb) hA8.rb Hn.out
        have s3 := str_row (c := ck3) hP8.rk rfl
        have s4 := str_row (c := ck) hA8.rk rfl
        have s5 := str_row (c := cv3) hP8.rv rfl
        have s6 := str_row (c := cv) hA8.rv rfl
        have s7 := str_row (c := ca3) hP8.ra rfl
        have s8 := str_row (c := ca) hA8.ra rfl
        have s9 := str_row (c := cx) hrx8 rfl
        have s10 := str_row (c := cy) hry rfl
        have HW := hid (awake12_any w8 T8)
        generalize str b = e1 at *
        generalize str key = e2 at *
        generalize str iv = e3 at *
        generalize str aad = e4 at *
        generalize str R.2 = e5 at *
        clear hwh6 hrc6 hb6 hq6 hg6 hA6 hP6 T6 hB16 hrx hB8 hb8 hq8 hA8 hP8 T8 hrx8 hrc8 hry
        go_wp2_with fail
        refine HW.out.mono ?_
        rintro e w9 ⟨rfl, hB9⟩
        have hB19 := hB18.trans (hB9.mono hB18.size)
        clear hB9 HW s1 s2 s3 s4 s5 s6 s7 s8 s9 s10 k2 k3 k4 p2 p3 p4
        go_wp2_with fail
        go_ret
        exact ⟨rfl, hB19⟩
  · rw [decide_eq_false hs]
    go_wp2_with fail
    go_ret
    exact ⟨rfl, hB12⟩
end Go.Proofs.YtnmmnlffobnbfaaGreatDoor
