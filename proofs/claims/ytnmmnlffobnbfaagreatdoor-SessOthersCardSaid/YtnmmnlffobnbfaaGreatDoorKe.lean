/- which params may be: algo.Check -/
import Derived.Test.YtnmmnlffobnbfaaGreatDoorKd
namespace Go.Proofs.YtnmmnlffobnbfaaGreatDoor
open Go.RowKit

abbrev noKindC : List Value := [.int .i64 0, .bool false, .slice none 0 0, .int .i64 0, .int .i64 0, .int .i64 0, .nilFunc, .nilFunc]
abbrev noKind : Value := .agg noKindC.toArray
abbrev kindC (cls : Int) (one : Bool) (key : Value) (i0 i1 aad : Int) (room do_ : FuncId) : List Value :=
  [.int .i64 cls, .bool one, key, .int .i64 i0, .int .i64 i1, .int .i64 aad, fv room, fv do_]
theorem zeroK (W : World) : (zeroValue tKind).run Tryz.prog W = .ok noKind W := by kernel_rfl
theorem sizeK : (Tryz.prog.info? tKind).map (·.size) = some 8 := by kernel_rfl
theorem results_cell_two {P : Program} {fn : Func} {p q : Tmp} {ty : TypeId} (h : fn.results = #[.cell p ty, .tmp q]) (tmps : Array Value) (w : World) (g : Nat) (t : TypeId) (cs : Array Value) (fr : Nat × Nat) (d : TypeDesc) (u : Value)
    (hp : tmps.getD p undef = .pointer (some ⟨g, 0, none⟩)) (hq : tmps.getD q undef = u) (hg : w.heap[g]? = some (.cells cs t fr))
    (hu : P.underlying ty = some d) (hd : (match d with | .struct _ | .array _ _ => true | _ => false) = true) (hi : (P.info? ty).map (·.size) = some cs.size) :
    (results fn tmps).run P w = .ok (.tuple #[.agg cs, u]) w := by
  have hp' : tmps[p]?.getD undef = .pointer (some ⟨g, 0, none⟩) := by simpa using hp
  have hq' : tmps[q]?.getD undef = u := by simpa using hq
  simp [results, h, hp', hq', asAddr, run_loadVar_row w g t ty cs fr d hg hu hd hi]
theorem setWhole {w : World} {b : Nat} {old new : List Value} {T : TypeId} (h : Blk w b old T) (ho : new.length = old.length) : Blk (w.setCells b 0 new) b new T ∧ Chg w.heap.size [b] w (w.setCells b 0 new) := by
  have h1 := h.setCells new 0 (by omega)
  rw [splice_whole _ _ (by omega)] at h1
  exact ⟨h1, (Chg.refl _ _ w).setCells (.inl (by simp)) _ _⟩
theorem kOne (cls : Int) (one : Bool) (key : Value) (i0 i1 aad : Int) (room do_ : FuncId) (hk : key.oneCell' = true) : ∀ v ∈ kindC cls one key i0 i1 aad room do_, v.oneCell' = true := by
  intro v hv
  simp only [List.mem_cons, List.not_mem_nil, or_false] at hv
  rcases hv with rfl | rfl | rfl | rfl | rfl | rfl | rfl | rfl <;> first | rfl | exact hk
theorem noOne : ∀ v ∈ noKindC, v.oneCell' = true := by
  intro v hv
  simp only [List.mem_cons, List.not_mem_nil, or_false] at hv
  rcases hv with rfl | rfl | rfl | rfl | rfl | rfl | rfl | rfl <;> rfl
set_option maxRecDepth 100000 in
set_option maxHeartbeats 4000000 in
theorem found_some (w : World) (alg : Int) (op one : Bool) (cls i0 i1 aad : Int) (key : Nat → Nat → Nat → Value) (hko : ∀ g k1 k2, (key g k1 k2).oneCell' = true) (room do_ : FuncId) (h : ∀ g k1 k2, getM (kindsL g k1 k2) alg = some (kindV cls one (key g k1 k2) i0 i1 aad room do_)) :
    Calls Tryz.prog 57 #[.int .i64 alg, .bool op] w fun e w' => ∃ g k1 k2, e = .returned (if (op && one) = true then .tuple #[noKind, .int .i64 4] else .tuple #[.agg (kindC cls one (key g k1 k2) i0 i1 aad room do_).toArray, .int .i64 0]) ∧ Blk w' g (ints' [16, 16, 32, 32]) tSpan ∧ Blk w' k1 (ints' [0, 0]) tSpan ∧ Blk w' k2 (ints' [1, 100]) tSpan ∧ Below w.heap.size w w' := by
  have hz0 := Blk.new w noKindC tKind
  have hBz : Below w.heap.size w (w.alloc (.cells noKindC.toArray tKind)) := (Below.refl _ _).alloc (Nat.le_refl _) _
  have hsz : (w.alloc (.cells noKindC.toArray tKind)).heap.size = w.heap.size + 1 := by simp
  obtain ⟨wa, hwa⟩ : ∃ wa, w.alloc (.cells noKindC.toArray tKind) = wa := ⟨_, rfl⟩
  rw [hwa] at hz0 hBz hsz
  have HWA := hid hwa
  clear hwa
  go_enter Tryz.func57, Tryz.ntmps57
  go_wp2_with fail
  change Calls _ _ _ (w.alloc (.cells noKindC.toArray tKind)) _
  rw [HWA.out]
  clear HWA
  refine (kinds_any _).mono ?_
  rintro e w1 ⟨b, g, k1, k2, rfl, hm, h0, h1, h2, hB⟩
  have hl := run_look_ents underK .i64 fk rfl true (zeroK w1) hm alg
  rw [h g k1 k2] at hl
  simp only [if_true] at hl
  change _ = Result.ok (Value.tuple #[.agg (kindC cls one (key g k1 k2) i0 i1 aad room do_).toArray, .bool true]) w1 at hl
  have h10 := hz0.below hB hz0.lt
  have hB1 : Below w.heap.size w w1 := hBz.trans (hB.mono (by omega))
  have hgt : w.heap.size < w1.heap.size := by have := h10.lt; omega
  have hk1 := kOne cls one (key g k1 k2) i0 i1 aad room do_ (hko g k1 k2)
  obtain ⟨kk, hkk⟩ : ∃ kk, key g k1 k2 = kk := ⟨_, rfl⟩
  rw [hkk] at hk1 hl
  have HKK := hid hkk
  clear hkk
  have hN := Blk.new w1 noKindC tKind
  have g0 := h0.alloc (.cells noKindC.toArray tKind)
  have g1 := h1.alloc (.cells noKindC.toArray tKind)
  have g2 := h2.alloc (.cells noKindC.toArray tKind)
  have g10 := h10.alloc (.cells noKindC.toArray tKind)
  have hB2 : Below w.heap.size w (w1.alloc (.cells noKindC.toArray tKind)) := hB1.alloc hB1.size _
  have hn0 : g ≠ w1.heap.size := by have := h0.lt; omega
  have hn1 : k1 ≠ w1.heap.size := by have := h1.lt; omega
  have hn2 : k2 ≠ w1.heap.size := by have := h2.lt; omega
  have ht := hN.there 0 8 (Nat.le_refl _)
  have hs2 : (w1.alloc (.cells noKindC.toArray tKind)).heap.size = w1.heap.size + 1 := by simp
  obtain ⟨w2, hw2⟩ : ∃ w2, w1.alloc (.cells noKindC.toArray tKind) = w2 := ⟨_, rfl⟩
  rw [hw2] at hN g0 g1 g2 g10 hB2 hs2
  obtain ⟨hN3, hC3⟩ := setWhole hN (new := kindC cls one kk i0 i1 aad room do_) rfl
  have f0 := g0.chg hC3 g0.lt (by simpa using hn0)
  have f1 := g1.chg hC3 g1.lt (by simpa using hn1)
  have f2 := g2.chg hC3 g2.lt (by simpa using hn2)
  have f10 := g10.chg hC3 g10.lt (by simp; omega)
  have hB3 := hB2.trans (hC3.below hB2.size (fun k hk => by simp at hk; omega))
  have hs3 := (size_setCells w2 w1.heap.size (kindC cls one kk i0 i1 aad room do_) 0).trans hs2
  obtain ⟨w3, hw3⟩ : ∃ w3, w2.setCells w1.heap.size 0 (kindC cls one kk i0 i1 aad room do_) = w3 := ⟨_, rfl⟩
  rw [hw3] at hN3 f0 f1 f2 f10 hB3 hs3
  clear h0 h1 h2 h10 g0 g1 g2 g10 hC3 hB2 hB hBz hz0 hN hm
  have c1 : w3.cell? ⟨w1.heap.size, 1, none⟩ = some (.bool one) := hN3.cell 1
  have HW2 := hid hw2
  have HW3 := hid hw3
  clear hw2 hw3
  go_upto_region 2 with (refine wpList_store_mid rfl tKind (.tmp 6) (.tmp 12) rfl w1.heap.size 0 (kindC cls one kk i0 i1 aad room do_).toArray rfl rfl ht sizeK (all_oneCell_toArray hk1) ?_; change wpList _ _ _ _ _ ((w1.alloc (.cells noKindC.toArray tKind)).setCells w1.heap.size 0 (kindC cls one kk i0 i1 aad room do_)); rw [HW2.out, HW3.out]; clear HW2 HW3 ht)
  have Htt := hid (f10.there 0 8 (Nat.le_refl _))
  have Hall := hid hN3.whole
  have F10 := hid f10
  have e0 : g ≠ w.heap.size := f0.ne f10 (by decide)
  have e1 : k1 ≠ w.heap.size := f1.ne f10 (by decide)
  have e2 : k2 ≠ w.heap.size := f2.ne f10 (by decide)
  clear f10 hN3
  cases op
  · go_upto_region 4 with (fail)
    refine wp_region_list ?_
    refine wpList_load_mid rfl tKind (.tmp 6) rfl w1.heap.size 0 rfl (kindC cls one kk i0 i1 aad room do_) _ Hall.out Tryz.underlying89 rfl sizeK ?_
    refine wpList_store_mid rfl tKind (.tmp 4) (.tmp 24) rfl w.heap.size 0 (kindC cls one kk i0 i1 aad room do_).toArray rfl rfl Htt.out sizeK (all_oneCell_toArray hk1) ?_
    obtain ⟨hN4, hC4⟩ := setWhole F10.out (new := kindC cls one kk i0 i1 aad room do_) rfl
    change wpList _ _ _ _ _ (w3.setCells w.heap.size 0 (kindC cls one kk i0 i1 aad room do_))
    generalize w3.setCells w.heap.size 0 (kindC cls one kk i0 i1 aad room do_) = w4 at *
    go_wp2_with fail
    refine bodyPost_ret (results_cell_two (P := Tryz.prog) (p := 4) (q := 5) (ty := tKind) rfl _ _ w.heap.size tKind _ (0, 0) _ (.int .i64 0) rfl rfl hN4 Tryz.underlying89 rfl sizeK) rfl ⟨g, k1, k2, by rw [HKK.out], f0.chg hC4 f0.lt (by simpa using e0), f1.chg hC4 f1.lt (by simpa using e1), f2.chg hC4 f2.lt (by simpa using e2), hB3.trans (hC4.below hB3.size (fun k hk => by simp at hk; omega))⟩
  · cases one
    · go_upto_region 4 with (fail)
      refine wp_region_list ?_
      refine wpList_load_mid rfl tKind (.tmp 6) rfl w1.heap.size 0 rfl (kindC cls false kk i0 i1 aad room do_) _ Hall.out Tryz.underlying89 rfl sizeK ?_
      refine wpList_store_mid rfl tKind (.tmp 4) (.tmp 24) rfl w.heap.size 0 (kindC cls false kk i0 i1 aad room do_).toArray rfl rfl Htt.out sizeK (all_oneCell_toArray hk1) ?_
      obtain ⟨hN4, hC4⟩ := setWhole F10.out (new := kindC cls false kk i0 i1 aad room do_) rfl
      change wpList _ _ _ _ _ (w3.setCells w.heap.size 0 (kindC cls false kk i0 i1 aad room do_))
      generalize w3.setCells w.heap.size 0 (kindC cls false kk i0 i1 aad room do_) = w4 at *
      go_wp2_with fail
      refine bodyPost_ret (results_cell_two (P := Tryz.prog) (p := 4) (q := 5) (ty := tKind) rfl _ _ w.heap.size tKind _ (0, 0) _ (.int .i64 0) rfl rfl hN4 Tryz.underlying89 rfl sizeK) rfl ⟨g, k1, k2, by rw [HKK.out], f0.chg hC4 f0.lt (by simpa using e0), f1.chg hC4 f1.lt (by simpa using e1), f2.chg hC4 f2.lt (by simpa using e2), hB3.trans (hC4.below hB3.size (fun k hk => by simp at hk; omega))⟩
    · go_upto_region 3 with (fail)
      go_wp2_with (refine wpList_store_mid rfl tKind (.tmp 4) (.tmp 23) rfl w.heap.size 0 (noKindC).toArray rfl rfl Htt.out sizeK (all_oneCell_toArray noOne) ?_; obtain ⟨hN4, hC4⟩ := setWhole F10.out (new := noKindC) rfl; change wpList _ _ _ _ _ (w3.setCells w.heap.size 0 (noKindC)); generalize w3.setCells w.heap.size 0 (noKindC) = w4 at *)
      refine bodyPost_ret (results_cell_two (P := Tryz.prog) (p := 4) (q := 5) (ty := tKind) rfl _ _ w.heap.size tKind _ (0, 0) _ (.int .i64 4) rfl rfl hN4 Tryz.underlying89 rfl sizeK) rfl ⟨rfl, ⟨g, f0.chg hC4 f0.lt (by simpa using e0)⟩, ⟨k1, f1.chg hC4 f1.lt (by simpa using e1)⟩, ⟨k2, f2.chg hC4 f2.lt (by simpa using e2)⟩, hB3.trans (hC4.below hB3.size (fun k hk => by simp at hk; omega))⟩
set_option maxRecDepth 100000 in
set_option maxHeartbeats 4000000 in
theorem found_none (w : World) (alg : Int) (op : Bool) (h : ∀ g k1 k2, getM (kindsL g k1 k2) alg = none) :
    Calls Tryz.prog 57 #[.int .i64 alg, .bool op] w fun e w' => e = .returned (.tuple #[noKind, .int .i64 4]) ∧ Below w.heap.size w w' := by
  have hz0 := Blk.new w noKindC tKind
  have hBz : Below w.heap.size w (w.alloc (.cells noKindC.toArray tKind)) := (Below.refl _ _).alloc (Nat.le_refl _) _
  have hsz : (w.alloc (.cells noKindC.toArray tKind)).heap.size = w.heap.size + 1 := by simp
  obtain ⟨wa, hwa⟩ : ∃ wa, w.alloc (.cells noKindC.toArray tKind) = wa := ⟨_, rfl⟩
  rw [hwa] at hz0 hBz hsz
  have HWA := hid hwa
  clear hwa
  go_enter Tryz.func57, Tryz.ntmps57
  go_wp2_with fail
  change Calls _ _ _ (w.alloc (.cells noKindC.toArray tKind)) _
  rw [HWA.out]
  clear HWA
  refine (kinds_any _).mono ?_
  rintro e w1 ⟨b, g, k1, k2, rfl, hm, h0, h1, h2, hB⟩
  have hl := run_look_ents underK .i64 fk rfl true (zeroK w1) hm alg
  rw [h g k1 k2] at hl
  simp only [if_true] at hl
  have h10 := hz0.below hB hz0.lt
  have hB1 : Below w.heap.size w w1 := hBz.trans (hB.mono (by omega))
  have hgt : w.heap.size < w1.heap.size := by have := h10.lt; omega
  clear h0 h1 h2 hm hz0 hB hBz
  have hN := Blk.new w1 noKindC tKind
  have g10 := h10.alloc (.cells noKindC.toArray tKind)
  have hB2 : Below w.heap.size w (w1.alloc (.cells noKindC.toArray tKind)) := hB1.alloc hB1.size _
  have ht := hN.there 0 8 (Nat.le_refl _)
  obtain ⟨w2, hw2⟩ : ∃ w2, w1.alloc (.cells noKindC.toArray tKind) = w2 := ⟨_, rfl⟩
  rw [hw2] at hN g10 hB2
  obtain ⟨hN3, hC3⟩ := setWhole hN (new := noKindC) rfl
  have f10 := g10.chg hC3 g10.lt (by simp; omega)
  have hB3 := hB2.trans (hC3.below hB2.size (fun k hk => by simp at hk; omega))
  obtain ⟨w3, hw3⟩ : ∃ w3, w2.setCells w1.heap.size 0 noKindC = w3 := ⟨_, rfl⟩
  rw [hw3] at hN3 f10 hB3
  clear g10 hC3 hB2 hN h10
  have HW2 := hid hw2
  have HW3 := hid hw3
  clear hw2 hw3
  go_upto_region 2 with (refine wpList_store_mid rfl tKind (.tmp 6) (.tmp 12) rfl w1.heap.size 0 noKindC.toArray rfl rfl ht sizeK (all_oneCell_toArray noOne) ?_; change wpList _ _ _ _ _ ((w1.alloc (.cells noKindC.toArray tKind)).setCells w1.heap.size 0 noKindC); rw [HW2.out, HW3.out]; clear HW2 HW3 ht)
  have Htt := hid (f10.there 0 8 (Nat.le_refl _))
  have F10 := hid f10
  clear f10 hN3 hl
  go_upto_region 3 with (fail)
  go_wp2_with (refine wpList_store_mid rfl tKind (.tmp 4) (.tmp 23) rfl w.heap.size 0 (noKindC).toArray rfl rfl Htt.out sizeK (all_oneCell_toArray noOne) ?_; obtain ⟨hN4, hC4⟩ := setWhole F10.out (new := noKindC) rfl; change wpList _ _ _ _ _ (w3.setCells w.heap.size 0 (noKindC)); generalize w3.setCells w.heap.size 0 (noKindC) = w4 at *)
  refine bodyPost_ret (results_cell_two (P := Tryz.prog) (p := 4) (q := 5) (ty := tKind) rfl _ _ w.heap.size tKind _ (0, 0) _ (.int .i64 4) rfl rfl hN4 Tryz.underlying89 rfl sizeK) rfl ⟨rfl, hB3.trans (hC4.below hB3.size (fun k hk => by simp at hk; omega))⟩
end Go.Proofs.YtnmmnlffobnbfaaGreatDoor
