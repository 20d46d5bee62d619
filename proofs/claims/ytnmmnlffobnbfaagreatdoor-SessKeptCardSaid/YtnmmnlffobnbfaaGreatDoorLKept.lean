/- sessions: SessKept, walked -/
import Derived.Test.YtnmmnlffobnbfaaGreatDoorSp
import Derived.Test.YtnmmnlffobnbfaaGreatDoorSt
import Derived.Test.YtnmmnlffobnbfaaGreatDoorTb4
import Derived.Deep.DeepCutAuto
namespace Go.Proofs.YtnmmnlffobnbfaaGreatDoor
open Go.RowKit

theorem check2 (n : Nat) (h1 : 1 ≤ n) (h2 : n ≤ 100) : checkF 2 false n 0 0 = 0 := by
  unfold checkF
  rw [if_neg (by simp), if_neg (by simp; omega), if_neg (by simp), if_neg (by simp)]
theorem SesAt.chg {w w' : World} {s t pb ob : Nat} {st : List Pl} {own : List Ses} {N : Nat} {F : List Nat} (h : SesAt w s t pb ob st own) (hC : Chg N F w w') (hN : w.heap.size ≤ N) (hs : s ∉ F) (ht : t ∉ F) (hp : pb ∉ F) (ho : ob ∉ F) : SesAt w' s t pb ob st own :=
  ⟨h.top.chg hC (Nat.lt_of_lt_of_le h.top.lt hN) hs, ⟨h.tab.1.chg hC (Nat.lt_of_lt_of_le h.tab.1.lt hN) ht, h.tab.2.chg hC (Nat.lt_of_lt_of_le h.tab.2.lt hN) hp⟩, h.row.chg hC (Nat.lt_of_lt_of_le h.row.lt hN) ho, h.len⟩
abbrev st3 : List Pl := [(true, 0), (false, 0), (false, 0)]

set_option maxRecDepth 100000 in
set_option maxHeartbeats 4000000 in
theorem sessKept_walk (pa : Option Addr) (n cap : Nat) (l : List UInt8) (by_ : UInt8) (w : World) (hr : RowAt w pa l) (hl : l.length = n) :
    Calls Tryz.prog 10 #[.slice pa n cap, .int .u8 (bv by_)] w fun e w' => e = .returned (.bool true) ∧ Below w.heap.size w w' := by
  by_cases hg : n < 1
  · obtain rfl : n = 0 := by omega
    go_enter Tryz.func10, Tryz.ntmps10
    go_wp2_with fail
    go_ret
    exact ⟨rfl, Below.refl _ _⟩
  by_cases hg2 : 100 < n
  · go_enter Tryz.func10, Tryz.ntmps10
    go_wp2_with fail
    go_ret
    exact ⟨rfl, Below.refl _ _⟩
  have Hl := hid hl
  have hck := hid (check2 n (by omega) (by omega))
  have q1 : ¬ (n : Int) < 1 := by omega
  have q2 : ¬ (100 : Int) < (n : Int) := by omega
  clear hl
  go_enter Tryz.func10, Tryz.ntmps10
  go_wp2_with fail
  refine (sessnew_any w 3 (by omega) (by omega)).mono ?_
  rintro e w1 ⟨s, t, pb, ob, rfl, hS, hB, hs0, hp0, ho0⟩
  have hr1 := hr.below hB
  have hra := hr1.below ((Below.refl w1.heap.size w1).alloc (Nat.le_refl _) (.cells #[] 5))
  have hst := hS.top.lt
  have hpt := hS.tab.2.lt
  have hot := hS.row.lt
  have htt := hS.tab.1.lt
  go_upto_region 5 with (refine wpList_addO (OwnR.made w1) rfl (.tmp 28) (.tmp 29) rfl rfl pa n cap l rfl hra Hl.out (by simp; omega) (by simp) ?_; intro v2 w2 hown2 hgrow2 _)
  have hC2 : Chg w1.heap.size [] w1 w2 := by
    have hg3 : w1.grownBy w2 none := ⟨hgrow2.os, hgrow2.tape, hgrow2.output, by have := hgrow2.size; simp at this; omega, fun k hk _ => by
      rw [hgrow2.block k (by simp; omega) (fun e => by simp [Value.ownBlock] at e; omega), Below.heap_alloc _ _ _ hk]⟩
    exact ⟨hg3.os, hg3.tape, hg3.output, hg3.size, fun k hk _ => hg3.block k hk (by simp)⟩
  rw [List.nil_append] at hown2
  have hnp : 0 < l.length := by rw [Hl.out]; omega
  obtain ⟨g, cg, rest, hv2, hcg, hgl, hb2⟩ := hown2.blk hnp
  subst hv2
  have hS2 : SesAt w2 s t pb ob (List.replicate 3 (false, 0)) (List.replicate 3 noSes) := hS.chg hC2 (Nat.le_refl _) (by simp) (by simp) (by simp) (by simp)
  have hr2 := hr1.chg hC2 (Nat.le_refl _) (fun _ _ => by simp)
  have hB2 : Below w.heap.size w w2 := hB.trans (hC2.below hB.size (by simp))
  have hs12 := hC2.size
  have hrg := hb2.headRow
  have HA := hid (sadd_any w2 s t pb ob (List.replicate 3 (false, 0)) (List.replicate 3 noSes) 0 hS2 (by simp) (by simp) (by decide) (by decide) 2 (some ⟨g, 0, none⟩) l.length cg l hrg rfl (by rw [Hl.out]; omega) (by rw [Hl.out]; exact hck.out) (fun a e => by cases e; simp; omega))
  rw [Hl.out] at HA
  clear hgrow2 hS hB hr1 hra hC2 hrg hown2 hnp
  have hlx := hid Hl.out
  rw [Hl.out]
  go_wp2_with fail
  refine HA.out.mono ?_
  rintro e w3 ⟨vk, rfl, hS3, hO3, hC3⟩
  rw [show hnum (List.replicate 3 (false, 0)) 0 = 1 from by decide]
  have hS3 : SesAt w3 s t pb ob st3 [(2, vk), noSes, noSes] := hS3
  have hb3 := hb2.chg hC3 hb2.lt (by simp; omega)
  obtain ⟨pk, ck, rfl, hck2, hrk⟩ := hO3.row
  clear hrk
  have hB3 := hB2.trans (hC3.below (M := w.heap.size) hB2.size (fun k hk => by simp at hk; omega))
  have hg3 := hb3.lt
  have hs23 := hC3.size
  have hg2' := hb2.lt
  clear hS2 HA hB2 hb2 hC3 hr2
  go_wp2_with fail
  go_loopw [10] (fun i wr => ∃ k : Nat, ∃ m : List UInt8, k ≤ n ∧ i = .int .i64 k ∧ m.length = n ∧ Blk wr g (bys m ++ rest) tU8 ∧ Chg w3.heap.size [g] w3 wr) (fun i _ => n - (intOf i).toNat)
  case atStart => exact ⟨0, l, by omega, rfl, hlx.out, hb3, Chg.refl _ _ _⟩
  case round =>
    obtain ⟨k, m, hk, rfl, hm, hbm, hCm⟩ := hrel
    have Hm := hid hm
    by_cases hlt : k < n
    · have c0 := hbm.headCell k (by omega)
      have f0 := hbm.frozen k
      have hbs := hid (bys_setAt m rest k (m.getD k 0 ^^^ by_) (by omega))
      generalize m.getD k 0 = y at *
      have hb5 := hid (hbm.set k (.int .u8 (bv (y ^^^ by_))))
      have hC5 := hid (hCm.setCell (p := ⟨g, k, none⟩) (.inl (by simp)) (.int .u8 (bv (y ^^^ by_))))
      clear hm hbm hCm
      go_wp2_with fail
      go_roundw
      case rel =>
        refine ⟨k + 1, m.set k (y ^^^ by_), by omega, by go_num, by rw [List.length_set]; exact Hm.out, ?_, hC5.out⟩
        have := hb5.out
        rw [hbs.out] at this
        exact this
      case measure => simp [intOf]; omega
    · obtain rfl : k = n := by omega
      clear hbm Hm hm
      go_wp2_with fail
      have hSr : SesAt wr s t pb ob st3 [(2, .slice pk l.length ck), noSes, noSes] := hS3.chg hCm (Nat.le_refl _) (by simp; omega) (by simp; omega) (by simp; omega) (by simp; omega)
      have hOr := hO3.chg hCm (Nat.le_refl _) (fun b e => by have := (hO3.lt b e).1; simp; omega)
      have hBr := hB3.trans (hCm.below (M := w.heap.size) hB3.size (fun k hk => by simp at hk; have := hB3.size; omega))
      have hw3r0 : w3.heap.size ≤ wr.heap.size := hCm.size
      obtain ⟨pk', ck', e1, _, hrr⟩ := hOr.row
      cases e1
      refine (sget_any wr s t pb ob st3 _ 1 0 hSr (by decide) (by decide) (by decide) (by omega) (by decide) 2 pk l.length ck l rfl hrr rfl (by rw [Hl.out]; omega)).mono ?_
      rintro e w5 ⟨v5, rfl, hO5, hB5⟩
      obtain ⟨g5, c5, rest5, rfl, hc5, hg5, hb5⟩ := hO5.blk (by rw [Hl.out]; omega)
      have hS5 := hSr.below hB5
      have hO25 := hOr.below hB5
      have hB5' := hBr.trans (hB5.mono hBr.size)
      rw [Hl.out]
      have hO3' := hOr
      clear hSr hOr hBr hrr hCm hS3 hO3 hb3 hB3
      go_upto_region 13 with (fail)
      have x6 := Blk.new w5 [.int .i64 2, .slice (some ⟨g5, 0, none⟩) k c5] tSes
      change Code.wp _ _ _ _ (w5.alloc (.cells [.int .i64 2, .slice (some ⟨g5, 0, none⟩) k c5].toArray tSes))
      have hBa := (Below.refl w5.heap.size w5).alloc (Nat.le_refl _) (.cells [.int .i64 2, .slice (some ⟨g5, 0, none⟩) k c5].toArray tSes)
      have hb6 := hb5.alloc (.cells [.int .i64 2, .slice (some ⟨g5, 0, none⟩) k c5].toArray tSes)
      have hS6 := hS5.below hBa
      have hO26 := hO25.below hBa
      have hB6 := hB5'.alloc hB5'.size (.cells [.int .i64 2, .slice (some ⟨g5, 0, none⟩) k c5].toArray tSes)
      have hg5' := hb5.lt
      have hwr5 := hB5.size
      have hw3r : w2.heap.size ≤ w5.heap.size := by omega
      generalize hx5 : w5.heap.size = xb at *
      generalize w5.alloc (.cells [.int .i64 2, .slice (some ⟨g5, 0, none⟩) k c5].toArray tSes) = w6 at *
      clear hBa hb5 hS5 hO25 hB5' hO5 hB5
      go_wp2_with fail
      go_loopw [13] (fun i wr => ∃ j : Nat, ∃ m : List UInt8, j ≤ k ∧ i = .int .i64 j ∧ m.length = k ∧ Blk wr g5 (bys m ++ rest5) tU8 ∧ Chg w6.heap.size [g5] w6 wr) (fun i _ => k - (intOf i).toNat)
      case atStart => exact ⟨0, l, by omega, rfl, hlx.out, hb6, Chg.refl _ _ _⟩
      case round =>
        obtain ⟨j, m, hj, rfl, hm, hbm, hCm⟩ := hrel
        have Hm := hid hm
        have x7 := x6.chg hCm x6.lt (by simp; omega)
        have d1 : wr.cell? ⟨xb, 1, none⟩ = some (.slice (some ⟨g5, 0, none⟩) k c5) := x7.cell 1
        by_cases hlt : j < k
        · have c0 := hbm.headCell j (by omega)
          have f0 := hbm.frozen j
          have hbs := hid (bys_setAt m rest5 j (m.getD j 0 ^^^ by_) (by omega))
          generalize m.getD j 0 = y at *
          have hb5 := hid (hbm.set j (.int .u8 (bv (y ^^^ by_))))
          have hC5 := hid (hCm.setCell (p := ⟨g5, j, none⟩) (.inl (by simp)) (.int .u8 (bv (y ^^^ by_))))
          clear hm hbm hCm x7
          go_wp2_with fail
          go_roundw
          case rel =>
            refine ⟨j + 1, m.set j (y ^^^ by_), by omega, by go_num, by rw [List.length_set]; exact Hm.out, ?_, hC5.out⟩
            have := hb5.out
            rw [hbs.out] at this
            exact this
          case measure => simp [intOf]; omega
        · obtain rfl : j = k := by omega
          clear hbm Hm hm
          have hx6 := x6.lt
          have hSr : SesAt wr s t pb ob st3 [(2, .slice pk l.length ck), noSes, noSes] := hS6.chg hCm (Nat.le_refl _) (by simp; omega) (by simp; omega) (by simp; omega) (by simp; omega)
          have hOr := hO26.chg hCm (Nat.le_refl _) (fun b e => by
            have h1 := (hO3'.lt b e).2
            simp; omega)
          have hBr := hB6.trans (hCm.below (M := w.heap.size) hB6.size (fun k hk => by simp at hk; have := hB6.size; omega))
          clear x7 hCm x6 hb6 hB6 hS6 hO26
          go_wp2_with fail
          clear d1
          obtain ⟨pk', ck', e1, _, hrr⟩ := hOr.row
          cases e1
          refine (sget_any wr s t pb ob st3 _ 1 0 hSr (by decide) (by decide) (by decide) (by omega) (by decide) 2 pk l.length ck l rfl hrr rfl (by rw [Hl.out]; omega)).mono ?_
          rintro e w8 ⟨v8, rfl, hO8, hB8⟩
          obtain ⟨p8, c8, rfl, hc8, hr8⟩ := hO8.row
          have hB9 := hBr.trans (hB8.mono hBr.size)
          rw [Hl.out]
          clear hSr hOr hrr hBr hB8
          go_upto_region 18 with (fail)
          have y9 := Blk.new w8 [.int .i64 2, .slice p8 j c8] tSes
          have hr9 := hr8.below ((Below.refl w8.heap.size w8).alloc (Nat.le_refl _) (.cells [.int .i64 2, .slice p8 j c8].toArray tSes))
          have hB10 := hB9.alloc hB9.size (.cells [.int .i64 2, .slice p8 j c8].toArray tSes)
          have hrw := hr.below hB10
          change Code.wp _ _ _ _ (w8.alloc (.cells [.int .i64 2, .slice p8 j c8].toArray tSes))
          generalize w8.heap.size = yb at *
          generalize w8.alloc (.cells [.int .i64 2, .slice p8 j c8].toArray tSes) = w9 at *
          have s1 := str_row (n := j) (c := c8) hr9 Hl.out
          have s2 := str_row (n := j) (c := cap) hrw Hl.out
          have e0 : w9.cell? ⟨yb, 0, none⟩ = some (.int .i64 2) := y9.cell 0
          have e1 : w9.cell? ⟨yb, 1, none⟩ = some (.slice p8 j c8) := y9.cell 1
          clear hr9 hrw hB9 hO8 hr8 y9
          go_wp2_with fail
          refine (awake19_any w9).mono ?_
          rintro e w10 ⟨rfl, hB11⟩
          go_wp2_with fail
          go_ret
          exact ⟨rfl, hB10.trans (hB11.mono hB10.size)⟩
end Go.Proofs.YtnmmnlffobnbfaaGreatDoor
