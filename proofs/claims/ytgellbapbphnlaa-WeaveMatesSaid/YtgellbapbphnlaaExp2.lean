/- aes: Expand; all that it makes is new -/
import Derived.Test.YtgellbapbphnlaaExp1
namespace Go.Proofs.Ytgellbapbphnlaa
open Go.RowKit

/-- A key's round keys in memory, all of it behind lo. -/
def KeysFrom (lo : Nat) (w : World) (kb : Nat) (rk : List UInt8) : Prop := lo ≤ kb ∧ ∃ tb wb n cap ex, lo ≤ tb ∧ lo ≤ wb ∧ Blk w kb [.pointer (some ⟨tb, 0, none⟩), .slice (some ⟨wb, 0, none⟩) n cap] tKeys ∧ Blk w tb (bys TAB) tTables ∧
  Blk w wb (bys rk ++ ex) tA4 ∧ rk.length = 4 * n ∧ (n = 44 ∨ n = 60)
theorem KeysFrom.at {lo : Nat} {w : World} {kb : Nat} {rk : List UInt8} (h : KeysFrom lo w kb rk) : KeysAt w kb rk := by
  obtain ⟨_, tb, wb, n, cap, ex, _, _, h1, h2, h3, h4, h5⟩ := h
  exact ⟨tb, wb, n, cap, ex, h1, h2, h3, h4, h5⟩

set_option maxRecDepth 100000 in
set_option maxHeartbeats 40000000 in
theorem expand_from (w : World) (b o n cap m : Nat) (key : List UInt8) (hk : RowAt w (some ⟨b, o, none⟩) key) (hkl : key.length = n) (hm : m = 4 ∨ m = 8) (hn : n = 4 * m) (hc : n ≤ cap) :
    Calls Try.prog 40 #[.slice (some ⟨b, o, none⟩) n cap] w fun e w' => ∃ kb, e = .returned (.tuple #[.pointer (some ⟨kb, 0, none⟩), .int .i64 0]) ∧ KeysFrom w.heap.size w' kb (rkOf m key) ∧ Below w.heap.size w w' := by
  have hq : (n : Int) / 4 = (m : Int) := by omega
  have hbr : (((n : Int) != 16) = false) ∨ ((((n : Int) != 16) = true) ∧ (((n : Int) != 32) = false)) := by
    rcases hm with rfl | rfl
    · left; subst hn; rfl
    · right; subst hn; exact ⟨rfl, rfl⟩
  have Hkl := hid hkl
  have Hn := hid hn
  have Hm := hid hm
  clear hkl hn hm
  have hm8 : m ≤ 8 := by have := Hm.out; omega
  go_enter Try.func40, Try.ntmps40
  go_upto_region 1 with fail
  go_cut [17] (fun s17 wx => s17 = .bool false ∧ w = wx)
  case first =>
    rcases hbr with h1 | ⟨h1, h2⟩
    all_goals (go_wp2_with fail; go_meet; exact ⟨rfl, rfl⟩)
  case rest =>
    obtain ⟨rfl, rfl⟩ := hcut
    clear hbr
    go_wp2_with (go_at_call 75; refine (made_any _).mono ?_; rintro e w1 ⟨tb, rfl, ht, hB1, htb⟩)
    have hkb := Blk.new w1 [.pointer (some ⟨w.heap.size, 0, none⟩), .slice none 0 0] tKeys
    have hkt := ht.alloc (.cells [.pointer (some ⟨w.heap.size, 0, none⟩), .slice none 0 0].toArray tKeys)
    have hB2 := hB1.alloc hB1.size (.cells [.pointer (some ⟨w.heap.size, 0, none⟩), .slice none 0 0].toArray tKeys)
    have hkbl := hB1.size
    have htl := ht.lt
    rw [htb] at htl
    have hsz : (w1.alloc (.cells [.pointer (some ⟨w.heap.size, 0, none⟩), .slice none 0 0].toArray tKeys)).heap.size = w1.heap.size + 1 := by simp
    have hne : w.heap.size ≠ w1.heap.size := by omega
    change Code.wp _ _ _ _ (w1.alloc (.cells [.pointer (some ⟨w.heap.size, 0, none⟩), .slice none 0 0].toArray tKeys))
    generalize w1.alloc (.cells [.pointer (some ⟨w.heap.size, 0, none⟩), .slice none 0 0].toArray tKeys) = w2 at *
    rw [htb] at hkt
    generalize w1.heap.size = kb at *
    generalize htbb : w.heap.size = tb0 at *
    clear ht hB1 htb
    subst htbb
    go_loopw [25] (fun i wr => ∃ j : Nat, j ≤ m ∧ i = .int .i64 j ∧ ExpSt w wr kb w.heap.size j (key.take (4 * j))) (fun i _ => m - (intOf i).toNat)
    case atStart => exact ⟨0, by omega, rfl, .slice none 0 0, hkb, World.ownsRow_nil _ _ _ _, hkt, hB2⟩
    case round =>
      obtain ⟨j, hj, rfl, v, hk1, hown, ht1, hB⟩ := hrel
      clear hkb hkt hB2 hsz
      by_cases hlt : j < m
      · have q1 : 4 * j + 4 ≤ key.length := by have := Hkl.out; have := Hn.out; omega
        obtain ⟨x0, x1, x2, x3, hx, e0, e1, e2, e3⟩ := four_at2 (l := key) (k := 4 * j) q1
        have hkr := hk.below hB
        obtain ⟨b', o', eb, hbl, c0⟩ := hkr (4 * j) (by omega)
        cases eb
        obtain ⟨_, _, eb, _, c1⟩ := hkr (4 * j + 1) (by omega)
        cases eb
        obtain ⟨_, _, eb, _, c2⟩ := hkr (4 * j + 2) (by omega)
        cases eb
        obtain ⟨_, _, eb, _, c3⟩ := hkr (4 * j + 3) (by omega)
        cases eb
        rw [e0] at c0; rw [e1] at c1; rw [e2] at c2; rw [e3] at c3
        rw [← Nat.add_assoc] at c1 c2 c3
        clear e0 e1 e2 e3
        have Hx := hid hx
        clear hx
        have k1 := hk1.cell 1
        simp only [List.getElem?_cons_zero, List.getElem?_cons_succ] at k1
        have q0 : 0 ≤ 4 * (j : Int) := by omega
        have q2 : 4 * (j : Int) ≤ (n : Int) := by have := Hn.out; omega
        have q3 : (4 * (j : Int)).toNat = 4 * j := by omega
        have q4 : ¬ (cap = 4 * j) := by have := Hn.out; omega
        have q5 : 4 ≤ n - 4 * j := by have := Hn.out; omega
        go_upto_region 8 with fail
        obtain ⟨i, hi, hz, hs4, hb4⟩ := info_parts info89
        have hdr : wr.drew.ownsRow w.heap.size tA4 4 v j (bys (key.take (4 * j))) := hown
        have hnew := Blk.new wr.drew (bys [x0, x1, x2, x3]) tA4
        have Hi := hid hi
        have Hz := hid hz
        have Hs4 := hid hs4
        have Hb4 := hid hb4
        have Hown := hid hdr
        have Hnew := hid hnew
        clear hi hz hs4 hb4 hdr hnew hown
        have kbl := hk1.lt
        have hwr1 : IntKind.i64.wrap (4 * (j : Int)) = 4 * (j : Int) := IntWalk.i64_in _ (by omega)
        go_region_law ((refine step_append_lies _ rfl (.tmp 32) (.tmp 39) 107 rfl w.heap.size 108 i (.agg #[.int .u8 0, .int .u8 0, .int .u8 0, .int .u8 0]) 4 4 under86 Hi.out Hz.out Hs4.out Hb4.out rfl (by decide) v j (bys (key.take (4 * j))) rfl (Hown.out.alloc _) ⟨wr.heap.size, 0, none⟩ 1 1 (bys [x0, x1, x2, x3]) rfl rfl (fun a u hu => by rw [Addr.add_mid]; exact Hnew.out.whole a u hu) (bys_one _) (by decide) (by unfold maxLen; omega) (by omega) (by simp; have := hB.size; omega) (wr.heap.size + 1) (by simp) ?_; intro g cap' w' hown' hgrow hgH hlt'; have hkA := (hk1.drew.alloc (.cells (bys [x0, x1, x2, x3]).toArray tA4)).grown hgrow (own_ne (Hown.out.alloc _) (hk1.drew.alloc (.cells (bys [x0, x1, x2, x3]).toArray tA4)) (by decide)); have htA := (ht1.drew.alloc (.cells (bys [x0, x1, x2, x3]).toArray tA4)).grown hgrow (own_ne (Hown.out.alloc _) (ht1.drew.alloc (.cells (bys [x0, x1, x2, x3]).toArray tA4)) (by decide)); have hBA := (hB.drew.alloc hB.size (.cells (bys [x0, x1, x2, x3]).toArray tA4)).grown hgrow (by simp; have := hB.size; omega) (fun k e => (Hown.out.lt k e).1); have kc := hkA.cell 1; have kf := hkA.frozen 1; simp only [List.getElem?_cons_zero, List.getElem?_cons_succ] at kc))
        all_goals
          go_wp2_with fail
          go_roundw
          case rel =>
            refine ⟨j + 1, by omega, by go_num, .slice (some ⟨g, 0, none⟩) (j + 1) cap', hkA.set 1 _, own_setCell ?_ (own_ne hown' hkA (by decide)) _, htA.setNe hne _, hBA.setCell hkbl _⟩
            have e : key.take (4 * (j + 1)) = key.take (4 * j) ++ [x0, x1, x2, x3] := by
              rw [← Hx.out, show 4 * (j + 1) = 4 * j + 4 by omega, List.take_add]
            rw [e]
            simpa [bys] using hown'
          case measure => simp [intOf]; omega
      · obtain rfl : j = m := by omega
        have hkm : key.take (4 * j) = key := by rw [List.take_of_length_le (by have := Hkl.out; have := Hn.out; omega)]
        rw [hkm] at hown
        have hE0 : ExpSt w wr kb w.heap.size j key := ⟨v, hk1, hown, ht1, hB⟩
        clear hkm hown hk1 ht1 hB
        go_wp2_with fail
        go_loopw [7, 8] (fun st i wr => ∃ k : Nat, k ≤ 28 + 3 * j ∧ i = .int .i64 ((j + k : Nat) : Int) ∧ st = B (exTo j key k).2 ∧ ExpSt w wr kb w.heap.size (j + k) (exTo j key k).1) (fun _ i _ => 200 - (intOf i).toNat)
        case atStart => exact ⟨0, by omega, rfl, rfl, hE0⟩
        case round =>
          obtain ⟨k, hk28, rfl, rfl, hE⟩ := hrel
          clear hE0
          have hXl := exTo_len j key (by have := Hkl.out; have := Hn.out; omega) (by have := Hm.out; omega) k
          by_cases hlt2 : k < 28 + 3 * j
          · have hnx : exTo j key (k + 1) = exStep j (j + k) (exTo j key k) := rfl
            have Hnx := hid hnx
            clear hnx
            obtain ⟨i, hi⟩ : ∃ i, i = j + k := ⟨_, rfl⟩
            rw [← hi] at hE hXl Hnx ⊢
            obtain ⟨g, cap2, hk1, ⟨rest, hW⟩, hown, ht1, hB, hcap⟩ := hE.isIn (by have := Hm.out; omega)
            clear hE
            generalize exTo j key k = S at *
            obtain ⟨W, st⟩ := S
            dsimp only at hXl hW hown Hnx ⊢
            have j1 : 4 ≤ j := by have := Hm.out; omega
            have i1 : j ≤ i := by omega
            have i2 : i < 4 * (j + 7) := by omega
            have Hi := hid hi
            clear hi
            have k0 := hk1.cell 0
            have k1 := hk1.cell 1
            simp only [List.getElem?_cons_zero, List.getElem?_cons_succ] at k0 k1
            have q0 : 4 * ((j : Int) + 7) ≤ 100 := by omega
            have q1 : (i : Int) < 4 * ((j : Int) + 7) := by omega
            have q2 : 0 ≤ (i : Int) - 1 := by omega
            have q3 : (i : Int) - 1 < (i : Int) := by omega
            have q4 : ((i : Int) - 1).toNat = i - 1 := by omega
            obtain ⟨x0, x1, x2, x3, hx, e0, e1, e2, e3⟩ := four_at2 (l := W) (k := 4 * (i - 1)) (by omega)
            have c0 := hW.cellAt (bys_get_pre2 W rest ((i - 1) * 4) (by omega))
            have c1 := hW.cellAt (bys_get_pre2 W rest ((i - 1) * 4 + 1) (by omega))
            have c2 := hW.cellAt (bys_get_pre2 W rest ((i - 1) * 4 + 2) (by omega))
            have c3 := hW.cellAt (bys_get_pre2 W rest ((i - 1) * 4 + 3) (by omega))
            rw [Nat.mul_comm (i - 1) 4] at c0 c1 c2 c3
            rw [e0] at c0; rw [e1] at c1; rw [e2] at c2; rw [e3] at c3
            rw [Nat.mul_comm 4 (i - 1)] at c0 c1 c2 c3
            clear e0 e1 e2 e3
            have Hx := hid hx
            have HXl := hid hXl
            have Hown := hid hown
            clear hx hXl hown
            go_upto_block 4 with fail
            have z0 : ¬ ((j : Int) = 0) := by omega
            have z1 : 0 ≤ (i : Int) := by omega
            have hX := (⟨hk1, ⟨rest, hW⟩, Hown.out, ht1, hB, hcap⟩ : ExpIn w wr kb w.heap.size g cap2 i W)
            have HIn := hid hX
            have hsz := hB.size
            have kbl := hk1.lt
            have gl := hW.lt
            have tl := ht1.lt
            clear hX
            go_cut [7] (fun s7 wx => ∃ z st', z.length = 4 ∧ s7 = B st' ∧ exZ j i st [x0, x1, x2, x3] = (z, st') ∧ Blk wx wr.heap.size (bys z) tA4 ∧ ExpIn w wx kb w.heap.size g cap2 i W)
            case first =>
              by_cases hA : i % j = 0
              · have b1 : ((i : Int) % (j : Int) == 0) = true := by rw [beq_iff_eq]; omega
                have HA := hid hA
                clear hA
                go_wp2_with fail
                have hcb := Blk.new wr (bys [x1, x2, x3, x0]) tA4
                have hc1 := ExpIn.alloc HIn.out (.cells (bys [x1, x2, x3, x0]).toArray tA4)
                have hsz2 : (wr.alloc (.cells (bys [x1, x2, x3, x0]).toArray tA4)).heap.size = wr.heap.size + 1 := by simp
                change Calls _ _ _ (wr.alloc (.cells (bys [x1, x2, x3, x0]).toArray tA4)) _
                generalize wr.alloc (.cells (bys [x1, x2, x3, x0]).toArray tA4) = w3 at *
                refine (subs_any w3 kb w.heap.size wr.heap.size 4 4 _ [x1, x2, x3, x0] tA4 hc1.1 hc1.2.2.2.1 hcb rfl (by omega) (by omega) (by omega)).mono ?_
                rintro e w4 ⟨rfl, hcb4, hch4⟩
                have hc4 := hc1.chg hch4 (by simp; omega) (by simp; omega) (by simp; omega) (by simp; omega)
                have d0 := hcb4.cell 0
                have f0 := hcb4.frozen 0
                simp only [bys, List.map_cons, List.map_nil, List.getElem?_cons_zero] at d0
                go_wp2_with (go_at_call 76; refine (double_any _ _).mono ?_; rintro e w' ⟨rfl, rfl⟩)
                go_meet
                refine ⟨[sbox x1 ^^^ st, sbox x2, sbox x3, sbox x0], dbl st, rfl, rfl, by unfold exZ; rw [if_pos HA.out], ?_, ?_⟩
                · simpa [bys] using hcb4.set 0 (.int .u8 (bv (sbox x1 ^^^ st)))
                · exact hc4.setCell (by dsimp only; omega) (by dsimp only; omega) (by dsimp only; omega) (by dsimp only; omega) _
              · have b1 : ((i : Int) % (j : Int) == 0) = false := by rw [beq_eq_false_iff_ne]; omega
                have HA := hid hA
                clear hA
                by_cases hC : 6 < j ∧ i % j = 4
                · have b2 : decide (6 < (j : Int)) = true := by simp; omega
                  have b3 : ((i : Int) % (j : Int) == 4) = true := by rw [beq_iff_eq]; omega
                  have HC := hid hC
                  clear hC
                  go_wp2_with fail
                  have hcb := Blk.new wr (bys [x0, x1, x2, x3]) tA4
                  have hc1 := ExpIn.alloc HIn.out (.cells (bys [x0, x1, x2, x3]).toArray tA4)
                  have hsz2 : (wr.alloc (.cells (bys [x0, x1, x2, x3]).toArray tA4)).heap.size = wr.heap.size + 1 := by simp
                  change Calls _ _ _ (wr.alloc (.cells (bys [x0, x1, x2, x3]).toArray tA4)) _
                  generalize wr.alloc (.cells (bys [x0, x1, x2, x3]).toArray tA4) = w3 at *
                  refine (subs_any w3 kb w.heap.size wr.heap.size 4 4 _ [x0, x1, x2, x3] tA4 hc1.1 hc1.2.2.2.1 hcb rfl (by omega) (by omega) (by omega)).mono ?_
                  rintro e w4 ⟨rfl, hcb4, hch4⟩
                  have hc4 := hc1.chg hch4 (by simp; omega) (by simp; omega) (by simp; omega) (by simp; omega)
                  go_wp2_with fail
                  go_meet
                  exact ⟨[x0, x1, x2, x3].map sbox, st, rfl, rfl, by unfold exZ; rw [if_neg HA.out, if_pos HC.out], hcb4, hc4⟩
                · have hcb := Blk.new wr (bys [x0, x1, x2, x3]) tA4
                  have hc1 := ExpIn.alloc HIn.out (.cells (bys [x0, x1, x2, x3]).toArray tA4)
                  have HC := hid hC
                  have Hcb := hid hcb
                  have Hc1 := hid hc1
                  clear hcb hc1
                  by_cases h6 : 6 < j
                  · have b2 : decide (6 < (j : Int)) = true := by simp; omega
                    have b3 : ((i : Int) % (j : Int) == 4) = false := by rw [beq_eq_false_iff_ne]; omega
                    clear hC
                    go_wp2_with fail
                    go_meet
                    exact ⟨[x0, x1, x2, x3], st, rfl, rfl, by unfold exZ; rw [if_neg HA.out, if_neg HC.out], Hcb.out, Hc1.out⟩
                  · have b2 : decide (6 < (j : Int)) = false := by simp; omega
                    clear hC
                    go_wp2_with fail
                    go_meet
                    exact ⟨[x0, x1, x2, x3], st, rfl, rfl, by unfold exZ; rw [if_neg HA.out, if_neg HC.out], Hcb.out, Hc1.out⟩
            case rest =>
              obtain ⟨z, st', hz4, rfl, hz, hcbz, hIn⟩ := hcut
              clear c0 c1 c2 c3 k0 k1 hk1 hW ht1 hB HIn Hown
              obtain ⟨z0, z1, z2, z3, hzz⟩ := len4' hz4
              obtain ⟨rest2, hW2⟩ := hIn.2.1
              have hY4 : ((W.drop (4 * (i - j))).take 4).length = 4 := by have := HXl.out; simp; omega
              have hRY : RowAt wc.drew (some ⟨g, (i - j) * 4, none⟩) ((W.drop (4 * (i - j))).take 4) := by rw [Nat.mul_comm (i - j) 4]; exact rowAt_pre hW2 (4 * (i - j)) 4
              have hRZ : RowAt wc.drew (some ⟨wr.heap.size, 0, none⟩) z := hcbz.rowAt0
              have hv4 : (List.zipWith (· ^^^ ·) z ((W.drop (4 * (i - j))).take 4)).length = 4 := by simp only [List.length_zipWith, hY4, hz4]; decide
              obtain ⟨v0, v1, v2, v3, hv⟩ := len4' hv4
              have hnx2 : exTo j key (k + 1) = (W ++ [v0, v1, v2, v3], st') := by
                rw [Hnx.out]; unfold exStep; dsimp only; rw [Hx.out, hz, hv]
              have Hnx2 := hid hnx2
              have HIn := hid hIn
              have HRY := hid hRY
              have HRZ := hid hRZ
              have Hz4 := hid hz4
              have HY4 := hid hY4
              have Hv := hid hv
              have k1 := hIn.1.cell 1
              simp only [List.getElem?_cons_zero, List.getElem?_cons_succ] at k1
              have hq5 : (i : Int) - (j : Int) < (i : Int) := by omega
              have hq6 : 0 ≤ (i : Int) - (j : Int) := by omega
              have hq7 : ((i : Int) - (j : Int)).toNat = i - j := by omega
              clear hnx2 hIn hRY hRZ hz4 hY4 hv hv4 hW2 hcbz hzz hz Hnx
              have hwr9 : IntKind.i64.wrap ((i : Int) - (j : Int)) = (i : Int) - (j : Int) := IntWalk.i64_in _ (by omega)
              go_wp2_with fail
              obtain ⟨i0, hi0, hz0, hs0, hb0⟩ := info_parts info89
              have Hi0 := hid hi0
              have Hz0 := hid hz0
              have Hs0 := hid hs0
              have Hb0 := hid hb0
              clear hi0 hz0 hs0 hb0
              have kbl3 := HIn.out.1.lt
              have i100 : i < 100 := by omega
              go_region_law (first | (go_simp; go_at_call 54; refine (xor_any _ _ _ 4 4 4 4 4 z _ HRZ.out HRY.out Hz4.out HY4.out (by omega) rfl).mono ?_; rintro e w5 ⟨rfl, hb5, hB5⟩; rw [Hv.out] at hb5; have d0 := hb5.cell 0; have d1 := hb5.cell 1; have d2 := hb5.cell 2; have d3 := hb5.cell 3; simp only [bys, List.map_cons, List.map_nil, List.getElem?_cons_zero, List.getElem?_cons_succ, World.size_drew] at d0 d1 d2 d3; have hIn5 := ExpIn.below (ExpIn.drew HIn.out) hB5; have HI5 := hid hIn5; have k15 := hIn5.1.cell 1; simp only [List.getElem?_cons_zero, List.getElem?_cons_succ] at k15; have kbl5 := hIn5.1.lt; clear hIn5 hb5) | (refine step_append_lies _ rfl (.tmp 100) (.tmp 114) 107 rfl w.heap.size 108 i0 (.agg #[.int .u8 0, .int .u8 0, .int .u8 0, .int .u8 0]) 4 4 under86 Hi0.out Hz0.out Hs0.out Hb0.out rfl (by decide) (.slice (some ⟨g, 0, none⟩) i cap2) i (bys W) rfl (HI5.out.2.2.1.alloc _) ⟨w5.heap.size, 0, none⟩ 1 1 (bys [v0, v1, v2, v3]) rfl rfl (fun a u hu => by rw [Addr.add_mid]; exact (Blk.new w5 (bys [v0, v1, v2, v3]) tA4).whole a u hu) (bys_one _) (by decide) (by unfold maxLen; omega) (by omega) (by simp; have := HI5.out.2.2.2.2.1.size; omega) (w5.heap.size + 1) (by simp) ?_; intro g' cap' w' hown' hgrow hgH hlt'; have hI6 := ExpIn.alloc HI5.out (.cells (bys [v0, v1, v2, v3]).toArray tA4); have hkA := hI6.1.grown hgrow (own_ne hI6.2.2.1 hI6.1 (by decide)); have htA := hI6.2.2.2.1.grown hgrow (own_ne hI6.2.2.1 hI6.2.2.2.1 (by decide)); have hBA := hI6.2.2.2.2.1.grown hgrow hI6.2.2.2.2.1.size (fun k e => (hI6.2.2.1.lt k e).1); have kc := hkA.cell 1; have kf := hkA.frozen 1; simp only [List.getElem?_cons_zero, List.getElem?_cons_succ] at kc; clear hI6))
              all_goals
                go_wp2_with fail
                go_roundw
                case rel =>
                  have := Hi.out
                  refine ⟨k + 1, by omega, by rw [Hi.out]; go_num, by rw [Hnx2.out], .slice (some ⟨g', 0, none⟩) (i + 1) cap', hkA.set 1 _, own_setCell ?_ (own_ne hown' hkA (by decide)) _, htA.setNe hne _, hBA.setCell hkbl _⟩
                  rw [Hnx2.out, show j + (k + 1) = i + 1 by have := Hi.out; omega]
                  simpa [bys] using hown'
                case measure => have := Hi.out; simp [intOf]; omega
          · obtain rfl : k = 28 + 3 * j := by omega
            obtain ⟨g, cap2, hk1, ⟨rest, hW⟩, hown, ht1, hB, hcap⟩ := hE.isIn (by have := Hm.out; omega)
            have hglo : w.heap.size ≤ g := by
              have hm0 := Hm.out
              rcases hown.2 with ⟨_, h0⟩ | ⟨g', cap', cur, hv, hg', _⟩
              · omega
              · cases hv; exact hg'
            have hK : KeysFrom w.heap.size wr kb (rkOf j key) := ⟨hkbl, w.heap.size, g, _, cap2, rest, Nat.le_refl _, hglo, hk1, ht1, hW, hXl.trans (by omega), by have := Hm.out; omega⟩
            clear hglo
            obtain ⟨M, hM⟩ : ∃ M, M = j + (28 + 3 * j) := ⟨_, rfl⟩
            have q9 : (4 : Int) * ((j : Int) + 7) ≤ 100 := by omega
            have q10 : (4 : Int) * ((j : Int) + 7) ≤ (M : Int) := by omega
            rw [← hM]
            have HK := hid hK
            generalize (exTo j key (28 + 3 * j)).2 = stf
            clear hE hk1 hW hown ht1 hXl hK hM
            go_wp2_with fail
            go_ret2
            exact ⟨kb, rfl, HK.out, hB⟩

#print axioms expand_from
end Go.Proofs.Ytgellbapbphnlaa
