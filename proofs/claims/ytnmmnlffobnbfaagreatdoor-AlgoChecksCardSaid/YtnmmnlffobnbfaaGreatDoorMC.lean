/- Aes1 · Aes3 · Aes2 · Aes4 · Aes5 · Aes6 (joined by merge4.py) -/
import Derived.Test.YtnmmnlffobnbfaaGreatDoorMA
/- aes: bytes -/
namespace Go.Proofs.YtnmmnlffobnbfaaGreatDoor
open Go.RowKit

def dbl (x : UInt8) : UInt8 := if 128 ≤ x.toNat then (x <<< 1) ^^^ 27 else x <<< 1

set_option maxRecDepth 100000 in
set_option maxHeartbeats 400000 in
theorem double_any (x : UInt8) (w : World) :
    Calls Tryz.prog 169 #[B x] w fun e w' => e = .returned (B (dbl x)) ∧ w = w' := by
  have h0 := bv_lo x
  have h1 := bv_hi x
  by_cases h : 128 ≤ bv x
  · have hd : dbl x = (x <<< 1) ^^^ 27 := by unfold dbl; rw [if_pos (by unfold bv at h; omega)]
    have Hd := hid hd; clear hd
    go_enter Tryz.func169, Tryz.ntmps169
    go_wp2
    go_ret
    refine ⟨?_, rfl⟩
    rw [Hd.out]; rfl
  · have hd : dbl x = (x <<< 1) := by unfold dbl; rw [if_neg (by unfold bv at h; omega)]
    have h2 : bv x * (2 : Int) = bv (x <<< 1) := by rw [← bv_shl1]; omega
    have Hd := hid hd; clear hd
    have H2 := hid h2; clear h2
    go_enter Tryz.func169, Tryz.ntmps169
    go_wp2
    go_ret
    refine ⟨?_, rfl⟩
    rw [Hd.out]; show Ending.returned (.int .u8 (bv x * 2)) = .returned (.int .u8 (bv (x <<< 1))); rw [H2.out]

def trn (q : UInt8) : UInt8 := q ^^^ (q <<< 1 ||| q >>> 7) ^^^ (q <<< 2 ||| q >>> 6) ^^^ (q <<< 3 ||| q >>> 5) ^^^ (q <<< 4 ||| q >>> 4)

set_option maxRecDepth 100000 in
set_option maxHeartbeats 1000000 in
theorem turned_any (x : UInt8) (w : World) :
    Calls Tryz.prog 194 #[B x] w fun e w' => e = .returned (B (trn x)) ∧ ∃ n, w.drewN n = w' := by
  have h0 := bv_lo x
  have h1 := bv_hi x
  go_enter Tryz.func194, Tryz.ntmps194
  go_wp2_with fail
  refine wp_loop_rounds 5 ?_
  iterate 4 (rw [rounds_succ]; go_wp2_with fail; go_quiet (fail); go_wp2_with fail)
  rw [rounds_succ]
  go_wp2_with fail
  go_ret
  exact ⟨rfl, _, rfl⟩

theorem Blk.setB {w : World} {b : Nat} {l : List UInt8} {T : TypeId} (h : Blk w b (bys l) T) (i v : UInt8) :
    Blk (w.setCell ⟨b, (bv i).toNat, none⟩ (.int .u8 (bv v))) b (bys (l.set i.toNat v)) T := by
  rw [bv_toNat, ← bys_set]; exact h.set _ _
def qst (q : UInt8) : UInt8 := let q1 := q ^^^ q <<< 1; let q2 := q1 ^^^ q1 <<< 2; q2 ^^^ q2 <<< 4
def qfin (q : UInt8) : UInt8 := if 128 ≤ q.toNat then q ^^^ 9 else q
def mnext (s : UInt8 × UInt8 × List UInt8) : UInt8 × UInt8 × List UInt8 :=
  (s.1 ^^^ dbl s.1, qfin (qst s.2.1), s.2.2.set (s.1 ^^^ dbl s.1).toNat (trn (qfin (qst s.2.1)) ^^^ 99))
def zer512 : List UInt8 := List.replicate 512 0
theorem zer512_len : zer512.length = 512 := by decide +kernel
def mst : Nat → UInt8 × UInt8 × List UInt8
  | 0 => (1, 1, zer512)
  | k + 1 => mnext (mst k)
theorem mst_len (k : Nat) : (mst k).2.2.length = 512 := by
  induction k with
  | zero => exact zer512_len
  | succ k ih => simp [mst, mnext, ih]
theorem qfin_hi {q : UInt8} (h : 128 ≤ bv q) : qfin q = q ^^^ 9 := by unfold qfin; rw [if_pos (by unfold bv at h; omega)]
theorem qfin_lo {q : UInt8} (h : bv q < 128) : qfin q = q := by unfold qfin; rw [if_neg (by unfold bv at h; omega)]
theorem zero96 : Tryz.zeroCells217 = (bys zer512).toArray := by kernel_rfl

def bnext (T : List UInt8) (k : Nat) : List UInt8 := T.set (256 + (T.getD k 0).toNat) (UInt8.ofNat k)
def bst (T : List UInt8) : Nat → List UInt8
  | 0 => T
  | k + 1 => bnext (bst T k) k
theorem bst_len (T : List UInt8) (k : Nat) : (bst T k).length = T.length := by
  induction k with
  | zero => rfl
  | succ k ih => simp [bst, bnext, ih]

def TAB : List UInt8 := bst ((mst 255).2.2.set 0 99) 256

set_option maxRecDepth 100000 in
set_option maxHeartbeats 4000000 in
theorem made_any (w : World) :
    Calls Tryz.prog 167 #[] w fun e w' => ∃ b, e = .returned (.pointer (some ⟨b, 0, none⟩)) ∧ Blk w' b (bys TAB) tTables ∧ Below w.heap.size w w' ∧ b = w.heap.size := by
  have hn := Blk.new w (bys zer512) tTables
  rw [← zero96] at hn
  go_enter Tryz.func167, Tryz.ntmps167
  go_wp2_with fail
  go_loopw [2, 3, 7] (fun p q i wr => ∃ k : Nat, k ≤ 255 ∧ i = .int .i64 k ∧ p = B (mst k).1 ∧ q = B (mst k).2.1 ∧ Blk wr w.heap.size (bys (mst k).2.2) tTables ∧ Below w.heap.size w wr) (fun _ _ i _ => 255 - (intOf i).toNat)
  case atStart => exact ⟨0, by omega, rfl, rfl, rfl, hn, (Below.refl _ _).alloc (Nat.le_refl _) _⟩
  case round =>
    obtain ⟨k, hk, rfl, rfl, rfl, hb, hbel⟩ := hrel
    clear hn
    have hl := mst_len k
    by_cases hlt : k < 255
    · have hnx : mst (k + 1) = mnext (mst k) := rfl
      have Hnx := hid hnx; clear hnx
      revert Hnx hl hb
      generalize mst k = s
      obtain ⟨p, q, T⟩ := s
      intro hb hl Hnx
      dsimp only at hl hb ⊢
      have p0 := bv_lo (p ^^^ dbl p)
      have p1 := bv_hi (p ^^^ dbl p)
      have hpn : (bv (p ^^^ dbl p)).toNat < T.length := by omega
      have hc := hb.cellAt (bys_get T (bv (p ^^^ dbl p)).toNat hpn)
      have hf := hb.frozen (bv (p ^^^ dbl p)).toNat
      clear hl
      go_wp2_with (go_at_call 169; refine (double_any _ _).mono ?_; rintro e w' ⟨rfl, rfl⟩)
      all_goals go_region_held3 (fun _ => True) (trivial) (first | (go_at_call 194; refine (turned_any _ _).mono ?_; rintro e w' ⟨rfl, n, rfl⟩))
      all_goals go_wp2_with fail
      · have h9 := qfin_hi (q := qst q) ‹_›
        go_roundw
        case rel =>
          refine ⟨k + 1, by omega, by go_num, ?_, ?_, ?_, (below_drewN hbel _).setCell (Nat.le_refl _) _⟩
          · rw [Hnx.out]; rfl
          · rw [Hnx.out]; simp only [mnext]; rw [h9]; rfl
          · rw [Hnx.out]; simp only [mnext]; rw [h9]; exact Blk.setB (hb.drewN _) _ _
        case measure => simp [intOf]; omega
      · have h9 := qfin_lo (q := qst q) ‹_›
        go_roundw
        case rel =>
          refine ⟨k + 1, by omega, by go_num, ?_, ?_, ?_, (below_drewN hbel _).setCell (Nat.le_refl _) _⟩
          · rw [Hnx.out]; rfl
          · rw [Hnx.out]; simp only [mnext]; rw [h9]; rfl
          · rw [Hnx.out]; simp only [mnext]; rw [h9]; exact Blk.setB (hb.drewN _) _ _
        case measure => simp [intOf]; omega
    · have hk255 : k = 255 := by omega
      have H255 := hid hk255; clear hk255
      generalize (mst k).1 = p
      generalize (mst k).2.1 = q
      have hc0 := hb.cellAt (bys_get _ 0 (by omega))
      have hf0 := hb.frozen 0
      go_wp2_with fail
      clear hc0 hf0
      have hb' := hb.set 0 (.int .u8 (bv 99))
      rw [bys_set] at hb'
      have hbel' : Below w.heap.size w (wr.setCell ⟨w.heap.size, 0, none⟩ (.int .u8 (bv 99))) := hbel.setCell (Nat.le_refl _) _
      have hl' : ((mst k).2.2.set 0 99).length = 512 := by simp [hl]
      clear hb hbel hl
      generalize hT : (mst k).2.2.set 0 99 = T at hb' hl'
      have HT := hid hT; clear hT
      have e99 : Value.int .u8 99 = .int .u8 (bv 99) := rfl
      rw [e99]
      clear e99
      generalize wr.setCell ⟨w.heap.size, 0, none⟩ (.int .u8 (bv 99)) = w1 at hb' hbel' ⊢
      go_loopw [42] (fun i wr => ∃ m : Nat, m ≤ 256 ∧ i = .int .i64 m ∧ Blk wr w.heap.size (bys (bst T m)) tTables ∧ Below w.heap.size w wr) (fun i _ => 256 - (intOf i).toNat)
      case atStart => exact ⟨0, by omega, rfl, hb', hbel'⟩
      case round =>
        obtain ⟨m, hm, rfl, hb, hbel⟩ := hrel
        have hl := (bst_len T m).trans hl'
        clear hb' hbel' hl'
        by_cases hlt : m < 256
        · have hnx : bst T (m + 1) = bnext (bst T m) m := rfl
          have Hnx := hid hnx; clear hnx
          generalize bst T m = S at hb hl Hnx
          generalize hx : S.getD m 0 = x
          have hcl := hb.cellAt (bys_get S m (by omega))
          rw [hx] at hcl
          have x0 := bv_lo x
          have x1 := bv_hi x
          have hc := hb.cellAt (bys_get S (256 + (bv x).toNat) (by omega))
          have hf := hb.frozen (256 + (bv x).toNat)
          have Hx := hid hx; clear hx
          clear hl
          have hne : ¬ (256 + (bv x).toNat = m) := by omega
          have hne' : ¬ (m = 256 + (bv x).toNat) := by omega
          have hw : IntKind.u8.wrap (m : Int) = bv (UInt8.ofNat m) := by rw [IntWalk.u8_in _ (by omega)]; exact (bv_lit m hlt).symm
          go_wp2_with fail
          go_region_held3 (fun w' => w'.cell? ⟨w.heap.size, m, none⟩ = some (.int .u8 (bv x))) (first | (go_keep; done) | (rw [World.cell?_drew, World.cell?_setCell_other _ _ _ _ (by simp only [ne_eq, Addr.mk.injEq]; omega)]; exact hcl)) (fail)
          go_wp2_with fail
          go_roundw
          case rel =>
            refine ⟨m + 1, by omega, by go_num, ?_, Below.drew (hbel.setCell (Nat.le_refl _) _)⟩
            rw [Hnx.out]
            simp only [bnext]
            rw [Hx.out, ← bys_set, ← bv_toNat]
            exact (hb.set _ _).drew
          case measure => simp [intOf]; omega
        · obtain rfl : m = 256 := by omega
          go_wp2_with fail
          go_ret
          refine ⟨_, rfl, ?_, hbel, rfl⟩
          rw [← HT.out, H255.out] at hb
          exact hb

#print axioms made_any
end Go.Proofs.YtnmmnlffobnbfaaGreatDoor

/- aes: a round's key -/
namespace Go.Proofs.YtnmmnlffobnbfaaGreatDoor
open Go.RowKit

def addTo (k : Nat) (l rk : List UInt8) : List UInt8 := List.zipWith (· ^^^ ·) (l.take k) rk ++ l.drop k

theorem zip_len (k : Nat) (l rk : List UInt8) (h : k ≤ l.length) (h2 : k ≤ rk.length) : (List.zipWith (· ^^^ ·) (l.take k) rk).length = k := by simp; omega
theorem addTo_len (k : Nat) (l rk : List UInt8) (h : l.length ≤ rk.length) : (addTo k l rk).length = l.length := by simp [addTo]; omega
theorem addTo_at (k : Nat) (l rk : List UInt8) (h : k < l.length) (h2 : k < rk.length) : (addTo k l rk).getD k 0 = l.getD k 0 :=
  app_at 0 _ l k (zip_len k l rk (by omega) (by omega))
theorem zip_succ (k : Nat) (l rk : List UInt8) (h : k < l.length) (h2 : k < rk.length) : List.zipWith (· ^^^ ·) (l.take (k + 1)) rk = List.zipWith (· ^^^ ·) (l.take k) rk ++ [l.getD k 0 ^^^ rk.getD k 0] := by
  induction k generalizing l rk with
  | zero =>
    match l, rk, h, h2 with
    | a :: l, b :: rk, _, _ => simp [List.getD]
  | succ k ih =>
    match l, rk, h, h2 with
    | a :: l, b :: rk, h, h2 =>
      have := ih l rk (by simpa using h) (by simpa using h2)
      simp only [List.take_succ_cons, List.zipWith_cons_cons, List.cons_append, List.getD_cons_succ] at this ⊢
      rw [this]
theorem addTo_succ (k : Nat) (l rk : List UInt8) (h : k < l.length) (h2 : k < rk.length) : (addTo k l rk).set k (l.getD k 0 ^^^ rk.getD k 0) = addTo (k + 1) l rk := by
  unfold addTo
  rw [app_set 0 _ _ l k (zip_len k l rk (by omega) (by omega)) h, zip_succ k l rk h h2]

theorem bys_get_pre (l : List UInt8) (rest : List Value) (i : Nat) (h : i < l.length) : (bys l ++ rest)[i]? = some (.int .u8 (bv (l.getD i 0))) := by
  rw [List.getElem?_append_left (by rw [bys_length]; exact h), bys_get l i h]
set_option maxRecDepth 100000 in
set_option maxHeartbeats 1000000 in
theorem add_any (w : World) (kb tb wb b n cap r : Nat) (l rk : List UInt8) (rest : List Value) (T : TypeId) (hk : Blk w kb [.pointer (some ⟨tb, 0, none⟩), .slice (some ⟨wb, 0, none⟩) n cap] tKeys)
    (hw : Blk w wb (bys rk ++ rest) tA4) (hb : Blk w b (bys l) T) (hl : l.length = 16) (hrk : 16 * r + 16 ≤ rk.length) (hn : 4 * r + 4 ≤ n) (hkb : kb ≠ b) (hwb : wb ≠ b) (hn9 : n < 1000000000) :
    Calls Tryz.prog 173 #[.pointer (some ⟨kb, 0, none⟩), .pointer (some ⟨b, 0, none⟩), .int .i64 r] w fun e w' => e = .returned (.tuple #[]) ∧ Blk w' b (bys (addTo 16 l (rk.drop (16 * r)))) T ∧ Chg w.heap.size [b] w w' := by
  have Hl := hid hl; clear hl
  go_enter Tryz.func173, Tryz.ntmps173
  go_wp2_with fail
  go_loopw [7] (fun i wr => ∃ k : Nat, k ≤ 16 ∧ i = .int .i64 k ∧ Blk wr b (bys (addTo k l (rk.drop (16 * r)))) T ∧ Chg w.heap.size [b] w wr) (fun i _ => 16 - (intOf i).toNat)
  case atStart => exact ⟨0, by omega, rfl, by simpa [addTo] using hb, Chg.refl _ _ _⟩
  case round =>
    obtain ⟨k, hkn, rfl, hb', hch⟩ := hrel
    by_cases hlt : k < 16
    · have hk1 := (hk.chg hch hk.lt (by simpa using hkb)).cell 1
      simp only [List.getElem?_cons_zero, List.getElem?_cons_succ] at hk1
      have hla := addTo_len k l (rk.drop (16 * r)) (by rw [Hl.out]; simp; omega)
      have hc := hb'.cellAt (bys_get _ k (by rw [hla, Hl.out]; exact hlt))
      have hf := hb'.frozen k
      rw [addTo_at k l _ (by rw [Hl.out]; exact hlt) (by simp; omega)] at hc
      have hs := addTo_succ k l (rk.drop (16 * r)) (by rw [Hl.out]; exact hlt) (by simp; omega)
      have hd : (rk.drop (16 * r)).getD k 0 = rk.getD (16 * r + k) 0 := by simp [List.getD]
      rw [hd] at hs
      have Hs := hid hs; clear hs hla hd
      have hcw := (hw.chg hch hw.lt (by simpa using hwb)).cellAt (bys_get_pre rk rest ((4 * r + k / 4) * 4 + k % 4) (by omega))
      have hq : (4 * r + k / 4) * 4 + k % 4 = 16 * r + k := by omega
      rw [show rk.getD ((4 * r + k / 4) * 4 + k % 4) 0 = rk.getD (16 * r + k) 0 from by rw [hq]] at hcw
      clear hq
      generalize rk.getD (16 * r + k) 0 = y at hcw Hs
      have q1 : 0 ≤ 4 * (r : Int) + (k : Int) / 4 := by omega
      have q2 : 4 * (r : Int) + (k : Int) / 4 < (n : Int) := by omega
      have q3 : (4 * (r : Int) + (k : Int) / 4).toNat = 4 * r + k / 4 := by omega
      have q4 : 0 ≤ (k : Int) % 4 := by omega
      have q5 : (k : Int) % 4 < 4 := by omega
      have q6 : ((k : Int) % 4).toNat = k % 4 := by omega
      generalize l.getD k 0 = x at hc Hs
      go_wp2_with fail
      refine still_tail' 22 (by kernel_rfl) (by kernel_rfl) ?_
      simp only [List.take_succ_cons, List.take_zero, List.drop_succ_cons, List.drop_zero]
      repeat (refine wpStill_step (fun K hK => ?_); go_simp; (try go_bits); refine hK _ ?_; clear hK K)
      refine wpStill_nil ?_
      go_wp2_with fail
      go_roundw
      case rel =>
        refine ⟨k + 1, by omega, by go_num, ?_, (hch.setCell (.inl (by simp)) _).drew⟩
        rw [← Hs.out, ← bys_set]; exact (hb'.set _ _).drew
      case measure => simp [intOf]; omega
    · obtain rfl : k = 16 := by omega
      go_wp2_with fail
      go_end0
      exact ⟨rfl, hb', hch⟩

end Go.Proofs.YtnmmnlffobnbfaaGreatDoor

/- aes: blocks -/
namespace Go.Proofs.YtnmmnlffobnbfaaGreatDoor
open Go.RowKit

def sbox (x : UInt8) : UInt8 := TAB.getD x.toNat 0
def sinv (x : UInt8) : UInt8 := TAB.getD (256 + x.toNat) 0
theorem TAB_len : TAB.length = 512 := by unfold TAB; rw [bst_len]; simp [mst_len]

def subTo (k : Nat) (l : List UInt8) : List UInt8 := (l.take k).map sbox ++ l.drop k
theorem subTo_len (k : Nat) (l : List UInt8) : (subTo k l).length = l.length := by simp [subTo]; omega
theorem subTo_at (k : Nat) (l : List UInt8) (h : k < l.length) : (subTo k l).getD k 0 = l.getD k 0 := by
  unfold subTo
  simp [List.getD, List.getElem?_append_right, Nat.min_eq_left (Nat.le_of_lt h)]
theorem subTo_succ (k : Nat) (l : List UInt8) (h : k < l.length) : (subTo k l).set k (sbox (l.getD k 0)) = subTo (k + 1) l := by
  have e1 : l.drop k = l.getD k 0 :: l.drop (k + 1) := by
    rw [List.drop_eq_getElem_cons h]; simp [List.getD, List.getElem?_eq_getElem h]
  have e2 : l.take (k + 1) = l.take k ++ [l.getD k 0] := by
    rw [List.take_succ_eq_append_getElem h]; simp [List.getD, List.getElem?_eq_getElem h]
  have e3 : ((l.take k).map sbox).length = k := by simp; omega
  unfold subTo
  rw [e1, e2, List.map_append, List.append_assoc]
  rw [List.set_append_right _ _ (by omega), e3]
  simp

set_option maxRecDepth 100000 in
set_option maxHeartbeats 1000000 in
theorem subs_any (w : World) (kb tb b n cap : Nat) (ws : Value) (l : List UInt8) (T : TypeId) (hk : Blk w kb [.pointer (some ⟨tb, 0, none⟩), ws] tKeys)
    (ht : Blk w tb (bys TAB) tTables) (hb : Blk w b (bys l) T) (hn : l.length = n) (hkb : kb ≠ b) (htb : tb ≠ b) (hn9 : n < 1000000000) :
    Calls Tryz.prog 168 #[.pointer (some ⟨kb, 0, none⟩), .slice (some ⟨b, 0, none⟩) n cap] w fun e w' => e = .returned (.tuple #[]) ∧ Blk w' b (bys (l.map sbox)) T ∧ Chg w.heap.size [b] w w' := by
  have Hn := hid hn; clear hn
  go_enter Tryz.func168, Tryz.ntmps168
  go_wp2_with fail
  go_loopw [8] (fun i wr => ∃ k : Nat, k ≤ n ∧ i = .int .i64 k ∧ Blk wr b (bys (subTo k l)) T ∧ Chg w.heap.size [b] w wr) (fun i _ => n - (intOf i).toNat)
  case atStart => exact ⟨0, by omega, rfl, by simpa [subTo] using hb, Chg.refl _ _ _⟩
  case round =>
    obtain ⟨k, hkn, rfl, hb', hch⟩ := hrel
    by_cases hlt : k < n
    · have hlen := (subTo_len k l).trans Hn.out
      have hlt' : k < l.length := by rw [Hn.out]; exact hlt
      have hc := hb'.cellAt (bys_get _ k (by omega))
      have hf := hb'.frozen k
      rw [subTo_at k l hlt'] at hc
      have hs := subTo_succ k l hlt'
      have Hs := hid hs; clear hs hlen hlt'
      generalize l.getD k 0 = x at hc Hs
      have hk1 := (hk.chg hch hk.lt (by simpa using hkb)).cell 0
      have ht1 := (ht.chg hch ht.lt (by simpa using htb)).cellAt (bys_get _ (bv x).toNat (by rw [TAB_len]; have := bv_hi x; have := bv_lo x; omega))
      have x0 := bv_lo x
      have x1 := bv_hi x
      simp only [List.getElem?_cons_zero] at hk1
      have hsx : TAB.getD (bv x).toNat 0 = sbox x := by unfold sbox; rw [bv_toNat]
      rw [hsx] at ht1
      clear hsx
      go_wp2_with fail
      go_roundw
      case rel =>
        refine ⟨k + 1, by omega, by go_num, ?_, hch.setCell (.inl (by simp)) _⟩
        rw [← Hs.out, ← bys_set]; exact hb'.set _ _
      case measure => simp [intOf]; omega
    · have e : subTo k l = l.map sbox := by
        have hn := Hn.out
        obtain rfl : k = l.length := by omega
        simp [subTo]
      rw [e] at hb'
      clear e
      go_wp2_with fail
      go_end0
      exact ⟨rfl, hb', hch⟩

def mx4 : List UInt8 → List UInt8
  | [a, b, c, d] => [a ^^^ (a ^^^ b ^^^ c ^^^ d) ^^^ dbl (a ^^^ b), b ^^^ (a ^^^ b ^^^ c ^^^ d) ^^^ dbl (b ^^^ c), c ^^^ (a ^^^ b ^^^ c ^^^ d) ^^^ dbl (c ^^^ d), d ^^^ (a ^^^ b ^^^ c ^^^ d) ^^^ dbl (d ^^^ a)]
  | l => l

set_option maxRecDepth 100000 in
set_option maxHeartbeats 2000000 in
theorem mixed_any4 (c0 c1 c2 c3 : UInt8) (w : World) :
    Calls Tryz.prog 196 #[.agg #[B c0, B c1, B c2, B c3]] w fun e w' => e = .returned (.agg (bys (mx4 [c0, c1, c2, c3])).toArray) ∧ Below w.heap.size w w' := by
  go_enter Tryz.func196, Tryz.ntmps196
  go_wp2_with fail
  refine wp_loop_rounds 5 ?_
  iterate 4 (
    rw [rounds_succ]
    go_wp2_with fail
    refine still_tail' 18 (by kernel_rfl) (by kernel_rfl) ?_
    simp only [List.take_succ_cons, List.take_zero, List.drop_succ_cons, List.drop_zero]
    repeat (refine wpStill_step (fun K hK => ?_); go_simp; (try go_bits); refine hK _ ?_; clear hK K)
    refine wpStill_step (fun K hK => ?_)
    go_simp
    refine ⟨_, still_of (double_any _ _), hK _ ?_⟩
    clear hK K
    repeat (refine wpStill_step (fun K hK => ?_); go_simp; (try go_bits); refine hK _ ?_; clear hK K)
    refine wpStill_nil ?_
    go_wp2_with fail)
  rw [rounds_succ]
  go_wp2_with fail
  refine bodyPost_ret (v := .agg (bys (mx4 [c0, c1, c2, c3])).toArray) (by simp [results, Tryz.results196, go_sem, bys, mx4]) rfl ⟨rfl, ?_⟩
  go_grown

theorem len4 {l : List UInt8} (h : l.length = 4) : ∃ a b c d, l = [a, b, c, d] := by
  match l, h with
  | [a, b, c, d], _ => exact ⟨a, b, c, d, rfl⟩
theorem mixed_any (l : List UInt8) (hl : l.length = 4) (w : World) :
    Calls Tryz.prog 196 #[.agg (bys l).toArray] w fun e w' => e = .returned (.agg (bys (mx4 l)).toArray) ∧ Below w.heap.size w w' := by
  obtain ⟨a, b, c, d, rfl⟩ := len4 hl
  exact mixed_any4 a b c d w

def sh16 : List UInt8 → List UInt8
  | [a0, a1, a2, a3, a4, a5, a6, a7, a8, a9, a10, a11, a12, a13, a14, a15] => [a0, a5, a10, a15, a4, a9, a14, a3, a8, a13, a2, a7, a12, a1, a6, a11]
  | l => l
def hs16 : List UInt8 → List UInt8
  | [a0, a1, a2, a3, a4, a5, a6, a7, a8, a9, a10, a11, a12, a13, a14, a15] => [a0, a13, a10, a7, a4, a1, a14, a11, a8, a5, a2, a15, a12, a9, a6, a3]
  | l => l
theorem len16 {l : List UInt8} (h : l.length = 16) : ∃ a0 a1 a2 a3 a4 a5 a6 a7 a8 a9 a10 a11 a12 a13 a14 a15, l = [a0, a1, a2, a3, a4, a5, a6, a7, a8, a9, a10, a11, a12, a13, a14, a15] := by
  match l, h with
  | [a0, a1, a2, a3, a4, a5, a6, a7, a8, a9, a10, a11, a12, a13, a14, a15], _ => exact ⟨a0, a1, a2, a3, a4, a5, a6, a7, a8, a9, a10, a11, a12, a13, a14, a15, rfl⟩

set_option maxRecDepth 100000 in
set_option maxHeartbeats 2000000 in
theorem shift_one (a0 a1 a2 a3 a4 a5 a6 a7 a8 a9 a10 a11 a12 a13 a14 a15 : UInt8) (w : World) :
    Calls Tryz.prog 175 #[.agg #[B a0, B a1, B a2, B a3, B a4, B a5, B a6, B a7, B a8, B a9, B a10, B a11, B a12, B a13, B a14, B a15], .int .i64 1] w fun e w' => e = .returned (.agg (bys (sh16 [a0, a1, a2, a3, a4, a5, a6, a7, a8, a9, a10, a11, a12, a13, a14, a15])).toArray) ∧ Below w.heap.size w w' := by
  go_enter Tryz.func175, Tryz.ntmps175
  go_wp2_with fail
  refine wp_loop_rounds 17 ?_
  iterate 16 (rw [rounds_succ]; go_wp2_with fail)
  rw [rounds_succ]
  go_wp2_with fail
  refine bodyPost_ret (v := .agg (bys (sh16 [a0, a1, a2, a3, a4, a5, a6, a7, a8, a9, a10, a11, a12, a13, a14, a15])).toArray) (by simp [results, Tryz.results175, go_sem, bys, sh16]) rfl ⟨rfl, ?_⟩
  go_grown

end Go.Proofs.YtnmmnlffobnbfaaGreatDoor

/- aes: columns -/
namespace Go.Proofs.YtnmmnlffobnbfaaGreatDoor
open Go.RowKit

def mxN : Nat → List UInt8 → List UInt8
  | 0, c => c
  | n + 1, c => mx4 (mxN n c)
theorem under89 : Tryz.prog.underlying 190 = some (.array 4 5) := by kernel_rfl
@[go_sem] theorem arrayAt4 (a : Option Addr) (len cap : Nat) (w : World) (h : 4 ≤ len) : (Instr.arrayAt 190 (.slice a len cap)).run Tryz.prog w = .ok (.pointer a) w :=
  run_arrayAt w 190 5 4 a len cap under89 h
theorem four_at {l : List UInt8} {k : Nat} (h : k + 4 ≤ l.length) : ∃ x0 x1 x2 x3, (l.drop k).take 4 = [x0, x1, x2, x3] ∧ l.getD k 0 = x0 ∧ l.getD (k + 1) 0 = x1 ∧ l.getD (k + 2) 0 = x2 ∧ l.getD (k + 3) 0 = x3 := by
  have h4 : ((l.drop k).take 4).length = 4 := by simp; omega
  obtain ⟨a, b, c, d, e⟩ := len4 h4
  have g : ∀ j, j < 4 → l.getD (k + j) 0 = ((l.drop k).take 4).getD j 0 := fun j hj => by
    simp [List.getD, hj]
  refine ⟨a, b, c, d, e, ?_, ?_, ?_, ?_⟩
  · have := g 0 (by omega); rw [e] at this; exact this
  · have := g 1 (by omega); rw [e] at this; exact this
  · have := g 2 (by omega); rw [e] at this; exact this
  · have := g 3 (by omega); rw [e] at this; exact this
theorem mixed_ex {y0 y1 y2 y3 z0 z1 z2 z3 : UInt8} (hz : mx4 [y0, y1, y2, y3] = [z0, z1, z2, z3]) (w : World) :
    Calls Tryz.prog 196 #[.agg #[B y0, B y1, B y2, B y3]] w fun e w' => e = .returned (.agg #[B z0, B z1, B z2, B z3]) ∧ Below w.heap.size w w' := by
  have := mixed_any4 y0 y1 y2 y3 w
  rw [hz] at this
  exact this
theorem mx4_len {l : List UInt8} (h : l.length = 4) : (mx4 l).length = 4 := by
  obtain ⟨a, b, c, d, rfl⟩ := len4 h; rfl
theorem mxN_len (n : Nat) {l : List UInt8} (h : l.length = 4) : (mxN n l).length = 4 := by
  induction n with
  | zero => exact h
  | succ n ih => exact mx4_len ih
def cols (t : Nat) : Nat → List UInt8 → List UInt8
  | 0, _ => []
  | k + 1, l => cols t k l ++ mxN t ((l.drop (4 * k)).take 4)
def mixTo (t k : Nat) (l : List UInt8) : List UInt8 := cols t k l ++ l.drop (4 * k)

theorem cols_len (t k : Nat) (l : List UInt8) (hk : k ≤ 4) (hl : l.length = 16) : (cols t k l).length = 4 * k := by
  induction k with
  | zero => rfl
  | succ k ih =>
    simp only [cols, List.length_append]
    rw [ih (by omega), mxN_len t (by simp; omega)]; omega
theorem mixTo_len (t k : Nat) (l : List UInt8) (hk : k ≤ 4) (hl : l.length = 16) : (mixTo t k l).length = 16 := by
  simp only [mixTo, List.length_append, List.length_drop, cols_len t k l hk hl]; omega

theorem under33 : Tryz.prog.underlying 23 = some (.slice 5) := by kernel_rfl
theorem size5 : (Tryz.prog.info? 5).map (·.size) = some 1 := by kernel_rfl
theorem mixTo_succ (t k : Nat) (l : List UInt8) (hk : k < 4) (hl : l.length = 16) :
    splice (bys (mixTo t k l)) (4 * k) (List.take 4 (List.drop 0 (bys (mxN t (List.take 4 (List.drop (4 * k) (mixTo t k l))))))) = bys (mixTo t (k + 1) l) := by
  have hc := cols_len t k l (by omega) hl
  have e1 : List.drop (4 * k) (mixTo t k l) = l.drop (4 * k) := by
    unfold mixTo; rw [← hc]; simp
  rw [e1]
  have h4 : (mxN t (List.take 4 (List.drop (4 * k) l))).length = 4 := mxN_len t (by simp; omega)
  generalize hz : mxN t (List.take 4 (List.drop (4 * k) l)) = Z at h4
  have e2 : List.take 4 (List.drop 0 (bys Z)) = bys Z := by
    rw [List.drop_zero, List.take_of_length_le (by rw [bys_length, h4]; omega)]
  rw [e2]
  unfold splice mixTo
  rw [cols, hz]
  have e3 : (bys (cols t k l ++ l.drop (4 * k))).take (4 * k) = bys (cols t k l) := by
    rw [bys, List.map_append, List.take_left' (by simp [hc])]; rfl
  have e4 : (bys (cols t k l ++ l.drop (4 * k))).drop (4 * k + (bys Z).length) = bys (l.drop (4 * (k + 1))) := by
    rw [bys_length, h4, show 4 * k + 4 = (cols t k l).length + 4 by omega]
    unfold bys
    rw [List.map_append, List.drop_append, ← List.map_drop, ← List.map_drop]
    simp only [List.length_map]
    rw [List.drop_of_length_le (l := cols t k l) (by omega), show (cols t k l).length + 4 - (cols t k l).length = 4 by omega, List.drop_drop]
    simp [show 4 * k + 4 = 4 * (k + 1) by omega]
  rw [e3, e4]
  simp [bys]

set_option maxRecDepth 100000 in
set_option maxHeartbeats 1000000 in
theorem mix_any (w : World) (b t : Nat) (l : List UInt8) (T : TypeId) (hb : Blk w b (bys l) T) (hl : l.length = 16) (ht : t < 1000) :
    Calls Tryz.prog 174 #[.pointer (some ⟨b, 0, none⟩), .int .i64 t] w fun e w' => e = .returned (.tuple #[]) ∧ Blk w' b (bys (mixTo t 4 l)) T ∧ Chg w.heap.size [b] w w' := by
  have Hl := hid hl; clear hl
  have hblt := hb.lt
  go_enter Tryz.func174, Tryz.ntmps174
  go_wp2_with fail
  go_loopw [6] (fun i wr => ∃ k : Nat, k ≤ 4 ∧ i = .int .i64 k ∧ Blk wr b (bys (mixTo t k l)) T ∧ Chg w.heap.size [b] w wr) (fun i _ => 4 - (intOf i).toNat)
  case atStart => exact ⟨0, by omega, rfl, by simpa [mixTo, cols] using hb, Chg.refl _ _ _⟩
  case round =>
    obtain ⟨k, hkn, rfl, hb', hch⟩ := hrel
    by_cases hlt : k < 4
    · have q0 : 0 ≤ 4 * (k : Int) := by omega
      have q1 : 4 * (k : Int) ≤ 16 := by omega
      have q2 : (4 * (k : Int)).toNat = 4 * k := by omega
      have q3 : ¬ (16 = 4 * k) := by omega
      have q4 : ¬ (4 * k = 16) := by omega
      have q5 : 4 ≤ 16 - 4 * k := by omega
      have hd4 : decide ((k : Int) < 4) = true := by simp; omega
      have hl16 := mixTo_len t k l hkn Hl.out
      have hc0 := hb'.cellAt (bys_get _ (4 * k) (by omega))
      have hc1 := hb'.cellAt (bys_get _ (4 * k + 1) (by omega))
      have hc2 := hb'.cellAt (bys_get _ (4 * k + 2) (by omega))
      have hc3 := hb'.cellAt (bys_get _ (4 * k + 3) (by omega))
      obtain ⟨x0, x1, x2, x3, hx, e0, e1, e2, e3⟩ := four_at (l := mixTo t k l) (k := 4 * k) (by omega)
      rw [e0] at hc0; rw [e1] at hc1; rw [e2] at hc2; rw [e3] at hc3
      clear e0 e1 e2 e3
      have Hx := hid hx; clear hx
      have Hl16 := hid hl16; clear hl16
      go_wp2_with fail
      have hcb := Blk.new wr (bys [x0, x1, x2, x3]) tA4
      have hbb := hb'.alloc (.cells (bys [x0, x1, x2, x3]).toArray tA4)
      have hch1 := hch.alloc hch.size (.cells (bys [x0, x1, x2, x3]).toArray tA4)
      have hsz : wr.heap.size < (wr.alloc (.cells (bys [x0, x1, x2, x3]).toArray tA4)).heap.size := by simp
      have hwr := hch.size
      clear hc0 hc1 hc2 hc3 hb' hch
      change Code.wp _ _ _ _ (wr.alloc (.cells (bys [x0, x1, x2, x3]).toArray tA4))
      generalize wr.alloc (.cells (bys [x0, x1, x2, x3]).toArray tA4) = w1 at *
      generalize wr.heap.size = cb at *
      generalize hM : mixTo t k l = M at *
      generalize hC : [x0, x1, x2, x3] = C at *
      have HM := hid hM; clear hM
      have hC4 : C.length = 4 := by rw [← hC]; rfl
      have HC4 := hid hC4; clear hC4 hC
      go_loopw [17] (fun i w2 => ∃ j : Nat, j ≤ t ∧ i = .int .i64 j ∧ Blk w2 cb (bys (mxN j C)) tA4 ∧ Blk w2 b (bys M) T ∧ Chg w.heap.size [b] w w2) (fun i _ => t - (intOf i).toNat)
      case atStart => exact ⟨0, by omega, rfl, hcb, hbb, hch1⟩
      case round =>
        obtain ⟨j, hj, rfl, hcb2, hbb2, hch2⟩ := hrel
        clear hcb hbb hch1
        by_cases hjt : j < t
        · obtain ⟨y0, y1, y2, y3, hy⟩ := len4 (mxN_len j HC4.out)
          have hz : mxN (j + 1) C = mx4 [y0, y1, y2, y3] := by rw [← hy]; rfl
          obtain ⟨z0, z1, z2, z3, hzz⟩ := len4 (mx4_len (l := [y0, y1, y2, y3]) rfl)
          rw [hzz] at hz
          rw [hy] at hcb2
          have Hz := hid hz; clear hz hy
          have Hzz := hid hzz; clear hzz
          have c0 := hcb2.cell 0
          have c1 := hcb2.cell 1
          have c2 := hcb2.cell 2
          have c3 := hcb2.cell 3
          simp only [bys, List.map_cons, List.map_nil, List.getElem?_cons_zero, List.getElem?_cons_succ] at c0 c1 c2 c3
          go_wp2_with (go_at_call 196; refine (mixed_ex Hzz.out _).mono ?_; rintro e w3 ⟨rfl, hb3⟩; have hcb3 := hcb2.below hb3 hcb2.lt; have hbb3 := hbb2.below hb3 hbb2.lt; have hch3 := hch2.trans (Chg.ofBelow (F := [b]) (hb3.mono hch2.size)); have d0 := hcb3.cell 0; have d1 := hcb3.cell 1; have d2 := hcb3.cell 2; have d3 := hcb3.cell 3; have f0 := hcb3.frozen 0; have f1 := hcb3.frozen 1; have f2 := hcb3.frozen 2; have f3 := hcb3.frozen 3; simp only [bys, List.map_cons, List.map_nil, List.getElem?_cons_zero, List.getElem?_cons_succ] at d0 d1 d2 d3; clear c0 c1 c2 c3)
          go_roundw
          case rel =>
            refine ⟨j + 1, by omega, by go_num, ?_, ?_, ?_⟩
            · rw [Hz.out]
              have := (((hcb3.set 0 (.int .u8 (bv z0))).set 1 (.int .u8 (bv z1))).set 2 (.int .u8 (bv z2))).set 3 (.int .u8 (bv z3))
              simpa [bys] using this
            · have hne : b ≠ cb := by omega
              exact (((hbb3.setNe hne _).setNe hne _).setNe hne _).setNe hne _
            · exact (((hch3.setCell (.inr hwr) _).setCell (.inr hwr) _).setCell (.inr hwr) _).setCell (.inr hwr) _
          case measure => simp [intOf]; omega
        · obtain rfl : j = t := by omega
          obtain ⟨y0, y1, y2, y3, hy⟩ := len4 (mxN_len j HC4.out)
          have Hy := hid hy
          rw [hy] at hcb2
          clear hy
          go_wp2_with fail
          refine still_tail' 6 (by kernel_rfl) (by kernel_rfl) ?_
          simp only [List.take_succ_cons, List.take_zero, List.drop_succ_cons, List.drop_zero]
          repeat (refine wpStill_step (fun K hK => ?_); go_simp; (try go_bits); refine hK _ ?_; clear hK K)
          refine wpStill_nil ?_
          refine wpList_copy_blk rfl (.tmp 26) (.tmp 27) 23 23 rfl 5 under33 size5 b (4 * k) (16 - 4 * k) (16 - 4 * k) cb 0 4 4 rfl rfl (bys M) (bys [y0, y1, y2, y3]) T tA4 hbb2.drew hcb2.drew 4 (Nat.min_eq_left q5).symm (by rw [bys_length, Hl16.out]; omega) (by simp [bys]) (bys_one _) ?_
          intro w4 hg4 hch4 hs4
          go_wp2_with fail
          go_roundw
          case rel =>
            refine ⟨k + 1, by omega, by go_num, ?_, hch2.drew.trans (hch4.mono (G := [b]) hch2.size (fun _ _ h => h))⟩
            have e : splice (bys M) (4 * k) (List.take 4 (List.drop 0 (bys [y0, y1, y2, y3]))) = bys (mixTo j (k + 1) l) := by
              rw [← HM.out, ← Hy.out, ← Hx.out, ← HM.out]
              exact mixTo_succ j k l hlt Hl.out
            rw [← e]; exact hg4
          case measure => simp [intOf]; omega
    · obtain rfl : k = 4 := by omega
      go_wp2_with fail
      go_end0
      exact ⟨rfl, hb', hch⟩

end Go.Proofs.YtnmmnlffobnbfaaGreatDoor

/- aes: rows turned back -/
namespace Go.Proofs.YtnmmnlffobnbfaaGreatDoor
open Go.RowKit

set_option maxRecDepth 100000 in
set_option maxHeartbeats 2000000 in
theorem shift_back (a0 a1 a2 a3 a4 a5 a6 a7 a8 a9 a10 a11 a12 a13 a14 a15 : UInt8) (w : World) :
    Calls Tryz.prog 175 #[.agg #[B a0, B a1, B a2, B a3, B a4, B a5, B a6, B a7, B a8, B a9, B a10, B a11, B a12, B a13, B a14, B a15], .int .i64 (-1)] w fun e w' => e = .returned (.agg (bys (hs16 [a0, a1, a2, a3, a4, a5, a6, a7, a8, a9, a10, a11, a12, a13, a14, a15])).toArray) ∧ Below w.heap.size w w' := by
  go_enter Tryz.func175, Tryz.ntmps175
  go_wp2_with fail
  refine wp_loop_rounds 17 ?_
  iterate 16 (rw [rounds_succ]; go_wp2_with fail)
  rw [rounds_succ]
  go_wp2_with fail
  refine bodyPost_ret (v := .agg (bys (hs16 [a0, a1, a2, a3, a4, a5, a6, a7, a8, a9, a10, a11, a12, a13, a14, a15])).toArray) (by simp [results, Tryz.results175, go_sem, bys, hs16]) rfl ⟨rfl, ?_⟩
  go_grown

theorem shift_any (l : List UInt8) (hl : l.length = 16) (w : World) :
    Calls Tryz.prog 175 #[.agg (bys l).toArray, .int .i64 1] w fun e w' => e = .returned (.agg (bys (sh16 l)).toArray) ∧ Below w.heap.size w w' := by
  obtain ⟨a0, a1, a2, a3, a4, a5, a6, a7, a8, a9, a10, a11, a12, a13, a14, a15, rfl⟩ := len16 hl
  exact shift_one a0 a1 a2 a3 a4 a5 a6 a7 a8 a9 a10 a11 a12 a13 a14 a15 w
theorem shiftb_any (l : List UInt8) (hl : l.length = 16) (w : World) :
    Calls Tryz.prog 175 #[.agg (bys l).toArray, .int .i64 (-1)] w fun e w' => e = .returned (.agg (bys (hs16 l)).toArray) ∧ Below w.heap.size w w' := by
  obtain ⟨a0, a1, a2, a3, a4, a5, a6, a7, a8, a9, a10, a11, a12, a13, a14, a15, rfl⟩ := len16 hl
  exact shift_back a0 a1 a2 a3 a4 a5 a6 a7 a8 a9 a10 a11 a12 a13 a14 a15 w

end Go.Proofs.YtnmmnlffobnbfaaGreatDoor

/- aes: a block, enciphered -/
namespace Go.Proofs.YtnmmnlffobnbfaaGreatDoor
open Go.RowKit

def addK (rk : List UInt8) (r : Nat) (s : List UInt8) : List UInt8 := addTo 16 s ((rk.drop (16 * r)).take 16)
def encTo (rk : List UInt8) (R : Nat) (s : List UInt8) : Nat → List UInt8
  | 0 => addK rk 0 s
  | r + 1 => addK rk (r + 1) (if r + 1 < R then mixTo 1 4 (sh16 ((encTo rk R s r).map sbox)) else sh16 ((encTo rk R s r).map sbox))
theorem addTo_ext (s rk : List UInt8) (r : Nat) (h : 16 * r + 16 ≤ rk.length) (hs : s.length = 16) : addTo 16 s (rk.drop (16 * r)) = addK rk r s := by
  unfold addK addTo
  congr 1
  have e : rk.drop (16 * r) = (rk.drop (16 * r)).take 16 ++ (rk.drop (16 * r)).drop 16 := (List.take_append_drop 16 _).symm
  have e2 : List.take 16 s = List.take 16 s ++ [] := by simp
  rw (occs := .pos [1]) [e]
  rw [e2, List.zipWith_append (by simp; omega)]
  simp
theorem sh16_len {l : List UInt8} (h : l.length = 16) : (sh16 l).length = 16 := by
  obtain ⟨a0, a1, a2, a3, a4, a5, a6, a7, a8, a9, a10, a11, a12, a13, a14, a15, rfl⟩ := len16 h; rfl
theorem hs16_len {l : List UInt8} (h : l.length = 16) : (hs16 l).length = 16 := by
  obtain ⟨a0, a1, a2, a3, a4, a5, a6, a7, a8, a9, a10, a11, a12, a13, a14, a15, rfl⟩ := len16 h; rfl
theorem addK_len (rk : List UInt8) (r : Nat) (s : List UInt8) (h : 16 * r + 16 ≤ rk.length) (hs : s.length = 16) : (addK rk r s).length = 16 := by
  unfold addK; rw [addTo_len]; · exact hs
  · simp; omega
theorem encTo_len (rk : List UInt8) (R : Nat) (s : List UInt8) (r : Nat) (h : 16 * r + 16 ≤ rk.length) (hs : s.length = 16) : (encTo rk R s r).length = 16 := by
  induction r with
  | zero => exact addK_len _ _ _ (by omega) hs
  | succ r ih =>
    have hm : ((encTo rk R s r).map sbox).length = 16 := by rw [List.length_map]; exact ih (by omega)
    refine addK_len _ _ _ h ?_
    split
    · exact mixTo_len _ _ _ (by omega) (sh16_len hm)
    · exact sh16_len hm

/-- A key's round keys in memory: the tables, the words. -/
def KeysAt (w : World) (kb : Nat) (rk : List UInt8) : Prop := ∃ tb wb n cap ex, Blk w kb [.pointer (some ⟨tb, 0, none⟩), .slice (some ⟨wb, 0, none⟩) n cap] tKeys ∧ Blk w tb (bys TAB) tTables ∧
  Blk w wb (bys rk ++ ex) tA4 ∧ rk.length = 4 * n ∧ (n = 44 ∨ n = 60)
def roundsOf (rk : List UInt8) : Nat := rk.length / 16 - 1
def enc (rk s : List UInt8) : List UInt8 := encTo rk (roundsOf rk) s (roundsOf rk)

set_option maxRecDepth 100000 in
set_option maxHeartbeats 1000000 in
theorem rounds_some (w : World) (kb tb n cap : Nat) (wp : Option Addr) (hk : Blk w kb [.pointer (some ⟨tb, 0, none⟩), .slice wp n cap] tKeys) (hn : 4 ≤ n) (hn9 : n < 1000000000) :
    Calls Tryz.prog 172 #[.pointer (some ⟨kb, 0, none⟩)] w fun e w' => e = .returned (.int .i64 ((n / 4 - 1 : Nat) : Int)) ∧ w = w' := by
  have h0 := hk.cell 0
  have h1 := hk.cell 1
  simp only [List.getElem?_cons_zero, List.getElem?_cons_succ] at h0 h1
  go_enter Tryz.func172, Tryz.ntmps172
  go_wp2
  go_ret
  refine ⟨?_, rfl⟩
  show Ending.returned (.int .i64 ((n : Int) / 4 - 1)) = _
  rw [show ((n : Int) / 4 - 1) = ((n / 4 - 1 : Nat) : Int) by omega]

theorem under54 : Tryz.prog.underlying 100 = some (.array 16 5) := by kernel_rfl
theorem size54 : (Tryz.prog.info? 100).map (·.size) = some 16 := by kernel_rfl
def z16 : List UInt8 := List.replicate 16 0

set_option maxRecDepth 100000 in
set_option maxHeartbeats 2000000 in
theorem enc_any (w : World) (kb : Nat) (rk s : List UInt8) (hk : KeysAt w kb rk) (hs : s.length = 16) :
    Calls Tryz.prog 132 #[.pointer (some ⟨kb, 0, none⟩), .agg (bys s).toArray] w fun e w' => e = .returned (.agg (bys (enc rk s)).toArray) ∧ Below w.heap.size w w' := by
  obtain ⟨tb, wb, n, cap, ex, hk, ht, hw, hrk, hn⟩ := hk
  have hR : roundsOf rk = n / 4 - 1 := by unfold roundsOf; omega
  have hkl := hk.lt
  have htl := ht.lt
  have hwl := hw.lt
  have Hs := hid hs; clear hs
  have Hrk := hid hrk; clear hrk
  have Hn := hid hn; clear hn
  have HR := hid hR; clear hR
  go_enter Tryz.func132, Tryz.ntmps132
  go_wp2_with fail
  refine (rounds_some _ kb tb n cap _ ((hk.alloc _).alloc _) (by have := Hn.out; omega) (by have := Hn.out; omega)).mono ?_
  rintro e w1 ⟨rfl, rfl⟩
  have hRn : ((n / 4 - 1 : Nat) : Int) = (roundsOf rk : Int) := by rw [HR.out]
  rw [hRn]
  clear hRn
  have hR0 : ((roundsOf rk : Int) == 0) = false := by rw [beq_eq_false_iff_ne]; have := HR.out; have := Hn.out; omega
  have hR1 : 1 ≤ roundsOf rk := by have := HR.out; have := Hn.out; omega
  have hR2 : roundsOf rk ≤ 14 := by have := HR.out; have := Hn.out; omega
  have hN : Blk ((w.alloc (.cells (bys s).toArray tA16)).alloc (.cells (bys z16).toArray tA16)) w.heap.size (bys s) tA16 := (Blk.new w (bys s) tA16).alloc _
  have hM : Blk ((w.alloc (.cells (bys s).toArray tA16)).alloc (.cells (bys z16).toArray tA16)) (w.heap.size + 1) (bys z16) tA16 := by
    have := Blk.new (w.alloc (.cells (bys s).toArray tA16)) (bys z16) tA16
    simpa using this
  have hB : Below w.heap.size w ((w.alloc (.cells (bys s).toArray tA16)).alloc (.cells (bys z16).toArray tA16)) := ((Below.refl _ _).alloc (Nat.le_refl _) _).alloc (by simp) _
  have hsz : ((w.alloc (.cells (bys s).toArray tA16)).alloc (.cells (bys z16).toArray tA16)).heap.size = w.heap.size + 2 := by simp
  go_wp2_with fail
  change Calls _ _ _ ((w.alloc (.cells (bys s).toArray tA16)).alloc (.cells (bys z16).toArray tA16)) _
  generalize ((w.alloc (.cells (bys s).toArray tA16)).alloc (.cells (bys z16).toArray tA16)) = w2 at *
  refine (add_any w2 kb tb wb w.heap.size n cap 0 s rk ex tA16 (hk.below hB hkl) (hw.below hB hwl) hN Hs.out (by have := Hrk.out; have := Hn.out; simp; omega) (by have := Hn.out; omega) (by omega) (by omega) (by have := Hn.out; omega)).mono ?_
  rintro e w3 ⟨rfl, hN3, hc3⟩
  have hM3 := hM.chg hc3 hM.lt (by simp)
  have hB3 := hB.trans (hc3.below (M := w.heap.size) (by omega) (by simp))
  rw [addTo_ext s rk 0 (by have := Hrk.out; have := Hn.out; omega) Hs.out] at hN3
  clear hN hM hB hc3 hsz
  go_wp2_with fail
  go_loopw [6] (fun i wr => ∃ r : Nat, r ≤ roundsOf rk ∧ i = .int .i64 ((r : Int) + 1) ∧ Blk wr w.heap.size (bys (encTo rk (roundsOf rk) s r)) tA16 ∧ Blk wr (w.heap.size + 1) (bys z16) tA16 ∧ Below w.heap.size w wr) (fun i _ => 20 - (intOf i).toNat)
  case atStart => exact ⟨0, by omega, rfl, hN3, hM3, hB3⟩
  case round =>
    obtain ⟨r, hr, rfl, hN, hM, hB⟩ := hrel
    clear hN3 hM3 hB3
    have hl := encTo_len rk (roundsOf rk) s r (by have := Hrk.out; have := Hn.out; have := HR.out; omega) Hs.out
    have HX : Hid (encTo rk (roundsOf rk) s (r + 1) = addK rk (r + 1) (if r + 1 < roundsOf rk then mixTo 1 4 (sh16 ((encTo rk (roundsOf rk) s r).map sbox)) else sh16 ((encTo rk (roundsOf rk) s r).map sbox))) := hid rfl
    by_cases hlt : r < roundsOf rk
    · generalize encTo rk (roundsOf rk) s r = x at hN hl HX
      have Hl := hid hl; clear hl
      go_wp2_with fail
      refine (subs_any wr kb tb w.heap.size 16 16 _ x tA16 (hk.below hB hkl) (ht.below hB htl) hN Hl.out (by omega) (by omega) (by omega)).mono ?_
      rintro e w4 ⟨rfl, hN4, hc4⟩
      have hM4 := hM.chg hc4 hM.lt (by simp)
      have hs4 := hB.size
      have hB4 := hB.trans (hc4.below (M := w.heap.size) (by omega) (by simp))
      clear hN hM hc4
      go_wp2_with (refine wpList_load_mid rfl 100 (.tmp 3) rfl w.heap.size 0 rfl (bys (x.map sbox)) _ hN4.whole under54 rfl (by rw [size54, bys_length, List.length_map, Hl.out]) ?_)
      have hml : (x.map sbox).length = 16 := by rw [List.length_map]; exact Hl.out
      refine (shift_any (x.map sbox) hml w4).mono ?_
      rintro e w5 ⟨rfl, hB5⟩
      have hN5 := hN4.below hB5 hN4.lt
      have hM5 := hM4.below hB5 hM4.lt
      have hB6 := hB4.trans (hB5.mono hB4.size)
      have hsl := sh16_len hml
      clear hN4 hM4 hB4 hB5 hs4
      go_wp2_with (refine wpList_store_mid rfl 100 (.tmp 3) (.tmp 23) rfl w.heap.size 0 (bys (sh16 (x.map sbox))).toArray rfl rfl (hN5.there 0 _ (by rw [List.size_toArray, bys_length, bys_length, hsl, hml]; omega)) (by rw [size54, List.size_toArray, bys_length, hsl]) (all_oneCell_toArray (bys_one _)) ?_)
      all_goals
        have hN6 := hN5.setCells (bys (sh16 (x.map sbox))) 0 (by rw [bys_length, bys_length, hsl, hml]; omega)
        rw [splice_whole _ _ (by rw [bys_length, bys_length, hsl, hml])] at hN6
        have hc6 := (Chg.refl w5.heap.size [w.heap.size] w5).setCells (b := w.heap.size) (.inl (by simp)) (bys (sh16 (x.map sbox))) 0
        have hM6 := hM5.chg hc6 hM5.lt (by simp)
        have hB7 := hB6.trans (hc6.below (M := w.heap.size) hB6.size (by simp))
        clear hN5 hM5 hB6 hc6
        generalize w5.setCells w.heap.size 0 (bys (sh16 (x.map sbox))) = w6 at *
      · have hlt2 : r + 1 < roundsOf rk := by omega
        refine (mix_any w6 w.heap.size 1 _ tA16 hN6 hsl (by omega)).mono ?_
        rintro e w7 ⟨rfl, hN7, hc7⟩
        have hM7 := hM6.chg hc7 hM6.lt (by simp)
        have hB8 := hB7.trans (hc7.below (M := w.heap.size) hB7.size (by simp))
        clear hN6 hM6 hB7 hc7
        go_wp2_with fail
        refine (add_any w7 kb tb wb w.heap.size n cap (r + 1) _ rk ex tA16 (hk.below hB8 hkl) (hw.below hB8 hwl) hN7 (mixTo_len _ _ _ (by omega) hsl) (by have := Hrk.out; have := Hn.out; have := HR.out; simp; omega) (by have := Hn.out; have := HR.out; omega) (by omega) (by omega) (by have := Hn.out; omega)).mono ?_
        rintro e w8 ⟨rfl, hN8, hc8⟩
        rw [addTo_ext _ rk (r + 1) (by have := Hrk.out; have := Hn.out; have := HR.out; omega) (mixTo_len _ _ _ (by omega) hsl)] at hN8
        have hM8 := hM7.chg hc8 hM7.lt (by simp)
        have hB9 := hB8.trans (hc8.below (M := w.heap.size) hB8.size (by simp))
        clear hN7 hM7 hB8 hc8
        go_wp2_with fail
        go_roundw
        case rel =>
          refine ⟨r + 1, by omega, by go_num, ?_, hM8, hB9⟩
          rw [HX.out, if_pos hlt2]; exact hN8
        case measure => simp [intOf]; omega
      · have hlt2 : ¬ r + 1 < roundsOf rk := by omega
        refine (add_any w6 kb tb wb w.heap.size n cap (r + 1) _ rk ex tA16 (hk.below hB7 hkl) (hw.below hB7 hwl) hN6 hsl (by have := Hrk.out; have := Hn.out; have := HR.out; simp; omega) (by have := Hn.out; have := HR.out; omega) (by omega) (by omega) (by have := Hn.out; omega)).mono ?_
        rintro e w8 ⟨rfl, hN8, hc8⟩
        rw [addTo_ext _ rk (r + 1) (by have := Hrk.out; have := Hn.out; have := HR.out; omega) hsl] at hN8
        have hM8 := hM6.chg hc8 hM6.lt (by simp)
        have hB9 := hB7.trans (hc8.below (M := w.heap.size) hB7.size (by simp))
        clear hN6 hM6 hB7 hc8
        go_wp2_with fail
        go_roundw
        case rel =>
          refine ⟨r + 1, by omega, by go_num, ?_, hM8, hB9⟩
          rw [HX.out, if_neg hlt2]; exact hN8
        case measure => simp [intOf]; omega
    · have hre : r = roundsOf rk := by omega
      have he : enc rk s = encTo rk (roundsOf rk) s r := by unfold enc; rw [hre]
      rw [← he] at hN hl
      have Hl := hid hl
      clear hl he hre HX
      go_wp2_with (first | (refine wpList_load_mid rfl 100 (.tmp 3) rfl w.heap.size 0 rfl (bys (enc rk s)) _ hN.whole under54 rfl (by rw [size54, bys_length, Hl.out]) ?_) | (refine wpList_store_mid rfl 100 (.tmp 4) (.tmp 31) rfl (w.heap.size + 1) 0 (bys (enc rk s)).toArray rfl rfl (hM.there 0 _ (by rw [List.size_toArray, bys_length, bys_length, Hl.out]; decide)) (by rw [size54, List.size_toArray, bys_length, Hl.out]) (all_oneCell_toArray (bys_one _)) ?_))
      have hMs := hM.setCells (bys (enc rk s)) 0 (by rw [bys_length, bys_length, Hl.out]; decide)
      rw [splice_whole _ _ (by rw [bys_length, bys_length, Hl.out]; decide)] at hMs
      refine bodyPost_ret (v := .agg (bys (enc rk s)).toArray) (results_cell_row (P := Tryz.prog) (p := 4) (ty := 100) rfl _ _ (w.heap.size + 1) tA16 _ (0, 0) _ rfl hMs under54 rfl (by rw [size54, List.size_toArray, bys_length, Hl.out])) rfl ⟨rfl, ?_⟩
      exact hB.trans (((Chg.refl (w.heap.size) [] wr).setCells (.inr (by omega)) _ _).below (Nat.le_refl _) (by simp))
#print axioms enc_any
end Go.Proofs.YtnmmnlffobnbfaaGreatDoor
