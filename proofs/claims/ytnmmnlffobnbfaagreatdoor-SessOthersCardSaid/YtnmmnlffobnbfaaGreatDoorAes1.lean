/- aes: bytes -/
import Derived.Test.YtnmmnlffobnbfaaGreatDoorBase
namespace Go.Proofs.YtnmmnlffobnbfaaGreatDoor
open Go.RowKit

def dbl (x : UInt8) : UInt8 := if 128 ≤ x.toNat then (x <<< 1) ^^^ 27 else x <<< 1

set_option maxRecDepth 100000 in
set_option maxHeartbeats 400000 in
theorem double_any (x : UInt8) (w : World) :
    Calls Tryz.prog 169 #[B x] w fun e w' => e = .returned (B (dbl x)) ∧ w = w' := by
  have h0 := bv_lo x
  have h1 := bv_hi x
  by_cases h : 128 ≤ bv x
  · have hd : dbl x = (x <<< 1) ^^^ 27 := by unfold dbl; rw [if_pos (by unfold bv at h; omega)]
    have Hd := hid hd; clear hd
    go_enter Tryz.func169, Tryz.ntmps169
    go_wp2
    go_ret
    refine ⟨?_, rfl⟩
    rw [Hd.out]; rfl
  · have hd : dbl x = (x <<< 1) := by unfold dbl; rw [if_neg (by unfold bv at h; omega)]
    have h2 : bv x * (2 : Int) = bv (x <<< 1) := by rw [← bv_shl1]; omega
    have Hd := hid hd; clear hd
    have H2 := hid h2; clear h2
    go_enter Tryz.func169, Tryz.ntmps169
    go_wp2
    go_ret
    refine ⟨?_, rfl⟩
    rw [Hd.out]; show Ending.returned (.int .u8 (bv x * 2)) = .returned (.int .u8 (bv (x <<< 1))); rw [H2.out]

def trn (q : UInt8) : UInt8 := q ^^^ (q <<< 1 ||| q >>> 7) ^^^ (q <<< 2 ||| q >>> 6) ^^^ (q <<< 3 ||| q >>> 5) ^^^ (q <<< 4 ||| q >>> 4)

set_option maxRecDepth 100000 in
set_option maxHeartbeats 1000000 in
theorem turned_any (x : UInt8) (w : World) :
    Calls Tryz.prog 194 #[B x] w fun e w' => e = .returned (B (trn x)) ∧ ∃ n, w.drewN n = w' := by
  have h0 := bv_lo x
  have h1 := bv_hi x
  go_enter Tryz.func194, Tryz.ntmps194
  go_wp2_with fail
  refine wp_loop_rounds 5 ?_
  iterate 4 (rw [rounds_succ]; go_wp2_with fail; go_quiet (fail); go_wp2_with fail)
  rw [rounds_succ]
  go_wp2_with fail
  go_ret
  exact ⟨rfl, _, rfl⟩

theorem Blk.setB {w : World} {b : Nat} {l : List UInt8} {T : TypeId} (h : Blk w b (bys l) T) (i v : UInt8) :
    Blk (w.setCell ⟨b, (bv i).toNat, none⟩ (.int .u8 (bv v))) b (bys (l.set i.toNat v)) T := by
  rw [bv_toNat, ← bys_set]; exact h.set _ _
def qst (q : UInt8) : UInt8 := let q1 := q ^^^ q <<< 1; let q2 := q1 ^^^ q1 <<< 2; q2 ^^^ q2 <<< 4
def qfin (q : UInt8) : UInt8 := if 128 ≤ q.toNat then q ^^^ 9 else q
def mnext (s : UInt8 × UInt8 × List UInt8) : UInt8 × UInt8 × List UInt8 :=
  (s.1 ^^^ dbl s.1, qfin (qst s.2.1), s.2.2.set (s.1 ^^^ dbl s.1).toNat (trn (qfin (qst s.2.1)) ^^^ 99))
def zer512 : List UInt8 := List.replicate 512 0
theorem zer512_len : zer512.length = 512 := by decide +kernel
def mst : Nat → UInt8 × UInt8 × List UInt8
  | 0 => (1, 1, zer512)
  | k + 1 => mnext (mst k)
theorem mst_len (k : Nat) : (mst k).2.2.length = 512 := by
  induction k with
  | zero => exact zer512_len
  | succ k ih => simp [mst, mnext, ih]
theorem qfin_hi {q : UInt8} (h : 128 ≤ bv q) : qfin q = q ^^^ 9 := by unfold qfin; rw [if_pos (by unfold bv at h; omega)]
theorem qfin_lo {q : UInt8} (h : bv q < 128) : qfin q = q := by unfold qfin; rw [if_neg (by unfold bv at h; omega)]
theorem zero96 : Tryz.zeroCells217 = (bys zer512).toArray := by kernel_rfl

def bnext (T : List UInt8) (k : Nat) : List UInt8 := T.set (256 + (T.getD k 0).toNat) (UInt8.ofNat k)
def bst (T : List UInt8) : Nat → List UInt8
  | 0 => T
  | k + 1 => bnext (bst T k) k
theorem bst_len (T : List UInt8) (k : Nat) : (bst T k).length = T.length := by
  induction k with
  | zero => rfl
  | succ k ih => simp [bst, bnext, ih]

def TAB : List UInt8 := bst ((mst 255).2.2.set 0 99) 256

set_option maxRecDepth 100000 in
set_option maxHeartbeats 4000000 in
theorem made_any (w : World) :
    Calls Tryz.prog 167 #[] w fun e w' => ∃ b, e = .returned (.pointer (some ⟨b, 0, none⟩)) ∧ Blk w' b (bys TAB) tTables ∧ Below w.heap.size w w' ∧ b = w.heap.size := by
  have hn := Blk.new w (bys zer512) tTables
  rw [← zero96] at hn
  go_enter Tryz.func167, Tryz.ntmps167
  go_wp2_with fail
  go_loopw [2, 3, 7] (fun p q i wr => ∃ k : Nat, k ≤ 255 ∧ i = .int .i64 k ∧ p = B (mst k).1 ∧ q = B (mst k).2.1 ∧ Blk wr w.heap.size (bys (mst k).2.2) tTables ∧ Below w.heap.size w wr) (fun _ _ i _ => 255 - (intOf i).toNat)
  case atStart => exact ⟨0, by omega, rfl, rfl, rfl, hn, (Below.refl _ _).alloc (Nat.le_refl _) _⟩
  case round =>
    obtain ⟨k, hk, rfl, rfl, rfl, hb, hbel⟩ := hrel
    clear hn
    have hl := mst_len k
    by_cases hlt : k < 255
    · have hnx : mst (k + 1) = mnext (mst k) := rfl
      have Hnx := hid hnx; clear hnx
      revert Hnx hl hb
      generalize mst k = s
      obtain ⟨p, q, T⟩ := s
      intro hb hl Hnx
      dsimp only at hl hb ⊢
      have p0 := bv_lo (p ^^^ dbl p)
      have p1 := bv_hi (p ^^^ dbl p)
      have hpn : (bv (p ^^^ dbl p)).toNat < T.length := by omega
      have hc := hb.cellAt (bys_get T (bv (p ^^^ dbl p)).toNat hpn)
      have hf := hb.frozen (bv (p ^^^ dbl p)).toNat
      clear hl
      go_wp2_with (go_at_call 169; refine (double_any _ _).mono ?_; rintro e w' ⟨rfl, rfl⟩)
      all_goals go_region_held3 (fun _ => True) (trivial) (first | (go_at_call 194; refine (turned_any _ _).mono ?_; rintro e w' ⟨rfl, n, rfl⟩))
      all_goals go_wp2_with fail
      · have h9 := qfin_hi (q := qst q) ‹_›
        go_roundw
        case rel =>
          refine ⟨k + 1, by omega, by go_num, ?_, ?_, ?_, (below_drewN hbel _).setCell (Nat.le_refl _) _⟩
          · rw [Hnx.out]; rfl
          · rw [Hnx.out]; simp only [mnext]; rw [h9]; rfl
          · rw [Hnx.out]; simp only [mnext]; rw [h9]; exact Blk.setB (hb.drewN _) _ _
        case measure => simp [intOf]; omega
      · have h9 := qfin_lo (q := qst q) ‹_›
        go_roundw
        case rel =>
          refine ⟨k + 1, by omega, by go_num, ?_, ?_, ?_, (below_drewN hbel _).setCell (Nat.le_refl _) _⟩
          · rw [Hnx.out]; rfl
          · rw [Hnx.out]; simp only [mnext]; rw [h9]; rfl
          · rw [Hnx.out]; simp only [mnext]; rw [h9]; exact Blk.setB (hb.drewN _) _ _
        case measure => simp [intOf]; omega
    · have hk255 : k = 255 := by omega
      have H255 := hid hk255; clear hk255
      generalize (mst k).1 = p
      generalize (mst k).2.1 = q
      have hc0 := hb.cellAt (bys_get _ 0 (by omega))
      have hf0 := hb.frozen 0
      go_wp2_with fail
      clear hc0 hf0
      have hb' := hb.set 0 (.int .u8 (bv 99))
      rw [bys_set] at hb'
      have hbel' : Below w.heap.size w (wr.setCell ⟨w.heap.size, 0, none⟩ (.int .u8 (bv 99))) := hbel.setCell (Nat.le_refl _) _
      have hl' : ((mst k).2.2.set 0 99).length = 512 := by simp [hl]
      clear hb hbel hl
      generalize hT : (mst k).2.2.set 0 99 = T at hb' hl'
      have HT := hid hT; clear hT
      have e99 : Value.int .u8 99 = .int .u8 (bv 99) := rfl
      rw [e99]
      clear e99
      generalize wr.setCell ⟨w.heap.size, 0, none⟩ (.int .u8 (bv 99)) = w1 at hb' hbel' ⊢
      go_loopw [42] (fun i wr => ∃ m : Nat, m ≤ 256 ∧ i = .int .i64 m ∧ Blk wr w.heap.size (bys (bst T m)) tTables ∧ Below w.heap.size w wr) (fun i _ => 256 - (intOf i).toNat)
      case atStart => exact ⟨0, by omega, rfl, hb', hbel'⟩
      case round =>
        obtain ⟨m, hm, rfl, hb, hbel⟩ := hrel
        have hl := (bst_len T m).trans hl'
        clear hb' hbel' hl'
        by_cases hlt : m < 256
        · have hnx : bst T (m + 1) = bnext (bst T m) m := rfl
          have Hnx := hid hnx; clear hnx
          generalize bst T m = S at hb hl Hnx
          generalize hx : S.getD m 0 = x
          have hcl := hb.cellAt (bys_get S m (by omega))
          rw [hx] at hcl
          have x0 := bv_lo x
          have x1 := bv_hi x
          have hc := hb.cellAt (bys_get S (256 + (bv x).toNat) (by omega))
          have hf := hb.frozen (256 + (bv x).toNat)
          have Hx := hid hx; clear hx
          clear hl
          have hne : ¬ (256 + (bv x).toNat = m) := by omega
          have hne' : ¬ (m = 256 + (bv x).toNat) := by omega
          have hw : IntKind.u8.wrap (m : Int) = bv (UInt8.ofNat m) := by rw [IntWalk.u8_in _ (by omega)]; exact (bv_lit m hlt).symm
          go_wp2_with fail
          go_region_held3 (fun w' => w'.cell? ⟨w.heap.size, m, none⟩ = some (.int .u8 (bv x))) (first | (go_keep; done) | (rw [World.cell?_drew, World.cell?_setCell_other _ _ _ _ (by simp only [ne_eq, Addr.mk.injEq]; omega)]; exact hcl)) (fail)
          go_wp2_with fail
          go_roundw
          case rel =>
            refine ⟨m + 1, by omega, by go_num, ?_, Below.drew (hbel.setCell (Nat.le_refl _) _)⟩
            rw [Hnx.out]
            simp only [bnext]
            rw [Hx.out, ← bys_set, ← bv_toNat]
            exact (hb.set _ _).drew
          case measure => simp [intOf]; omega
        · obtain rfl : m = 256 := by omega
          go_wp2_with fail
          go_ret
          refine ⟨_, rfl, ?_, hbel, rfl⟩
          rw [← HT.out, H255.out] at hb
          exact hb

#print axioms made_any
end Go.Proofs.YtnmmnlffobnbfaaGreatDoor
