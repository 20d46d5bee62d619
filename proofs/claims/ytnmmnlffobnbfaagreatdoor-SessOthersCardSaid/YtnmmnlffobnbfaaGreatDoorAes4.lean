/- aes: columns -/
import Derived.Test.YtnmmnlffobnbfaaGreatDoorAes2
namespace Go.Proofs.YtnmmnlffobnbfaaGreatDoor
open Go.RowKit

def mxN : Nat → List UInt8 → List UInt8
  | 0, c => c
  | n + 1, c => mx4 (mxN n c)
theorem under89 : Tryz.prog.underlying 190 = some (.array 4 5) := by kernel_rfl
@[go_sem] theorem arrayAt4 (a : Option Addr) (len cap : Nat) (w : World) (h : 4 ≤ len) : (Instr.arrayAt 190 (.slice a len cap)).run Tryz.prog w = .ok (.pointer a) w :=
  run_arrayAt w 190 5 4 a len cap under89 h
theorem four_at {l : List UInt8} {k : Nat} (h : k + 4 ≤ l.length) : ∃ x0 x1 x2 x3, (l.drop k).take 4 = [x0, x1, x2, x3] ∧ l.getD k 0 = x0 ∧ l.getD (k + 1) 0 = x1 ∧ l.getD (k + 2) 0 = x2 ∧ l.getD (k + 3) 0 = x3 := by
  have h4 : ((l.drop k).take 4).length = 4 := by simp; omega
  obtain ⟨a, b, c, d, e⟩ := len4 h4
  have g : ∀ j, j < 4 → l.getD (k + j) 0 = ((l.drop k).take 4).getD j 0 := fun j hj => by
    simp [List.getD, hj]
  refine ⟨a, b, c, d, e, ?_, ?_, ?_, ?_⟩
  · have := g 0 (by omega); rw [e] at this; exact this
  · have := g 1 (by omega); rw [e] at this; exact this
  · have := g 2 (by omega); rw [e] at this; exact this
  · have := g 3 (by omega); rw [e] at this; exact this
theorem mixed_ex {y0 y1 y2 y3 z0 z1 z2 z3 : UInt8} (hz : mx4 [y0, y1, y2, y3] = [z0, z1, z2, z3]) (w : World) :
    Calls Tryz.prog 196 #[.agg #[B y0, B y1, B y2, B y3]] w fun e w' => e = .returned (.agg #[B z0, B z1, B z2, B z3]) ∧ Below w.heap.size w w' := by
  have := mixed_any4 y0 y1 y2 y3 w
  rw [hz] at this
  exact this
theorem mx4_len {l : List UInt8} (h : l.length = 4) : (mx4 l).length = 4 := by
  obtain ⟨a, b, c, d, rfl⟩ := len4 h; rfl
theorem mxN_len (n : Nat) {l : List UInt8} (h : l.length = 4) : (mxN n l).length = 4 := by
  induction n with
  | zero => exact h
  | succ n ih => exact mx4_len ih
def cols (t : Nat) : Nat → List UInt8 → List UInt8
  | 0, _ => []
  | k + 1, l => cols t k l ++ mxN t ((l.drop (4 * k)).take 4)
def mixTo (t k : Nat) (l : List UInt8) : List UInt8 := cols t k l ++ l.drop (4 * k)

theorem cols_len (t k : Nat) (l : List UInt8) (hk : k ≤ 4) (hl : l.length = 16) : (cols t k l).length = 4 * k := by
  induction k with
  | zero => rfl
  | succ k ih =>
    simp only [cols, List.length_append]
    rw [ih (by omega), mxN_len t (by simp; omega)]; omega
theorem mixTo_len (t k : Nat) (l : List UInt8) (hk : k ≤ 4) (hl : l.length = 16) : (mixTo t k l).length = 16 := by
  simp only [mixTo, List.length_append, List.length_drop, cols_len t k l hk hl]; omega

theorem under33 : Tryz.prog.underlying 23 = some (.slice 5) := by kernel_rfl
theorem size5 : (Tryz.prog.info? 5).map (·.size) = some 1 := by kernel_rfl
theorem mixTo_succ (t k : Nat) (l : List UInt8) (hk : k < 4) (hl : l.length = 16) :
    splice (bys (mixTo t k l)) (4 * k) (List.take 4 (List.drop 0 (bys (mxN t (List.take 4 (List.drop (4 * k) (mixTo t k l))))))) = bys (mixTo t (k + 1) l) := by
  have hc := cols_len t k l (by omega) hl
  have e1 : List.drop (4 * k) (mixTo t k l) = l.drop (4 * k) := by
    unfold mixTo; rw [← hc]; simp
  rw [e1]
  have h4 : (mxN t (List.take 4 (List.drop (4 * k) l))).length = 4 := mxN_len t (by simp; omega)
  generalize hz : mxN t (List.take 4 (List.drop (4 * k) l)) = Z at h4
  have e2 : List.take 4 (List.drop 0 (bys Z)) = bys Z := by
    rw [List.drop_zero, List.take_of_length_le (by rw [bys_length, h4]; omega)]
  rw [e2]
  unfold splice mixTo
  rw [cols, hz]
  have e3 : (bys (cols t k l ++ l.drop (4 * k))).take (4 * k) = bys (cols t k l) := by
    rw [bys, List.map_append, List.take_left' (by simp [hc])]; rfl
  have e4 : (bys (cols t k l ++ l.drop (4 * k))).drop (4 * k + (bys Z).length) = bys (l.drop (4 * (k + 1))) := by
    rw [bys_length, h4, show 4 * k + 4 = (cols t k l).length + 4 by omega]
    unfold bys
    rw [List.map_append, List.drop_append, ← List.map_drop, ← List.map_drop]
    simp only [List.length_map]
    rw [List.drop_of_length_le (l := cols t k l) (by omega), show (cols t k l).length + 4 - (cols t k l).length = 4 by omega, List.drop_drop]
    simp [show 4 * k + 4 = 4 * (k + 1) by omega]
  rw [e3, e4]
  simp [bys]

set_option maxRecDepth 100000 in
set_option maxHeartbeats 1000000 in
theorem mix_any (w : World) (b t : Nat) (l : List UInt8) (T : TypeId) (hb : Blk w b (bys l) T) (hl : l.length = 16) (ht : t < 1000) :
    Calls Tryz.prog 174 #[.pointer (some ⟨b, 0, none⟩), .int .i64 t] w fun e w' => e = .returned (.tuple #[]) ∧ Blk w' b (bys (mixTo t 4 l)) T ∧ Chg w.heap.size [b] w w' := by
  have Hl := hid hl; clear hl
  have hblt := hb.lt
  go_enter Tryz.func174, Tryz.ntmps174
  go_wp2_with fail
  go_loopw [6] (fun i wr => ∃ k : Nat, k ≤ 4 ∧ i = .int .i64 k ∧ Blk wr b (bys (mixTo t k l)) T ∧ Chg w.heap.size [b] w wr) (fun i _ => 4 - (intOf i).toNat)
  case atStart => exact ⟨0, by omega, rfl, by simpa [mixTo, cols] using hb, Chg.refl _ _ _⟩
  case round =>
    obtain ⟨k, hkn, rfl, hb', hch⟩ := hrel
    by_cases hlt : k < 4
    · have q0 : 0 ≤ 4 * (k : Int) := by omega
      have q1 : 4 * (k : Int) ≤ 16 := by omega
      have q2 : (4 * (k : Int)).toNat = 4 * k := by omega
      have q3 : ¬ (16 = 4 * k) := by omega
      have q4 : ¬ (4 * k = 16) := by omega
      have q5 : 4 ≤ 16 - 4 * k := by omega
      have hd4 : decide ((k : Int) < 4) = true := by simp; omega
      have hl16 := mixTo_len t k l hkn Hl.out
      have hc0 := hb'.cellAt (bys_get _ (4 * k) (by omega))
      have hc1 := hb'.cellAt (bys_get _ (4 * k + 1) (by omega))
      have hc2 := hb'.cellAt (bys_get _ (4 * k + 2) (by omega))
      have hc3 := hb'.cellAt (bys_get _ (4 * k + 3) (by omega))
      obtain ⟨x0, x1, x2, x3, hx, e0, e1, e2, e3⟩ := four_at (l := mixTo t k l) (k := 4 * k) (by omega)
      rw [e0] at hc0; rw [e1] at hc1; rw [e2] at hc2; rw [e3] at hc3
      clear e0 e1 e2 e3
      have Hx := hid hx; clear hx
      have Hl16 := hid hl16; clear hl16
      go_wp2_with fail
      have hcb := Blk.new wr (bys [x0, x1, x2, x3]) tA4
      have hbb := hb'.alloc (.cells (bys [x0, x1, x2, x3]).toArray tA4)
      have hch1 := hch.alloc hch.size (.cells (bys [x0, x1, x2, x3]).toArray tA4)
      have hsz : wr.heap.size < (wr.alloc (.cells (bys [x0, x1, x2, x3]).toArray tA4)).heap.size := by simp
      have hwr := hch.size
      clear hc0 hc1 hc2 hc3 hb' hch
      change Code.wp _ _ _ _ (wr.alloc (.cells (bys [x0, x1, x2, x3]).toArray tA4))
      generalize wr.alloc (.cells (bys [x0, x1, x2, x3]).toArray tA4) = w1 at *
      generalize wr.heap.size = cb at *
      generalize hM : mixTo t k l = M at *
      generalize hC : [x0, x1, x2, x3] = C at *
      have HM := hid hM; clear hM
      have hC4 : C.length = 4 := by rw [← hC]; rfl
      have HC4 := hid hC4; clear hC4 hC
      go_loopw [17] (fun i w2 => ∃ j : Nat, j ≤ t ∧ i = .int .i64 j ∧ Blk w2 cb (bys (mxN j C)) tA4 ∧ Blk w2 b (bys M) T ∧ Chg w.heap.size [b] w w2) (fun i _ => t - (intOf i).toNat)
      case atStart => exact ⟨0, by omega, rfl, hcb, hbb, hch1⟩
      case round =>
        obtain ⟨j, hj, rfl, hcb2, hbb2, hch2⟩ := hrel
        clear hcb hbb hch1
        by_cases hjt : j < t
        · obtain ⟨y0, y1, y2, y3, hy⟩ := len4 (mxN_len j HC4.out)
          have hz : mxN (j + 1) C = mx4 [y0, y1, y2, y3] := by rw [← hy]; rfl
          obtain ⟨z0, z1, z2, z3, hzz⟩ := len4 (mx4_len (l := [y0, y1, y2, y3]) rfl)
          rw [hzz] at hz
          rw [hy] at hcb2
          have Hz := hid hz; clear hz hy
          have Hzz := hid hzz; clear hzz
          have c0 := hcb2.cell 0
          have c1 := hcb2.cell 1
          have c2 := hcb2.cell 2
          have c3 := hcb2.cell 3
          simp only [bys, List.map_cons, List.map_nil, List.getElem?_cons_zero, List.getElem?_cons_succ] at c0 c1 c2 c3
          go_wp2_with (go_at_call 196; refine (mixed_ex Hzz.out _).mono ?_; rintro e w3 ⟨rfl, hb3⟩; have hcb3 := hcb2.below hb3 hcb2.lt; have hbb3 := hbb2.below hb3 hbb2.lt; have hch3 := hch2.trans (Chg.ofBelow (F := [b]) (hb3.mono hch2.size)); have d0 := hcb3.cell 0; have d1 := hcb3.cell 1; have d2 := hcb3.cell 2; have d3 := hcb3.cell 3; have f0 := hcb3.frozen 0; have f1 := hcb3.frozen 1; have f2 := hcb3.frozen 2; have f3 := hcb3.frozen 3; simp only [bys, List.map_cons, List.map_nil, List.getElem?_cons_zero, List.getElem?_cons_succ] at d0 d1 d2 d3; clear c0 c1 c2 c3)
          go_roundw
          case rel =>
            refine ⟨j + 1, by omega, by go_num, ?_, ?_, ?_⟩
            · rw [Hz.out]
              have := (((hcb3.set 0 (.int .u8 (bv z0))).set 1 (.int .u8 (bv z1))).set 2 (.int .u8 (bv z2))).set 3 (.int .u8 (bv z3))
              simpa [bys] using this
            · have hne : b ≠ cb := by omega
              exact (((hbb3.setNe hne _).setNe hne _).setNe hne _).setNe hne _
            · exact (((hch3.setCell (.inr hwr) _).setCell (.inr hwr) _).setCell (.inr hwr) _).setCell (.inr hwr) _
          case measure => simp [intOf]; omega
        · obtain rfl : j = t := by omega
          obtain ⟨y0, y1, y2, y3, hy⟩ := len4 (mxN_len j HC4.out)
          have Hy := hid hy
          rw [hy] at hcb2
          clear hy
          go_wp2_with fail
          refine still_tail' 6 (by kernel_rfl) (by kernel_rfl) ?_
          simp only [List.take_succ_cons, List.take_zero, List.drop_succ_cons, List.drop_zero]
          repeat (refine wpStill_step (fun K hK => ?_); go_simp; (try go_bits); refine hK _ ?_; clear hK K)
          refine wpStill_nil ?_
          refine wpList_copy_blk rfl (.tmp 26) (.tmp 27) 23 23 rfl 5 under33 size5 b (4 * k) (16 - 4 * k) (16 - 4 * k) cb 0 4 4 rfl rfl (bys M) (bys [y0, y1, y2, y3]) T tA4 hbb2.drew hcb2.drew 4 (Nat.min_eq_left q5).symm (by rw [bys_length, Hl16.out]; omega) (by simp [bys]) (bys_one _) ?_
          intro w4 hg4 hch4 hs4
          go_wp2_with fail
          go_roundw
          case rel =>
            refine ⟨k + 1, by omega, by go_num, ?_, hch2.drew.trans (hch4.mono (G := [b]) hch2.size (fun _ _ h => h))⟩
            have e : splice (bys M) (4 * k) (List.take 4 (List.drop 0 (bys [y0, y1, y2, y3]))) = bys (mixTo j (k + 1) l) := by
              rw [← HM.out, ← Hy.out, ← Hx.out, ← HM.out]
              exact mixTo_succ j k l hlt Hl.out
            rw [← e]; exact hg4
          case measure => simp [intOf]; omega
    · obtain rfl : k = 4 := by omega
      go_wp2_with fail
      go_end0
      exact ⟨rfl, hb', hch⟩

end Go.Proofs.YtnmmnlffobnbfaaGreatDoor
