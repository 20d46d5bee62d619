/- sess: Close, Handles -/
import Derived.Test.YtnmmnlffobnbfaaGreatDoorTb2
namespace Go.Proofs.YtnmmnlffobnbfaaGreatDoor
open Go.RowKit

def closeF (st : List Pl) (h : Int) : List Pl := match lookF st h with | some i => st.set i (false, (st.getD i (false, 0)).2 + 1) | none => st
def closeV (st : List Pl) (h : Int) : Value := match lookF st h with | some _ => .int .i64 0 | none => .int .i64 3
theorem lookF_lt (st : List Pl) (h : Int) (i : Nat) (hn0 : 0 < st.length) (hl : lookF st h = some i) : i < st.length := by
  unfold lookF at hl
  split at hl
  · cases hl
  · split at hl
    · cases hl
      have h1 := Int.emod_lt_of_pos (h - 1) (show (0 : Int) < st.length by omega)
      have h2 := Int.emod_nonneg (h - 1) (show (st.length : Int) ≠ 0 by omega)
      omega
    · cases hl

set_option maxRecDepth 100000 in
set_option maxHeartbeats 2000000 in
theorem close_any (w : World) (lo t : Nat) (st : List Pl) (h : Int) (ht : TabAt lo w t st) (hn : st.length ≤ 64) (hn0 : 0 < st.length) (hc : ∀ j, j < st.length → (st.getD j (false, 0)).2 < 1000000) (hh : -9223372036854775808 ≤ h ∧ h ≤ 9223372036854775807) :
    Calls Tryz.prog 65 #[.pointer (some ⟨t, 0, none⟩), .int .i64 h] w fun e w' => e = .returned (closeV st h) ∧ TabAt lo w' t (closeF st h) ∧ Below lo w w' := by
  have hlo := ht.lo_le
  have HL := look_any w lo t st h ht hn hn0 hc hh
  have hBr : Below lo w w := Below.refl _ _
  obtain ⟨r, hr⟩ : ∃ r, lookF st h = r := ⟨_, rfl⟩
  cases r with
  | none =>
    have h1 : lookV st h = .tuple #[.int .i64 0, .int .i64 3] := by unfold lookV; rw [hr]
    have h2 : closeV st h = .int .i64 3 := by unfold closeV; rw [hr]
    have h3 : closeF st h = st := by unfold closeF; rw [hr]
    rw [h1] at HL
    rw [h2, h3]
    clear h1 h2 h3 hr
    go_enter Tryz.func65, Tryz.ntmps65
    go_wp2_with fail
    refine HL.mono ?_
    rintro e w2 ⟨rfl, m, rfl⟩
    go_wp2_with fail
    go_ret
    exact ⟨rfl, ht.drewN m, below_drewN hBr m⟩
  | some i =>
    have hil := lookF_lt st h i hn0 hr
    have h1 : lookV st h = .tuple #[.int .i64 (i : Int), .int .i64 0] := by unfold lookV; rw [hr]
    have h2 : closeV st h = .int .i64 0 := by unfold closeV; rw [hr]
    have h3 : closeF st h = st.set i (false, (st.getD i (false, 0)).2 + 1) := by unfold closeF; rw [hr]
    have hci := hc i hil
    rw [h1] at HL
    rw [h2, h3]
    clear h1 h2 h3 hr hc
    obtain ⟨h0, pb, h1, hT, hP⟩ := ht
    have hps := pls_set st i hil false ((st.getD i (false, 0)).2 + 1)
    have hat := pls_at st i hil
    generalize (st.getD i (false, 0)).2 = c at *
    have Hps := hid hps
    have hne : t ≠ pb := hT.ne hP (by decide)
    go_enter Tryz.func65, Tryz.ntmps65
    go_wp2_with fail
    refine HL.mono ?_
    rintro e w2 ⟨rfl, m, rfl⟩
    have hT := hT.drewN m
    have hP := hP.drewN m
    have hBm := below_drewN hBr m
    generalize w.drewN m = w3 at *
    have c0 := hT.cell 0
    have c1 := hP.cellAt hat.1
    have c2 := hP.cellAt hat.2
    have f1 := hP.frozen (i * 2)
    have f2 := hP.frozen (i * 2 + 1)
    simp only [List.getElem?_cons_zero] at c0
    clear hps hat HL hBr
    go_wp2_with fail
    go_region
    go_wp2_with fail
    go_ret
    have hP2 := (hP.set (i * 2) (.bool false)).set (i * 2 + 1) (.int .i64 ((c + 1 : Nat) : Int))
    rw [Hps.out] at hP2
    have hT2 := (hT.setNe (a := ⟨pb, i * 2, none⟩) hne (.bool false)).setNe (a := ⟨pb, i * 2 + 1, none⟩) hne (.int .i64 ((c + 1 : Nat) : Int))
    exact ⟨rfl, ⟨h0, pb, h1, by rw [List.length_set]; exact hT2.drew, hP2.drew⟩, ((hBm.setCell h1 _).setCell h1 _).drew⟩

def hands (st : List Pl) : Nat → List Int
  | 0 => []
  | k + 1 => if (st.getD k (false, 0)).1 = true then hands st k ++ [hnum st k] else hands st k
def ints (l : List Int) : List Value := l.map (fun x => .int .i64 x)
theorem hands_len (st : List Pl) (k : Nat) : (hands st k).length ≤ k := by
  induction k with
  | zero => simp [hands]
  | succ k ih =>
    unfold hands
    split
    · rw [List.length_append, List.length_singleton]; omega
    · omega
theorem ints_one (l : List Int) : ∀ v ∈ ints l, v.oneCell' = true := by
  intro v hv
  simp only [ints, List.mem_map] at hv
  obtain ⟨x, _, rfl⟩ := hv
  rfl
theorem TabAt.alloc {lo t : Nat} {w : World} {st : List Pl} (h : TabAt lo w t st) (o : Obj) : TabAt lo (w.alloc o) t st := by
  obtain ⟨h0, pb, h1, h2, h3⟩ := h
  exact ⟨h0, pb, h1, h2.alloc o, h3.alloc o⟩
theorem handle_num (w : World) (lo t : Nat) (st : List Pl) (i : Nat) (ht : TabAt lo w t st) (hi : i < st.length) (hn : st.length ≤ 64) (hc : (st.getD i (false, 0)).2 < 1000000) :
    Calls Tryz.prog 117 #[.pointer (some ⟨t, 0, none⟩), .int .i64 i] w fun e w' => e = .returned (.int .i64 (hnum st i)) ∧ ∃ k, w.drewN k = w' := handle_any w lo t st i ht hi hn hc
theorem info3 : (Tryz.prog.info? 3).map (fun i => (i.zero, i.size, i.bytes)) = some (some (.int .i64 0), 1, 8) := by kernel_rfl
theorem under32 : Tryz.prog.underlying 67 = some (.slice 3) := by kernel_rfl

set_option maxRecDepth 100000 in
set_option maxHeartbeats 2000000 in
theorem handles_any (w : World) (lo t : Nat) (st : List Pl) (ht : TabAt lo w t st) (hn : st.length ≤ 64) (hc : ∀ j, j < st.length → (st.getD j (false, 0)).2 < 1000000) :
    Calls Tryz.prog 67 #[.pointer (some ⟨t, 0, none⟩)] w fun e w' => ∃ v, e = .returned v ∧ w'.ownsRow w.heap.size 3 1 v (hands st st.length).length (ints (hands st st.length)) ∧ Below w.heap.size w w' := by
  obtain ⟨i0, hi0, hz0, hs0, hb0⟩ := info_parts info3
  have Hi0 := hid hi0
  have Hz0 := hid hz0
  have Hs0 := hid hs0
  have Hb0 := hid hb0
  clear hi0 hz0 hs0 hb0
  have hT0 := ht
  obtain ⟨h0, pb, h1, hT, hP⟩ := ht
  have htl := hT.lt
  have hpl := hP.lt
  have c0 := hT.cell 0
  simp only [List.getElem?_cons_zero] at c0
  go_enter Tryz.func67, Tryz.ntmps67
  go_wp2_with fail
  go_loopw [3, 13] (fun v i wr => ∃ k : Nat, k ≤ st.length ∧ i = .int .i64 k ∧ wr.ownsRow w.heap.size 3 1 v (hands st k).length (ints (hands st k)) ∧ Below w.heap.size w wr) (fun _ i _ => st.length - (intOf i).toNat)
  case atStart => exact ⟨0, by omega, rfl, World.ownsRow_nil _ _ _ _, Below.refl _ _⟩
  case round =>
    obtain ⟨k, hk, rfl, hown, hB⟩ := hrel
    by_cases hlt : k < st.length
    · have hck := hc k hlt
      have hnx := hid (show hands st (k + 1) = if (st.getD k (false, 0)).1 = true then hands st k ++ [hnum st k] else hands st k from rfl)
      have hPk := hP.below hB hpl
      have hTk := hT.below hB htl
      have hTT := hT0.below hB
      have c0 := hTk.cell 0
      have c1 := hPk.cellAt (pls_at st k hlt).1
      have c2 := hPk.cellAt (pls_at st k hlt).2
      simp only [List.getElem?_cons_zero] at c0
      have Hown := hid hown
      have hhl := hands_len st k
      have Hh := fun w' (hT : TabAt lo w' t st) => handle_num w' lo t st k hT hlt hn hck
      generalize (st.getD k (false, 0)).2 = c at c2
      generalize hnum st k = h at *
      clear hown hc hck
      by_cases ho : (st.getD k (false, 0)).1 = true
      · rw [if_pos ho] at hnx
        rw [ho] at c1
        go_wp2_with fail
        refine (Hh _ (hTT.alloc _)).mono ?_
        rintro e W ⟨rfl, m, hW⟩
        have hownW : W.ownsRow w.heap.size 3 1 u3 (hands st k).length (ints (hands st k)) := by rw [← hW]; exact Hown.out.alloc _
        have hBW : Below w.heap.size w W := by rw [← hW]; exact below_drewN (hB.alloc hB.size _) m
        have HownW := hid hownW
        clear hownW hW
        have hsW := hBW.size
        go_wp2_with (refine wpList_append_own _ rfl (.tmp 20) (.tmp 24) 67 rfl w.heap.size 3 i0 (.int .i64 0) 1 8 under32 Hi0.out Hz0.out Hs0.out Hb0.out rfl (by decide) u3 (hands st k).length _ rfl (HownW.out.alloc _) ⟨W.heap.size, 0, none⟩ 1 1 (ints [h]) rfl rfl (fun a u hu => by rw [Addr.add_mid]; exact (Blk.new W (ints [h]) 3).whole a u hu) (ints_one _) (by unfold maxLen; omega) (by omega) (by simp; omega) ?_; intro v' w1 hown1 hgrow _; have hB1 := (hBW.alloc hBW.size (.cells (ints [h]).toArray 3)).grown hgrow (by simp; omega) (fun j e => by { have := (HownW.out.lt j e).1; omega }))
        go_roundw
        case rel =>
          refine ⟨k + 1, by omega, by go_num, ?_, hB1⟩
          rw [hnx.out]
          simpa [ints] using hown1
        case measure => simp [intOf]; omega
      · rw [if_neg ho] at hnx
        have ho' : (st.getD k (false, 0)).1 = false := by simpa using ho
        rw [ho'] at c1
        go_wp2_with fail
        go_roundw
        case rel =>
          refine ⟨k + 1, by omega, by go_num, ?_, ?_⟩
          · rw [hnx.out]; exact Hown.out.alloc _
          · exact hB.alloc hB.size _
        case measure => simp [intOf]; omega
    · obtain rfl : k = st.length := by omega
      go_wp2_with fail
      go_ret
      exact ⟨_, rfl, hown, hB⟩
end Go.Proofs.YtnmmnlffobnbfaaGreatDoor
