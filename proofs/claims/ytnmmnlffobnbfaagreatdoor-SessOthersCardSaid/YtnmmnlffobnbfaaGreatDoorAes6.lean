/- aes: a block, enciphered -/
import Derived.Test.YtnmmnlffobnbfaaGreatDoorAes3
import Derived.Test.YtnmmnlffobnbfaaGreatDoorAes4
import Derived.Test.YtnmmnlffobnbfaaGreatDoorAes5
namespace Go.Proofs.YtnmmnlffobnbfaaGreatDoor
open Go.RowKit

def addK (rk : List UInt8) (r : Nat) (s : List UInt8) : List UInt8 := addTo 16 s ((rk.drop (16 * r)).take 16)
def encTo (rk : List UInt8) (R : Nat) (s : List UInt8) : Nat → List UInt8
  | 0 => addK rk 0 s
  | r + 1 => addK rk (r + 1) (if r + 1 < R then mixTo 1 4 (sh16 ((encTo rk R s r).map sbox)) else sh16 ((encTo rk R s r).map sbox))
theorem addTo_ext (s rk : List UInt8) (r : Nat) (h : 16 * r + 16 ≤ rk.length) (hs : s.length = 16) : addTo 16 s (rk.drop (16 * r)) = addK rk r s := by
  unfold addK addTo
  congr 1
  have e : rk.drop (16 * r) = (rk.drop (16 * r)).take 16 ++ (rk.drop (16 * r)).drop 16 := (List.take_append_drop 16 _).symm
  have e2 : List.take 16 s = List.take 16 s ++ [] := by simp
  rw (occs := .pos [1]) [e]
  rw [e2, List.zipWith_append (by simp; omega)]
  simp
theorem sh16_len {l : List UInt8} (h : l.length = 16) : (sh16 l).length = 16 := by
  obtain ⟨a0, a1, a2, a3, a4, a5, a6, a7, a8, a9, a10, a11, a12, a13, a14, a15, rfl⟩ := len16 h; rfl
theorem hs16_len {l : List UInt8} (h : l.length = 16) : (hs16 l).length = 16 := by
  obtain ⟨a0, a1, a2, a3, a4, a5, a6, a7, a8, a9, a10, a11, a12, a13, a14, a15, rfl⟩ := len16 h; rfl
theorem addK_len (rk : List UInt8) (r : Nat) (s : List UInt8) (h : 16 * r + 16 ≤ rk.length) (hs : s.length = 16) : (addK rk r s).length = 16 := by
  unfold addK; rw [addTo_len]; · exact hs
  · simp; omega
theorem encTo_len (rk : List UInt8) (R : Nat) (s : List UInt8) (r : Nat) (h : 16 * r + 16 ≤ rk.length) (hs : s.length = 16) : (encTo rk R s r).length = 16 := by
  induction r with
  | zero => exact addK_len _ _ _ (by omega) hs
  | succ r ih =>
    have hm : ((encTo rk R s r).map sbox).length = 16 := by rw [List.length_map]; exact ih (by omega)
    refine addK_len _ _ _ h ?_
    split
    · exact mixTo_len _ _ _ (by omega) (sh16_len hm)
    · exact sh16_len hm

/-- A key's round keys in memory: the tables, the words. -/
def KeysAt (w : World) (kb : Nat) (rk : List UInt8) : Prop := ∃ tb wb n cap ex, Blk w kb [.pointer (some ⟨tb, 0, none⟩), .slice (some ⟨wb, 0, none⟩) n cap] tKeys ∧ Blk w tb (bys TAB) tTables ∧
  Blk w wb (bys rk ++ ex) tA4 ∧ rk.length = 4 * n ∧ (n = 44 ∨ n = 60)
def roundsOf (rk : List UInt8) : Nat := rk.length / 16 - 1
def enc (rk s : List UInt8) : List UInt8 := encTo rk (roundsOf rk) s (roundsOf rk)

set_option maxRecDepth 100000 in
set_option maxHeartbeats 1000000 in
theorem rounds_some (w : World) (kb tb n cap : Nat) (wp : Option Addr) (hk : Blk w kb [.pointer (some ⟨tb, 0, none⟩), .slice wp n cap] tKeys) (hn : 4 ≤ n) (hn9 : n < 1000000000) :
    Calls Tryz.prog 172 #[.pointer (some ⟨kb, 0, none⟩)] w fun e w' => e = .returned (.int .i64 ((n / 4 - 1 : Nat) : Int)) ∧ w = w' := by
  have h0 := hk.cell 0
  have h1 := hk.cell 1
  simp only [List.getElem?_cons_zero, List.getElem?_cons_succ] at h0 h1
  go_enter Tryz.func172, Tryz.ntmps172
  go_wp2
  go_ret
  refine ⟨?_, rfl⟩
  show Ending.returned (.int .i64 ((n : Int) / 4 - 1)) = _
  rw [show ((n : Int) / 4 - 1) = ((n / 4 - 1 : Nat) : Int) by omega]

theorem under54 : Tryz.prog.underlying 100 = some (.array 16 5) := by kernel_rfl
theorem size54 : (Tryz.prog.info? 100).map (·.size) = some 16 := by kernel_rfl
def z16 : List UInt8 := List.replicate 16 0

set_option maxRecDepth 100000 in
set_option maxHeartbeats 2000000 in
theorem enc_any (w : World) (kb : Nat) (rk s : List UInt8) (hk : KeysAt w kb rk) (hs : s.length = 16) :
    Calls Tryz.prog 132 #[.pointer (some ⟨kb, 0, none⟩), .agg (bys s).toArray] w fun e w' => e = .returned (.agg (bys (enc rk s)).toArray) ∧ Below w.heap.size w w' := by
  obtain ⟨tb, wb, n, cap, ex, hk, ht, hw, hrk, hn⟩ := hk
  have hR : roundsOf rk = n / 4 - 1 := by unfold roundsOf; omega
  have hkl := hk.lt
  have htl := ht.lt
  have hwl := hw.lt
  have Hs := hid hs; clear hs
  have Hrk := hid hrk; clear hrk
  have Hn := hid hn; clear hn
  have HR := hid hR; clear hR
  go_enter Tryz.func132, Tryz.ntmps132
  go_wp2_with fail
  refine (rounds_some _ kb tb n cap _ ((hk.alloc _).alloc _) (by have := Hn.out; omega) (by have := Hn.out; omega)).mono ?_
  rintro e w1 ⟨rfl, rfl⟩
  have hRn : ((n / 4 - 1 : Nat) : Int) = (roundsOf rk : Int) := by rw [HR.out]
  rw [hRn]
  clear hRn
  have hR0 : ((roundsOf rk : Int) == 0) = false := by rw [beq_eq_false_iff_ne]; have := HR.out; have := Hn.out; omega
  have hR1 : 1 ≤ roundsOf rk := by have := HR.out; have := Hn.out; omega
  have hR2 : roundsOf rk ≤ 14 := by have := HR.out; have := Hn.out; omega
  have hN : Blk ((w.alloc (.cells (bys s).toArray tA16)).alloc (.cells (bys z16).toArray tA16)) w.heap.size (bys s) tA16 := (Blk.new w (bys s) tA16).alloc _
  have hM : Blk ((w.alloc (.cells (bys s).toArray tA16)).alloc (.cells (bys z16).toArray tA16)) (w.heap.size + 1) (bys z16) tA16 := by
    have := Blk.new (w.alloc (.cells (bys s).toArray tA16)) (bys z16) tA16
    simpa using this
  have hB : Below w.heap.size w ((w.alloc (.cells (bys s).toArray tA16)).alloc (.cells (bys z16).toArray tA16)) := ((Below.refl _ _).alloc (Nat.le_refl _) _).alloc (by simp) _
  have hsz : ((w.alloc (.cells (bys s).toArray tA16)).alloc (.cells (bys z16).toArray tA16)).heap.size = w.heap.size + 2 := by simp
  go_wp2_with fail
  change Calls _ _ _ ((w.alloc (.cells (bys s).toArray tA16)).alloc (.cells (bys z16).toArray tA16)) _
  generalize ((w.alloc (.cells (bys s).toArray tA16)).alloc (.cells (bys z16).toArray tA16)) = w2 at *
  refine (add_any w2 kb tb wb w.heap.size n cap 0 s rk ex tA16 (hk.below hB hkl) (hw.below hB hwl) hN Hs.out (by have := Hrk.out; have := Hn.out; simp; omega) (by have := Hn.out; omega) (by omega) (by omega) (by have := Hn.out; omega)).mono ?_
  rintro e w3 ⟨rfl, hN3, hc3⟩
  have hM3 := hM.chg hc3 hM.lt (by simp)
  have hB3 := hB.trans (hc3.below (M := w.heap.size) (by omega) (by simp))
  rw [addTo_ext s rk 0 (by have := Hrk.out; have := Hn.out; omega) Hs.out] at hN3
  clear hN hM hB hc3 hsz
  go_wp2_with fail
  go_loopw [6] (fun i wr => ∃ r : Nat, r ≤ roundsOf rk ∧ i = .int .i64 ((r : Int) + 1) ∧ Blk wr w.heap.size (bys (encTo rk (roundsOf rk) s r)) tA16 ∧ Blk wr (w.heap.size + 1) (bys z16) tA16 ∧ Below w.heap.size w wr) (fun i _ => 20 - (intOf i).toNat)
  case atStart => exact ⟨0, by omega, rfl, hN3, hM3, hB3⟩
  case round =>
    obtain ⟨r, hr, rfl, hN, hM, hB⟩ := hrel
    clear hN3 hM3 hB3
    have hl := encTo_len rk (roundsOf rk) s r (by have := Hrk.out; have := Hn.out; have := HR.out; omega) Hs.out
    have HX : Hid (encTo rk (roundsOf rk) s (r + 1) = addK rk (r + 1) (if r + 1 < roundsOf rk then mixTo 1 4 (sh16 ((encTo rk (roundsOf rk) s r).map sbox)) else sh16 ((encTo rk (roundsOf rk) s r).map sbox))) := hid rfl
    by_cases hlt : r < roundsOf rk
    · generalize encTo rk (roundsOf rk) s r = x at hN hl HX
      have Hl := hid hl; clear hl
      go_wp2_with fail
      refine (subs_any wr kb tb w.heap.size 16 16 _ x tA16 (hk.below hB hkl) (ht.below hB htl) hN Hl.out (by omega) (by omega) (by omega)).mono ?_
      rintro e w4 ⟨rfl, hN4, hc4⟩
      have hM4 := hM.chg hc4 hM.lt (by simp)
      have hs4 := hB.size
      have hB4 := hB.trans (hc4.below (M := w.heap.size) (by omega) (by simp))
      clear hN hM hc4
      go_wp2_with (refine wpList_load_mid rfl 100 (.tmp 3) rfl w.heap.size 0 rfl (bys (x.map sbox)) _ hN4.whole under54 rfl (by rw [size54, bys_length, List.length_map, Hl.out]) ?_)
      have hml : (x.map sbox).length = 16 := by rw [List.length_map]; exact Hl.out
      refine (shift_any (x.map sbox) hml w4).mono ?_
      rintro e w5 ⟨rfl, hB5⟩
      have hN5 := hN4.below hB5 hN4.lt
      have hM5 := hM4.below hB5 hM4.lt
      have hB6 := hB4.trans (hB5.mono hB4.size)
      have hsl := sh16_len hml
      clear hN4 hM4 hB4 hB5 hs4
      go_wp2_with (refine wpList_store_mid rfl 100 (.tmp 3) (.tmp 23) rfl w.heap.size 0 (bys (sh16 (x.map sbox))).toArray rfl rfl (hN5.there 0 _ (by rw [List.size_toArray, bys_length, bys_length, hsl, hml]; omega)) (by rw [size54, List.size_toArray, bys_length, hsl]) (all_oneCell_toArray (bys_one _)) ?_)
      all_goals
        have hN6 := hN5.setCells (bys (sh16 (x.map sbox))) 0 (by rw [bys_length, bys_length, hsl, hml]; omega)
        rw [splice_whole _ _ (by rw [bys_length, bys_length, hsl, hml])] at hN6
        have hc6 := (Chg.refl w5.heap.size [w.heap.size] w5).setCells (b := w.heap.size) (.inl (by simp)) (bys (sh16 (x.map sbox))) 0
        have hM6 := hM5.chg hc6 hM5.lt (by simp)
        have hB7 := hB6.trans (hc6.below (M := w.heap.size) hB6.size (by simp))
        clear hN5 hM5 hB6 hc6
        generalize w5.setCells w.heap.size 0 (bys (sh16 (x.map sbox))) = w6 at *
      · have hlt2 : r + 1 < roundsOf rk := by omega
        refine (mix_any w6 w.heap.size 1 _ tA16 hN6 hsl (by omega)).mono ?_
        rintro e w7 ⟨rfl, hN7, hc7⟩
        have hM7 := hM6.chg hc7 hM6.lt (by simp)
        have hB8 := hB7.trans (hc7.below (M := w.heap.size) hB7.size (by simp))
        clear hN6 hM6 hB7 hc7
        go_wp2_with fail
        refine (add_any w7 kb tb wb w.heap.size n cap (r + 1) _ rk ex tA16 (hk.below hB8 hkl) (hw.below hB8 hwl) hN7 (mixTo_len _ _ _ (by omega) hsl) (by have := Hrk.out; have := Hn.out; have := HR.out; simp; omega) (by have := Hn.out; have := HR.out; omega) (by omega) (by omega) (by have := Hn.out; omega)).mono ?_
        rintro e w8 ⟨rfl, hN8, hc8⟩
        rw [addTo_ext _ rk (r + 1) (by have := Hrk.out; have := Hn.out; have := HR.out; omega) (mixTo_len _ _ _ (by omega) hsl)] at hN8
        have hM8 := hM7.chg hc8 hM7.lt (by simp)
        have hB9 := hB8.trans (hc8.below (M := w.heap.size) hB8.size (by simp))
        clear hN7 hM7 hB8 hc8
        go_wp2_with fail
        go_roundw
        case rel =>
          refine ⟨r + 1, by omega, by go_num, ?_, hM8, hB9⟩
          rw [HX.out, if_pos hlt2]; exact hN8
        case measure => simp [intOf]; omega
      · have hlt2 : ¬ r + 1 < roundsOf rk := by omega
        refine (add_any w6 kb tb wb w.heap.size n cap (r + 1) _ rk ex tA16 (hk.below hB7 hkl) (hw.below hB7 hwl) hN6 hsl (by have := Hrk.out; have := Hn.out; have := HR.out; simp; omega) (by have := Hn.out; have := HR.out; omega) (by omega) (by omega) (by have := Hn.out; omega)).mono ?_
        rintro e w8 ⟨rfl, hN8, hc8⟩
        rw [addTo_ext _ rk (r + 1) (by have := Hrk.out; have := Hn.out; have := HR.out; omega) hsl] at hN8
        have hM8 := hM6.chg hc8 hM6.lt (by simp)
        have hB9 := hB7.trans (hc8.below (M := w.heap.size) hB7.size (by simp))
        clear hN6 hM6 hB7 hc8
        go_wp2_with fail
        go_roundw
        case rel =>
          refine ⟨r + 1, by omega, by go_num, ?_, hM8, hB9⟩
          rw [HX.out, if_neg hlt2]; exact hN8
        case measure => simp [intOf]; omega
    · have hre : r = roundsOf rk := by omega
      have he : enc rk s = encTo rk (roundsOf rk) s r := by unfold enc; rw [hre]
      rw [← he] at hN hl
      have Hl := hid hl
      clear hl he hre HX
      go_wp2_with (first | (refine wpList_load_mid rfl 100 (.tmp 3) rfl w.heap.size 0 rfl (bys (enc rk s)) _ hN.whole under54 rfl (by rw [size54, bys_length, Hl.out]) ?_) | (refine wpList_store_mid rfl 100 (.tmp 4) (.tmp 31) rfl (w.heap.size + 1) 0 (bys (enc rk s)).toArray rfl rfl (hM.there 0 _ (by rw [List.size_toArray, bys_length, bys_length, Hl.out]; decide)) (by rw [size54, List.size_toArray, bys_length, Hl.out]) (all_oneCell_toArray (bys_one _)) ?_))
      have hMs := hM.setCells (bys (enc rk s)) 0 (by rw [bys_length, bys_length, Hl.out]; decide)
      rw [splice_whole _ _ (by rw [bys_length, bys_length, Hl.out]; decide)] at hMs
      refine bodyPost_ret (v := .agg (bys (enc rk s)).toArray) (results_cell_row (P := Tryz.prog) (p := 4) (ty := 100) rfl _ _ (w.heap.size + 1) tA16 _ (0, 0) _ rfl hMs under54 rfl (by rw [size54, List.size_toArray, bys_length, Hl.out])) rfl ⟨rfl, ?_⟩
      exact hB.trans (((Chg.refl (w.heap.size) [] wr).setCells (.inr (by omega)) _ _).below (Nat.le_refl _) (by simp))
#print axioms enc_any
end Go.Proofs.YtnmmnlffobnbfaaGreatDoor
